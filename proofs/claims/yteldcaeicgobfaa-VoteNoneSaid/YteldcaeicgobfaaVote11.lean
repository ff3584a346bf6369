/-
  The walk of VoteNone.
  Conditions: none.
-/
import Derived.Test.YteldcaeicgobfaaVote10
set_option linter.unusedSimpArgs false
set_option linter.unusedVariables false
namespace Go.Proofs
open Go Go.Vc

theorem readP_zero : readP z384 = (0, mark0) := by
  have h : rawNum z384 = 0 := by kernel_rfl
  unfold readP
  rw [if_pos (.inl h)]
theorem readB_new (file : Int) : DM.new.readB file 0 6 = List.replicate 768 0 := by kernel_rfl
theorem place_z0 : placeI (List.replicate 768 0) 0 = z384 := by kernel_rfl
theorem place_z1 : placeI (List.replicate 768 0) 1 = z384 := by kernel_rfl
theorem vopen_new {file : Int} (h1 : 0 ≤ file) (h2 : file < 5) : DM.new.vopen file = (0, open0 DM.new) := by
  have hm : mayB file 0 6 = true := by simp [mayB, h1, h2]
  have r : ∀ i, i < 2 → vround file (List.replicate 768 0) i (open0 DM.new) = (0, open0 DM.new) := by
    intro i hi
    have e : placeI (List.replicate 768 0) i = z384 := by
      have : i = 0 ∨ i = 1 := by omega
      rcases this with rfl | rfl
      · exact place_z0
      · exact place_z1
    unfold vround
    rw [e, readP_zero]
    simp [open0]
  unfold DM.vopen
  rw [if_neg (by simp [DM.new]), if_neg (by simp [hm]), readB_new]
  unfold vgo
  rw [r 0 (by omega), if_pos rfl]
  unfold vgo
  rw [r 1 (by omega), if_pos rfl]
  rfl
theorem vopen_not {file : Int} (h : ¬ (0 ≤ file ∧ file < 5)) : DM.new.vopen file = (2, open0 DM.new) := by
  have hm : mayB file 0 6 = false := by
    simp [mayB]
    omega
  unfold DM.vopen
  rw [if_neg (by simp [DM.new]), if_pos hm]

def T7 (v0 v16 : Value) (K : Kont) (w29 : World) : Prop :=
 rv Try.prog (Instr.loadAt 59 v0) w29 fun v30 w31 =>
 Ca Try.prog 32 #[(.pointer none), v30] w31 fun v32 w33 =>
 rv Try.prog (bin .eql 28 true v32 (.int .i64 1)) w33 fun v34 w35 =>
 ifB v34
 (rv Try.prog (Instr.loadAt 59 v0) w35 fun v36 w37 =>
 Ca Try.prog 32 #[v16, v36] w37 fun v38 w39 =>
 rv Try.prog (bin .eql 28 true v38 (.int .i64 1)) w39 fun v40 w41 =>
 ifB v40
 (Ca Try.prog 33 #[(.pointer none)] w41 fun v42 w43 =>
 rv Try.prog (Instr.build 59 #[]) w43 fun v44 w45 =>
 rv Try.prog (bin .eql 59 false v42 v44) w45 fun v46 w47 =>
 ifB v46
 (Ca Try.prog 33 #[v16] w47 fun v48 w49 =>
 rv Try.prog (Instr.build 59 #[]) w49 fun v50 w51 =>
 rv Try.prog (bin .eql 59 false v48 v50) w51 fun v52 w53 =>
 ifB v52
 (Ca Try.prog 34 #[(.pointer none)] w53 fun v54 w55 =>
 rv Try.prog (bin .eql 27 true v54 (.int .u64 0)) w55 fun v56 w57 =>
 ifB v56
 (Ca Try.prog 34 #[v16] w57 fun v58 w59 =>
 rv Try.prog (bin .eql 27 true v58 (.int .u64 0)) w59 fun v60 w61 =>
 ifB v60
 (Ca Try.prog 35 #[] w61 fun v62 w63 =>
 K v62 w63)
 (K (.bool false) w61))
 (K (.bool false) w57))
 (K (.bool false) w53))
 (K (.bool false) w47))
 (K (.bool false) w41))
 (K (.bool false) w35)
theorem T7_ok {w : World} {K : Kont} {q v : Nat} {m : MarkM} (hq : hp w q = some (.cells (markV m).toArray 59 (0, 0))) (hv : hp w v = some (.cells zeroVote.toArray 64 (0, 0))) (hK : ∀ w', Mod (fun _ => False) w w' → K (.bool true) w') :
    T7 (.pointer (some ⟨q, 0, none⟩)) (.pointer (some ⟨v, 0, none⟩)) K w := by
  have hv : NoVote w (dptr v) := .inr ⟨v, rfl, hv⟩
  have hn : NoVote w (.pointer none) := .inl rfl
  unfold T7
  refine rv_of (ld_mark hq) ?_
  refine ca_set_no hn fun w1 m1 => ?_
  refine rv_of (v := .bool true) (w' := w1) (by simp [go_sem]) ?_
  rw [ifB_bool, if_pos rfl]
  refine rv_of (ld_mark (m1.keep hq id)) ?_
  refine ca_set_no (hv.mod m1) fun w2 m2 => ?_
  have t2 := m1.trans m2
  refine rv_of (v := .bool true) (w' := w2) (by simp [go_sem]) ?_
  rw [ifB_bool, if_pos rfl]
  refine ca_mark_no (hn.mod t2) fun w3 m3 => ?_
  have t3 := t2.trans m3
  refine rv_of (v := .agg (markV mark0).toArray) (w' := w3) (by simp [go_sem, markV, mark0]) ?_
  refine rv_of (eql_mark _) ?_
  rw [ifB_bool, if_pos (by simp)]
  refine ca_mark_no (hv.mod t3) fun w4 m4 => ?_
  have t4 := t3.trans m4
  refine rv_of (v := .agg (markV mark0).toArray) (w' := w4) (by simp [go_sem, markV, mark0]) ?_
  refine rv_of (eql_mark _) ?_
  rw [ifB_bool, if_pos (by simp)]
  refine ca_number_no (hn.mod t4) ?_
  refine rv_of (v := .bool true) (w' := w4) (by simp [go_sem]) ?_
  rw [ifB_bool, if_pos rfl]
  refine ca_number_no (hv.mod t4) ?_
  refine rv_of (v := .bool true) (w' := w4) (by simp [go_sem]) ?_
  rw [ifB_bool, if_pos rfl]
  exact ca_known20 fun w5 m5 => hK _ (t4.trans m5)

theorem ca_voteNone {w : World} {K : Kont} {file : Int} {m : MarkM} (hK : ∀ w', Mod (fun _ => False) w w' → K (.bool true) w') : Ca Try.prog 7 #[.int .i64 file, .agg (markV m).toArray] w K := by
  apply ca7
  unfold F7
  refine rv_box ?_
  have mA : Mod (fun _ => False) w (w.alloc (.cells (markV m).toArray 59)) := (Mod.refl _ w).alloc _
  have hA : hp (w.alloc (.cells (markV m).toArray 59)) w.heap.size = some (.cells (markV m).toArray 59 (0, 0)) := by simp only [hp_alloc, if_pos]
  generalize (w.alloc (.cells (markV m).toArray 59)) = W at mA hA
  obtain ⟨q, hq⟩ : ∃ q, w.heap.size = q := ⟨_, rfl⟩
  rw [hq] at hA ⊢
  refine ca_vopen_nil ?_
  refine rv_of (v := .pointer none) (w' := W) (by simp [go_sem]) ?_
  refine rv_of (v := .int .i64 1) (w' := W) (by simp [go_sem]) ?_
  refine ca_new fun w1 d1 m1 => ?_
  have lW : W.heap.size = q + 1 ∨ q < W.heap.size := .inr (lt_of_heap hA)
  have hal : ∀ W, (Instr.alloc 64 true (.tuple #[])).run Try.prog W = .ok (.pointer (some ⟨W.heap.size, 0, none⟩)) (W.alloc (.cells zeroVote.toArray 64)) := fun W => by simp [go_sem, zeroVote]
  have t1 := mA.trans m1
  have sub1 : ∀ b, b = W.heap.size → w.heap.size ≤ b := fun b e => by have := mA.size; omega
  have fin : ∀ w2, Mod (fun _ => False) w w2 → hp w2 q = some (.cells (markV m).toArray 59 (0, 0)) → T7 (.pointer (some ⟨q, 0, none⟩)) (.pointer (some ⟨w2.heap.size, 0, none⟩)) K (w2.alloc (.cells zeroVote.toArray 64)) := fun w2 t2 hq2 => by
    have ma : Mod (fun _ => False) w2 (w2.alloc (.cells zeroVote.toArray 64)) := (Mod.refl _ w2).alloc _
    exact T7_ok (ma.keep hq2 id) (by simp only [hp_alloc, if_pos]) fun w' m' => hK _ ((t2.trans ma).trans m')
  have hA1 := m1.keep hA id
  by_cases hf : 0 ≤ file ∧ file < 5
  · have e := vopen_new hf.1 hf.2
    refine ca_vopen d1 (by simp [DM.new]) (fun w' F' h => absurd (by rw [e]) h) fun w2 F2 v _ d2 s2 lv vF hv => ?_
    have t2 : Mod (fun _ => False) w w2 := t1.on s2.mod fun b h => .inr (sub1 b h)
    have hA2 := s2.mod.keep hA1 (fun h => by omega)
    refine rv_of (v := dptr v) (w' := w2) (by simp [go_sem]) ?_
    refine rv_of (v := .int .i64 0) (w' := w2) (by simp [go_sem]) ?_
    refine rv_of (hal w2) ?_
    refine rv_of (v := .bool true) (by simp [go_sem]; rfl) ?_
    rw [ifB_bool, if_pos rfl]
    refine rv_of (v := .bool true) (by simp [go_sem]; rfl) ?_
    rw [ifB_bool, if_pos rfl]
    refine rv_of (v := .bool true) (by simp [go_sem]; rfl) ?_
    refine rv_of (v := .bool true) (by simp [go_sem, hf.1]; rfl) ?_
    rw [ifB_bool, if_pos rfl]
    refine rv_of (v := .bool true) (by simp [go_sem, hf.2]; rfl) ?_
    refine rv_of (v := .bool true) (by simp [go_sem]; rfl) ?_
    rw [ifB_bool, if_pos rfl]
    exact fin w2 t2 hA2
  · have e := vopen_not hf
    refine ca_vopen d1 (by simp [DM.new]) (fun w2 F2 _ d2 s2 => ?_) fun w' F' v h => absurd h (by rw [e]; simp)
    rw [e]
    have t2 : Mod (fun _ => False) w w2 := t1.on s2.mod fun b h => .inr (sub1 b h)
    have hA2 := s2.mod.keep hA1 (fun h => by omega)
    refine rv_of (v := .pointer none) (w' := w2) (by simp [go_sem]) ?_
    refine rv_of (v := .int .i64 2) (w' := w2) (by simp [go_sem]) ?_
    refine rv_of (hal w2) ?_
    refine rv_of (v := .bool true) (by simp [go_sem]; rfl) ?_
    rw [ifB_bool, if_pos rfl]
    refine rv_of (v := .bool false) (by simp [go_sem]; rfl) ?_
    rw [ifB_bool, if_neg (by simp)]
    refine rv_of (v := .bool true) (by simp [go_sem]; rfl) ?_
    rw [ifB_bool, if_pos rfl]
    refine rv_of (v := .bool false) (by simp [go_sem]; rfl) ?_
    by_cases h0 : 0 ≤ file
    · have h5 : ¬ file < 5 := fun h => hf ⟨h0, h⟩
      refine rv_of (v := .bool true) (by simp [go_sem, h0]; rfl) ?_
      rw [ifB_bool, if_pos rfl]
      refine rv_of (v := .bool false) (by simp [go_sem, h5]; rfl) ?_
      refine rv_of (v := .bool true) (by simp [go_sem]; rfl) ?_
      rw [ifB_bool, if_pos rfl]
      exact fin w2 t2 hA2
    · refine rv_of (v := .bool false) (by simp [go_sem, h0]; rfl) ?_
      rw [ifB_bool, if_neg (by simp)]
      refine rv_of (v := .bool true) (by simp [go_sem]; rfl) ?_
      rw [ifB_bool, if_pos rfl]
      exact fin w2 t2 hA2
end Go.Proofs
