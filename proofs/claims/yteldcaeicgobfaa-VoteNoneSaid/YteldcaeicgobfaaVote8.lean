/-
  The contract of vote.Set, and of calls on no vote.
  Conditions: the memory holds the vote and its disk.
-/
import Derived.Test.YteldcaeicgobfaaVote7
set_option linter.unusedSimpArgs false
set_option linter.unusedVariables false
namespace Go.Proofs
open Go Go.Vc

def DM.vset1 (D : DM) (file : Int) (n at_ : Nat) (m : MarkM) : Int × DM := D.writes file (placeW (1 - at_) (wr (n + 1) m))
def DM.vset (D : DM) (file : Int) (n at_ : Nat) (m : MarkM) : Int × DM :=
  if (D.vset1 file n at_ m).1 = 0 then (D.vset1 file n at_ m).2.sync else D.vset1 file n at_ m
theorem wr_length (n : Nat) (m : MarkM) : (wr n m).length = 384 := by unfold wr; rw [wrN_length]
theorem placeW_len (k : Nat) {p : List UInt8} (h : p.length = 384) : (placeW k p).length = 3 ∧ ∀ s ∈ placeW k p, s.2.length = 128 := by
  refine ⟨by simp [placeW], fun s hs => ?_⟩
  simp only [placeW, List.mem_map, List.mem_range] at hs
  obtain ⟨j, hj, rfl⟩ := hs
  exact secI_length h hj

set_option maxRecDepth 10000 in
theorem ca_vset {w : World} {K : Kont} {v d : Nat} {F : Nat → Prop} {D : DM} {file : Int} {m m' : MarkM} {n at_ : Nat} (hv : VoteAt w v d file m n at_) (hvF : ¬ F v) (h : DiskR w d F D) (hD : D.waits.length < 137438953472) (hn : n + 1 < 18446744073709551616) (hat : at_ ≤ 1) (hm' : m'.ok)
    (hK0 : m'.may = false → ∀ w', Mod (fun _ => False) w w' → K (.int .i64 2) w')
    (hK1 : m'.may = true → (D.vset file n at_ m').1 ≠ 0 → ∀ w' F', DiskR w' d F' (D.vset file n at_ m').2 → Stp F w w' F' → VoteAt w' v d file m n at_ → ¬ F' v → K (.int .i64 (D.vset file n at_ m').1) w')
    (hK2 : m'.may = true → (D.vset file n at_ m').1 = 0 → ∀ w' F', DiskR w' d F' (D.vset file n at_ m').2 → Stp (fun b => F b ∨ b = v) w w' F' → VoteAt w' v d file m' (n + 1) (1 - at_) → ¬ F' v → K (.int .i64 0) w') :
    Ca Try.prog 32 #[dptr v, .agg (markV m').toArray] w K := by
  apply ca32
  unfold F32
  refine rv_box ?_
  have mA : Mod (fun _ => False) w (w.alloc (.cells (markV m').toArray 59)) := (Mod.refl _ w).alloc _
  have hA : hp (w.alloc (.cells (markV m').toArray 59)) w.heap.size = some (.cells (markV m').toArray 59 (0, 0)) := by simp only [hp_alloc, if_pos]
  generalize (w.alloc (.cells (markV m').toArray 59)) = W at mA hA
  obtain ⟨q, hq⟩ : ∃ q, w.heap.size = q := ⟨_, rfl⟩
  have hvq : v < q := by have := lt_of_heap hv; omega
  rw [hq] at hA ⊢
  have hV := mA.keep hv id
  refine ca_vnone hV ?_
  rw [ifB_bool, if_neg (by simp)]
  refine rv_of (ld_mark hA) ?_
  refine ca_vmay fun W1 m1 => ?_
  have hA1 := m1.keep hA id
  have hV1 := m1.keep hV id
  have dW1 := (h.mod mA fun _ _ h => h).mod m1 fun _ _ h => h
  have sW1 : Stp F w W1 F := ⟨(mA.trans m1).mono fun _ _ h => h.elim, fun b hb => .inl hb⟩
  refine rv_of (v := .bool (!m'.may)) (w' := W1) (by simp [go_sem]) ?_
  cases hmay : m'.may
  · rw [ifB_bool, if_pos (by simp)]
    exact hK0 hmay W1 (mA.trans m1)
  rw [ifB_bool, if_neg (by simp)]
  rw [show dptr v = .pointer (some ⟨v, 0, none⟩) from rfl, nilK_p]
  refine rv_of (vfield.2.2.2 _) ?_
  refine rv_of (vld_at hV1) ?_
  have hw1 : IntKind.i64.wrap (1 - (at_ : Int)) = ((1 - at_ : Nat) : Int) := by rw [IntKind.wrap_i64]; omega
  have hwn : IntKind.u64.wrap ((n : Int) + 1) = ((n + 1 : Nat) : Int) := by rw [IntKind.wrap_u64]; omega
  refine rv_of (v := .int .i64 ((1 - at_ : Nat) : Int)) (w' := W1) (by simp [go_sem, hw1]) ?_
  rw [nilK_p]
  refine rdP_of vfield.2.2.1 ?_
  refine rdW_of (vld_n (W := W1.drew) hV1) ?_
  refine rdP_of (v := .int .u64 ((n + 1 : Nat) : Int)) (fun w => by simp [-Int.natCast_add, go_sem, hwn]) ?_
  refine rdW_of (ld_mark (W := W1.drew) hA1) ?_
  refine ca_written hn hm' fun W2 m2 => ?_
  have m12 : Mod (fun _ => False) W1 W2 := ((Mod.refl _ W1).drew).trans m2
  have hA2 := m12.keep hA1 id
  have hV2 := m12.keep hV1 id
  have dW2 := dW1.mod m12 fun _ _ h => h
  have sW2 : Stp F w W2 F := sW1.trans ⟨m12.mono fun _ _ h => h.elim, fun b hb => .inl hb⟩
  refine ca_vwrite hV2 hvF dW2 (by omega) (wr_length _ _) (by omega) fun W3 F3 d3 s3 => ?_
  have hqF : ¬ F q := fun hb => by have := h.lt hb; omega
  have hno : ∀ b, b < W2.heap.size → ¬ F b → ¬ F3 b := fun b hb hf h => by
    rcases s3.sub b h with h | h
    · exact hf h
    · omega
  have hv3 := hno v (lt_of_heap hV2) hvF
  have hq3 := hno q (lt_of_heap hA2) hqF
  have hV3 := s3.mod.keep hV2 hvF
  have hA3 := s3.mod.keep hA2 hqF
  have sW3 := sW2.trans s3
  have eS : D.vset file n at_ m' = if (D.writes file (placeW (1 - at_) (wr (n + 1) m'))).1 = 0 then (D.writes file (placeW (1 - at_) (wr (n + 1) m'))).2.sync else D.writes file (placeW (1 - at_) (wr (n + 1) m')) := rfl
  have hl := writes_len file _ D (placeW_len (1 - at_) (wr_length (n + 1) m')).2
  rw [(placeW_len (1 - at_) (wr_length (n + 1) m')).1] at hl
  generalize D.writes file (placeW (1 - at_) (wr (n + 1) m')) = R at d3 eS hl ⊢
  rw [eS] at hK1 hK2
  by_cases he : R.1 = 0
  · rw [if_pos he] at hK1 hK2
    refine rv_of (v := .bool false) (w' := W3) (by simp [go_sem, he]) ?_
    rw [ifB_bool, if_neg (by simp)]
    rw [nilK_p]
    refine rv_of (vfield.1 _) ?_
    refine rv_of (vld_d hV3) ?_
    refine ca_sync d3 (by omega) fun W4 F4 d4 s4 => ?_
    have hno4 : ∀ b, b < W3.heap.size → ¬ F3 b → ¬ F4 b := fun b hb hf h => by
      rcases s4.sub b h with h | h
      · exact hf h
      · omega
    have hv4 := hno4 v (lt_of_heap hV3) hv3
    have hV4 := s4.mod.keep hV3 hv3
    have hA4 := s4.mod.keep hA3 hq3
    have sW4 := sW3.trans s4
    by_cases hs : R.2.sync.1 = 0
    · refine rv_of (v := .bool false) (w' := W4) (by simp [go_sem, hs]) ?_
      rw [ifB_bool, if_neg (by simp)]
      refine rdW_of (ld_mark (W := W4.drew) hA4) ?_
      rw [nilK_p]
      refine rdP_of vfield.2.2.1 ?_
      refine rdW_of (vld_n (W := W4.drew) hV4) ?_
      refine rdP_of (v := .int .u64 ((n + 1 : Nat) : Int)) (fun w => by simp [-Int.natCast_add, go_sem, hwn]) ?_
      rw [nilK_p]
      refine rdP_of vfield.2.1 ?_
      refine vst_m (W := W4.drew) hV4 fun W5 m5 hV5 => ?_
      rw [nilK_p]
      refine rdP_of vfield.2.2.1 ?_
      refine vst_n hV5 fun W6 m6 hV6 => ?_
      rw [nilK_p]
      refine rdP_of vfield.2.2.2 ?_
      refine vst_at hV6 fun W7 m7 hV7 => ?_
      have m47 : Mod (fun b => b = v) W4 W7 := (((Mod.refl (fun b => b = v) W4).drew.trans m5).trans m6).trans m7
      exact hK2 hmay hs W7 F4 (d4.mod m47 fun b hb e => hv4 (e ▸ hb)) ⟨(sW4.mod.mono fun b _ hb => .inl hb).on m47 fun b hb => .inl (.inr hb), fun b hb => (sW4.sub b hb).imp .inl id⟩ hV7 hv4
    · refine rv_of (v := .bool true) (w' := W4) (by simp [go_sem, hs]) ?_
      rw [ifB_bool, if_pos rfl]
      exact hK1 hmay hs W4 F4 d4 sW4 hV4 hv4
  · rw [if_neg he] at hK1 hK2
    refine rv_of (v := .bool true) (w' := W3) (by simp [go_sem, he]) ?_
    rw [ifB_bool, if_pos rfl]
    exact hK1 hmay he W3 F3 d3 sW3 hV3 hv3

/-! ### No vote -/
theorem ca_vnone_nil {w : World} {K : Kont} (hK : K (.bool true) w) : Ca Try.prog 66 #[.pointer none] w K := by
  apply ca66
  unfold F66
  simp [go_sem]
  exact hK
def zeroVote : List Value := [.pointer none, .int .i64 0, .int .u64 0, .int .i8 0, .int .u8 0, .int .u64 0, .int .u64 0, .int .u64 0, .int .i64 0]
theorem ca_vnone_zero {w : World} {K : Kont} {v : Nat} (h : hp w v = some (.cells zeroVote.toArray 64 (0, 0))) (hK : K (.bool true) w) : Ca Try.prog 66 #[dptr v] w K := by
  apply ca66
  unfold F66
  unfold zeroVote at h
  simp [go_sem, dptr, h]
  exact hK
/-- What is no vote. -/
def NoVote (w : World) (x : Value) : Prop := x = .pointer none ∨ ∃ v, x = dptr v ∧ hp w v = some (.cells zeroVote.toArray 64 (0, 0))
theorem NoVote.mod {w W : World} {x : Value} (h : NoVote w x) (m : Mod (fun _ => False) w W) : NoVote W x := h.imp id fun ⟨v, e, h⟩ => ⟨v, e, m.keep h id⟩
theorem ca_no {w : World} {K : Kont} {x : Value} (h : NoVote w x) (hK : K (.bool true) w) : Ca Try.prog 66 #[x] w K := by
  rcases h with rfl | ⟨v, rfl, h⟩
  · exact ca_vnone_nil hK
  · exact ca_vnone_zero h hK
theorem ca_number_no {w : World} {K : Kont} {x : Value} (h : NoVote w x) (hK : K (.int .u64 0) w) : Ca Try.prog 34 #[x] w K := by
  apply ca34
  unfold F34
  refine ca_no h ?_
  simp [go_sem]
  exact hK
theorem ca_mark_no {w : World} {K : Kont} {x : Value} (h : NoVote w x) (hK : ∀ w', Mod (fun _ => False) w w' → K (.agg (markV mark0).toArray) w') : Ca Try.prog 33 #[x] w K := by
  apply ca33
  unfold F33
  have hal : ∀ W, (Instr.alloc 59 true (.tuple #[])).run Try.prog W = .ok (.pointer (some ⟨W.heap.size, 0, none⟩)) (W.alloc (.cells (markV mark0).toArray 59)) := fun W => by simp [go_sem, markV, mark0]
  refine rv_of (hal w) ?_
  have mC : Mod (fun _ => False) w (w.alloc (.cells (markV mark0).toArray 59)) := (Mod.refl _ w).alloc _
  have hC : hp (w.alloc (.cells (markV mark0).toArray 59)) w.heap.size = some (.cells (markV mark0).toArray 59 (0, 0)) := by simp only [hp_alloc, if_pos]
  generalize (w.alloc (.cells (markV mark0).toArray 59)) = W4 at mC hC
  refine ca_no (h.mod mC) ?_
  rw [ifB_bool, if_pos rfl]
  unfold markV mark0 at hC
  simp [go_sem, hC]
  refine hK _ (mod5 mC (Nat.le_refl _) _ _ _ _ _)
theorem ca_set_no {w : World} {K : Kont} {x : Value} {m' : MarkM} (h : NoVote w x) (hK : ∀ w', Mod (fun _ => False) w w' → K (.int .i64 1) w') : Ca Try.prog 32 #[x, .agg (markV m').toArray] w K := by
  apply ca32
  unfold F32
  refine rv_box ?_
  have mA : Mod (fun _ => False) w (w.alloc (.cells (markV m').toArray 59)) := (Mod.refl _ w).alloc _
  refine ca_no (h.mod mA) ?_
  rw [ifB_bool, if_pos rfl]
  exact hK _ mA
theorem ca_vopen_nil {w : World} {K : Kont} {file : Int} (hK : K (.tuple #[.pointer none, .int .i64 1]) w) : Ca Try.prog 31 #[.pointer none, .int .i64 file] w K := by
  apply ca31
  unfold F31
  refine ca_read_nil ?_
  refine rv_of (v := .slice none 0 0) (w' := w) (by simp [go_sem]) ?_
  refine rv_of (v := .int .i64 1) (w' := w) (by simp [go_sem]) ?_
  refine rv_of (v := .bool true) (w' := w) (by simp [go_sem]) ?_
  rw [ifB_bool, if_pos rfl]
  exact hK
end Go.Proofs
