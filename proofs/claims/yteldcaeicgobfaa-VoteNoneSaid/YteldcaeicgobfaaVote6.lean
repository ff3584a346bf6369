/-
  The contract of the vote's clean.
  Conditions: the memory holds the vote and its disk.
-/
import Derived.Test.YteldcaeicgobfaaVote5
set_option linter.unusedSimpArgs false
set_option linter.unusedVariables false
namespace Go.Proofs
open Go Go.Vc

theorem secT1 : isAggT Try.prog 125 = true := by kernel_rfl
theorem secT2 : Try.prog.cellsOf 125 = 127 + 1 := by kernel_rfl
theorem secT3 : hasZero Try.prog 125 = true := by kernel_rfl
theorem secT4 : zeroC Try.prog 125 = bv zsec := by kernel_rfl
theorem secT5 : Try.prog.built 125 (#[] : Array (Nat × Value)).toList = some (bv zsec).toArray := by kernel_rfl
theorem plT5 : Try.prog.built 127 (#[] : Array (Nat × Value)).toList = some (bv (List.replicate 384 0)).toArray := by kernel_rfl
theorem extract_sec (p : List UInt8) (i : Nat) : (bv p).toArray.extract (i * (127 + 1)) (i * (127 + 1) + (127 + 1)) = (bv (secI p i)).toArray := by
  apply Array.toList_inj.1
  simp [secI, bv_drop, bv_take, List.extract_eq_take_drop, Nat.mul_comm]
theorem lay_all {C xs : List Value} (h : C.length = xs.length) : lay C 0 xs = xs := by
  simp [lay, h]

set_option maxRecDepth 10000 in
theorem ca_vclean {w : World} {K : Kont} {v d : Nat} {F : Nat → Prop} {D : DM} {file : Int} {m : MarkM} {n at_ k : Nat} {p : List UInt8} (hv : VoteAt w v d file m n at_) (hvF : ¬ F v) (h : DiskR w d F D) (hD : D.waits.length < 274877906944) (hp384 : p.length = 384) (hk : k ≤ 1)
    (hK : ∀ w' F', DiskR w' d F' (D.writes file (cleanFrom k p 0)).2 → Stp F w w' F' → K (.int .i64 (D.writes file (cleanFrom k p 0)).1) w') : Ca Try.prog 65 #[dptr v, .int .i64 (k : Int), .agg (bv p).toArray] w K := by
  apply ca65
  unfold F65
  refine rv_box ?_
  have mA : Mod (fun _ => False) w (w.alloc (.cells (bv p).toArray 127)) := (Mod.refl _ w).alloc _
  have hA : hp (w.alloc (.cells (bv p).toArray 127)) w.heap.size = some (.cells (bv p).toArray 127 (0, 0)) := by simp only [hp_alloc, if_pos]
  generalize (w.alloc (.cells (bv p).toArray 127)) = W0 at mA hA
  obtain ⟨q, hq⟩ : ∃ q, w.heap.size = q := ⟨_, rfl⟩
  rw [hq] at hA ⊢
  refine rx_bigS (bv p) 383 plT1 plT2 (by simp [hp384]) (At.whole hA) ?_
  unfold L65_0
  refine loopK (fun s W => ∃ (i : Nat) (x : Value) (Di : DM) (F' : Nat → Prop), i ≤ 3 ∧ s = (x, .int .i64 i, ()) ∧ DiskR W d F' Di ∧ Stp F w W F' ∧ D.writes file (cleanFrom k p 0) = Di.writes file (cleanFrom k p i) ∧ Di.waits.length ≤ D.waits.length + 128 * i ∧ ¬ F' v ∧
      VoteAt W v d file m n at_)
    (fun s _ => match s.2.1 with | .int _ i => 3 - i.toNat | _ => 0) ⟨0, _, D, F, by omega, rfl, h.mod mA fun _ _ h => h, ⟨mA.mono fun _ _ h => h.elim, fun b hb => .inl hb⟩, rfl, by omega, hvF, mA.keep hv id⟩ ?_
  rintro ⟨_, _⟩ W ⟨i, x, Di, F', hi, ⟨⟩, dW, sW, eW, lW, vF, hV⟩ KN hKN _
  have hw1 : IntKind.i64.wrap ((i : Int) + 1) = ((i + 1 : Nat) : Int) := by rw [IntKind.wrap_i64]; omega
  by_cases hlt : i < 3
  · have hlt' : (i : Int) < 3 := by omega
    have hw2 : IntKind.i64.wrap (3 * (k : Int)) = 3 * (k : Int) := by rw [IntKind.wrap_i64]; omega
    have hw3 : IntKind.i64.wrap (3 * (k : Int) + (i : Int)) = 3 * (k : Int) + i := by rw [IntKind.wrap_i64]; omega
    refine rv_of (v := .bool true) (w' := W) (by simp [go_sem, hlt']) ?_
    rw [ifB_bool, if_pos rfl]
    refine rv_of (run_index_agg (n := 127) Try.underlying127 secT1 secT2 hlt) ?_
    rw [extract_sec]
    have hsl := secI_length hp384 hlt
    refine rx_bigA secT3 ?_
    rw [secT4]
    have mB : Mod (fun _ => False) W (W.alloc (.cells (bv zsec).toArray 125)) := (Mod.refl _ W).alloc _
    have hB : hp (W.alloc (.cells (bv zsec).toArray 125)) W.heap.size = some (.cells (bv zsec).toArray 125 (0, 0)) := by simp only [hp_alloc, if_pos]
    generalize (W.alloc (.cells (bv zsec).toArray 125)) = W1 at mB hB
    refine rux_bigU (n := 127) secT2 (by simp [hsl]) hB (by simp [hsl, zsec_length]) (bv_one _) ?_
    rw [show (bv zsec).toArray.toList = bv zsec from rfl, lay_all (by simp [hsl, zsec_length])]
    have mC : Mod (fun _ => False) W (W1.setRow W.heap.size (bv (secI p i)).toArray) := mB.setRow (.inr (Nat.le_refl _)) _
    have hC : hp (W1.setRow W.heap.size (bv (secI p i)).toArray) W.heap.size = some (.cells (bv (secI p i)).toArray 125 (0, 0)) := by
      have hB' : W1.heap[W.heap.size]? = _ := hB
      show (W1.setRow W.heap.size (bv (secI p i)).toArray).heap[W.heap.size]? = _
      rw [heap_setRow, if_pos rfl, hB']
    generalize (W1.setRow W.heap.size (bv (secI p i)).toArray) = W2 at mC hC
    refine rx_bigS (bv (secI p i)) 127 secT1 secT2 (by simp [hsl]) (At.whole hC) ?_
    refine rx_bigB secT5 ?_
    refine rv_of (eql_sector hsl zsec_length _) ?_
    have dW2 := dW.mod mC fun _ _ h => h
    have sW2 : Stp F w W2 F' := sW.trans ⟨mC.mono fun _ _ h => h.elim, fun b hb => .inl hb⟩
    have hV2 : VoteAt W2 v d file m n at_ := mC.keep hV id
    by_cases hz : secI p i = zsec
    · rw [ifB_bool, if_pos (by simpa using hz)]
      rw [cleanFrom_yes k p i hlt hz] at eW
      refine rv_of (v := .int .i64 ((i + 1 : Nat) : Int)) (w' := W2) (by simp [-Int.natCast_add, go_sem, hw1]) ?_
      exact hKN _ _ ⟨i + 1, _, _, F', hlt, rfl, dW2, sW2, eW, by omega, vF, hV2⟩ (by simp; omega)
    · rw [ifB_bool, if_neg (by simpa using hz)]
      rw [cleanFrom_no k p i hlt hz] at eW
      simp only [DM.writes] at eW
      have hVd := hV2
      unfold VoteAt dptr at hVd
      simp [-Int.natCast_add, go_sem, dptr, hVd, hw2, hw3]
      refine rx_make Try.underlying23 (elemT_of uT1) (by omega) (by omega) (by omega) uT2 ?_
      have e3 : (madeCells (Value.int .u8 0).cells (Int.toNat 128 * 1)) = (bv zsec).toArray := by
        apply Array.ext'
        rw [show (Value.int .u8 0).cells = #[.int .u8 0] from rfl, toList_madeCells_one, zsec, bv_replicate]
        rfl
      rw [e3, show Int.toNat 128 = 128 from rfl]
      have mE : Mod (fun _ => False) W2 (W2.drew.alloc (.cells (bv zsec).toArray 5)) := ((Mod.refl _ W2).drew).alloc _
      have hE : hp (W2.drew.alloc (.cells (bv zsec).toArray 5)) W2.heap.size = some (.cells (bv zsec).toArray 5 (0, 0)) := by simp only [hp_alloc, size_drew, if_pos]
      rw [size_drew]
      generalize (W2.drew.alloc (.cells (bv zsec).toArray 5)) = W3 at mE hE
      have hV3 : VoteAt W3 v d file m n at_ := mE.keep hV2 id
      unfold VoteAt dptr at hV3
      simp [go_sem, hV3]
      refine ca_write (n := 128) (bs := zsec) (dW2.mod mE fun _ _ h => h) (rd_sub hE 0 128 128 (by simp [zsec_length]) (by omega)) (fun b hb => ?_) (by rw [zsec_length]; decide) (by omega) fun W4 F4 d4 s4 => ?_
      · rw [inRd_at hb]
        exact ⟨fun hf => by have : W2.heap.size < W2.heap.size := dW2.lt hf; omega, lt_of_heap hE⟩
      have s4' : Stp F' W2 W4 F4 := ⟨(mE.mono fun _ _ h => h.elim).trans s4.mod, fun b hb => (s4.sub b hb).imp id fun h => Nat.le_trans mE.size h⟩
      have hno : ¬ F4 v := fun h => by
        rcases s4'.sub v h with h | h
        · exact vF h
        · have := lt_of_heap hV2; omega
      by_cases he : (Di.write file (3 * (k : Int) + (i : Int)) zsec).1 = 0
      · rw [if_pos he] at eW
        simp [-Int.natCast_add, go_sem, he, hw1]
        have hl := (write_len Di file (3 * (k : Int) + (i : Int)) zsec).1
        exact hKN _ _ ⟨i + 1, _, _, F4, hlt, rfl, d4, sW2.trans s4', eW, by rw [zsec_length] at hl; omega, hno, s4'.mod.keep hV2 vF⟩ (by simp; omega)
      · rw [if_neg he] at eW
        rw [eW] at hK
        simp [go_sem, he]
        exact hK _ F4 d4 (sW2.trans s4')
  · have : i = 3 := by omega
    subst this
    have eW' : D.writes file (cleanFrom k p 0) = (0, Di) := eW
    rw [eW'] at hK
    refine rv_of (v := .bool false) (w' := W) (by simp [go_sem]) ?_
    rw [ifB_bool, if_neg (by simp)]
    exact hK _ F' dW sW
end Go.Proofs
