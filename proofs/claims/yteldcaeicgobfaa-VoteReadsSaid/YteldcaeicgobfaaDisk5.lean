/-
  The contract of Read.
  Conditions: the memory holds the disk.
-/
import Derived.Test.YteldcaeicgobfaaDisk4
import Derived.Laws.OwnMore
set_option linter.unusedSimpArgs false
set_option linter.unusedVariables false
namespace Go.Proofs
open Go Go.Vc

def DM.secAt (D : DM) (f a : Int) : Sec := (lk (putL D.lasts D.waits) (f, a)).getD zsec
def DM.readB (D : DM) (f a : Int) (n : Nat) : List UInt8 := (List.range n).flatMap fun j : Nat => D.secAt f (a + (j : Int))

theorem sT1 : isAggT Try.prog 114 = true := by kernel_rfl
theorem sT2 : Try.prog.cellsOf 114 = 127 + 1 := by kernel_rfl
theorem sT3 : hasZero Try.prog 114 = true := by kernel_rfl
theorem sT4 : (zeroC Try.prog 114).length = 127 + 1 := by kernel_rfl
theorem sT5 : zeroOfT Try.prog 114 = some (encS zsec) := by kernel_rfl
theorem uT1 : elemOk Try.prog 5 1 1 = true := by kernel_rfl
theorem uT2 : zeroOfT Try.prog 5 = some (.int .u8 0) := by kernel_rfl

/-- A sector laid into a row of sectors. -/
theorem lay_flat : ∀ (l : List Sec) (i : Nat) (s : Sec) (hl : ∀ x ∈ l, x.length = 128) (hs : s.length = 128) (hi : i < l.length), lay (bv l.flatten) (i * 128) (bv s) = bv (l.set i s).flatten
  | x :: l, 0, s, hl, hs, hi => by
    have hx := hl x (by simp)
    simp [lay, hs, List.drop_append_of_le_length, hx, bv_drop]
  | x :: l, i + 1, s, hl, hs, hi => by
    have hx := hl x (by simp)
    have e : (i + 1) * 128 = (bv x).length + i * 128 := by simp [hx]; omega
    have ih := lay_flat l i s (fun y hy => hl y (by simp [hy])) hs (by simpa using hi)
    simp only [lay] at ih ⊢
    simp only [List.flatten_cons, bv_append, List.set_cons_succ, ← ih]
    rw [e, List.take_length_add_append, Nat.add_assoc, List.drop_length_add_append]
    simp

def secs1 (D : DM) (f a : Int) (N i : Nat) : List Sec := (List.range N).map fun j : Nat => if j < i then (lk D.lasts (f, a + (j : Int))).getD zsec else zsec
def secs2 (D : DM) (f a : Int) (N i : Nat) : List Sec := (List.range N).map fun j : Nat => (lk (putL D.lasts (D.waits.take i)) (f, a + (j : Int))).getD zsec
theorem secs1_succ (D : DM) (f a : Int) (N i : Nat) : secs1 D f a N (i + 1) = (secs1 D f a N i).set i ((lk D.lasts (f, a + (i : Int))).getD zsec) := by
  apply List.ext_getElem
  · simp [secs1]
  · intro j h1 h2
    simp only [secs1, List.length_map, List.length_range] at h1
    simp only [secs1, List.getElem_map, List.getElem_range, List.getElem_set]
    by_cases h : i = j
    · subst h; simp
    · rw [if_neg h]
      by_cases h3 : j < i
      · rw [if_pos h3, if_pos (by omega)]
      · rw [if_neg h3, if_neg (by omega)]
theorem secs1_end (D : DM) (f a : Int) (N : Nat) : secs1 D f a N N = secs2 D f a N 0 := by
  apply List.map_congr_left
  intro j hj
  rw [if_pos (List.mem_range.1 hj)]
  simp [putL]
theorem secs2_yes (D : DM) (f a : Int) (N i : Nat) (hi : i < D.waits.length) (h1 : D.waits[i].1.1 = f) (h2 : a ≤ D.waits[i].1.2) (h3 : D.waits[i].1.2 - a < N) :
    secs2 D f a N (i + 1) = (secs2 D f a N i).set (D.waits[i].1.2 - a).toNat D.waits[i].2 := by
  apply List.ext_getElem
  · simp [secs2]
  · intro j hj1 hj2
    simp only [secs2, List.length_map, List.length_range] at hj1
    simp only [secs2, List.getElem_map, List.getElem_range, List.getElem_set, putL_take _ _ _ hi, lk_put]
    by_cases h : (D.waits[i].1.2 - a).toNat = j
    · rw [if_pos h, if_pos (by subst h; ext <;> simp [h1]; omega)]
      rfl
    · rw [if_neg h, if_neg (fun e => h (by rw [e]; simp only; omega))]
theorem secs2_no (D : DM) (f a : Int) (N i : Nat) (hi : i < D.waits.length) (h : ¬ (D.waits[i].1.1 = f ∧ a ≤ D.waits[i].1.2 ∧ D.waits[i].1.2 - a < N)) :
    secs2 D f a N (i + 1) = secs2 D f a N i := by
  apply List.map_congr_left
  intro j hj
  have hj' := List.mem_range.1 hj
  rw [putL_take _ _ _ hi, lk_put, if_neg (fun e => h (by rw [e]; simp; omega))]
theorem secs_end (D : DM) (f a : Int) (N : Nat) : (secs2 D f a N D.waits.length).flatten = D.readB f a N := by
  simp [secs2, DM.readB, DM.secAt, List.flatMap]
theorem lk_sec {L : List (Pl × Sec)} (h : ∀ p ∈ L, p.2.length = 128) (k : Pl) : ((lk L k).getD zsec).length = 128 := by
  cases hl : lk L k with
  | none => exact zsec_length
  | some v => exact h _ (lk_mem hl)
theorem putL_len {L ws : List (Pl × Sec)} (h : ∀ p ∈ L, p.2.length = 128) (hw : ∀ p ∈ ws, p.2.length = 128) : ∀ p ∈ putL L ws, p.2.length = 128 := by
  induction ws generalizing L with
  | nil => exact h
  | cons q r ih =>
    refine ih (L := put L q.1 q.2) (fun p hp => ?_) fun p hp => hw p (by simp [hp])
    rcases mem_put hp with rfl | hp
    · exact hw q (by simp)
    · exact h p hp
theorem secs1_len {D : DM} (h : ∀ p ∈ D.lasts, p.2.length = 128) (f a : Int) (N i : Nat) : ∀ x ∈ secs1 D f a N i, x.length = 128 := by
  intro x hx
  obtain ⟨j, _, rfl⟩ := List.mem_map.1 hx
  split
  · exact lk_sec h _
  · exact zsec_length
theorem secs2_len {D : DM} (h : ∀ p ∈ D.lasts, p.2.length = 128) (hw : ∀ p ∈ D.waits, p.2.length = 128) (f a : Int) (N i : Nat) : ∀ x ∈ secs2 D f a N i, x.length = 128 := by
  intro x hx
  obtain ⟨j, _, rfl⟩ := List.mem_map.1 hx
  exact lk_sec (putL_len h fun p hp => hw p (List.mem_of_mem_take hp)) _
theorem flat128 : ∀ {l : List Sec}, (∀ x ∈ l, x.length = 128) → l.flatten.length = l.length * 128
  | [], _ => rfl
  | x :: l, h => by simp [h x (by simp), flat128 fun y hy => h y (List.mem_cons_of_mem _ hy)]; omega

set_option maxRecDepth 10000 in
theorem ca_read {w : World} {d : Nat} {F : Nat → Prop} {D : DM} {K : Kont} {f a n : Int} (h : DiskR w d F D) (hn : D.waits.length < 9223372036854775807)
    (hK1 : D.off = true → K (.tuple #[.slice none 0 0, .int .i64 180]) w)
    (hK2 : D.off = false → mayB f a n = false → K (.tuple #[.slice none 0 0, .int .i64 2]) w)
    (hK3 : D.off = false → mayB f a n = true → ∀ w' v, Own w' 5 1 v (n.toNat * 128) (bv (D.readB f a n.toNat)) → Mod (fun _ => False) w w' → (∀ b, inSl v b → w.heap.size ≤ b) → K (.tuple #[v, .int .i64 0]) w') :
    Ca Try.prog 20 #[dptr d, .int .i64 f, .int .i64 a, .int .i64 n] w K := by
  have h0 := h
  apply ca20
  unfold F20
  refine ca_ready h0 ?_
  cases ho : D.off
  · simp [go_sem]
    refine ca_may ?_
    cases hm : mayB f a n
    · simp [go_sem]
      exact hK2 ho hm
    · simp [go_sem]
      have hmay := hm
      simp only [mayB, decide_eq_true_eq] at hmay
      obtain ⟨c1, c2, c3, c4, c5, c6⟩ := hmay
      obtain ⟨N, rfl⟩ : ∃ N : Nat, n = N := ⟨n.toNat, by omega⟩
      have hwr : IntKind.i64.wrap ((N : Int) * 128) = (N : Int) * 128 := by rw [IntKind.wrap_i64]; omega
      rw [hwr]
      refine rx_make Try.underlying23 (elemT_of uT1) (by omega) (by omega) (by omega) uT2 ?_
      have e1 : ((N : Int) * 128).toNat = N * 128 := by omega
      rw [e1]
      obtain ⟨s, hq⟩ := h
      have hlL := hq.lasts
      have hlW := fun p hp => (hq.waits p hp).1
      unfold L20_1
      refine loopW (fun s W => ∃ i : Nat, i ≤ N ∧ s = (.int .i64 i, ()) ∧ Mod (fun _ => False) w W ∧ hp W w.heap.size = some (.cells (bv (secs1 D f a N i).flatten).toArray 5 (0, 0)))
        (fun s _ => match s.1 with | .int _ i => N - i.toNat | _ => 0) ⟨0, by omega, rfl, (Mod.refl _ w).alloc _, ?_⟩ ?_
      · have e2 : secs1 D f a N 0 = List.replicate N zsec := by
          unfold secs1
          rw [show (fun j : Nat => if j < 0 then (lk D.lasts (f, a + (j : Int))).getD zsec else zsec) = fun _ => zsec from funext fun j => if_neg (Nat.not_lt_zero j), List.map_const', List.length_range]
        have e3 : (bv (secs1 D f a N 0).flatten).toArray = madeCells (Value.int .u8 0).cells (N * 128 * 1) := by
          apply Array.ext'
          rw [show (Value.int .u8 0).cells = #[.int .u8 0] from rfl, toList_madeCells_one, e2]
          unfold zsec
          rw [List.flatten_replicate_replicate, bv_replicate, Nat.mul_one]
          rfl
        rw [e3]
        simp [go_sem]
      rintro ⟨_, _⟩ W ⟨i, hi, ⟨⟩, mW, hW⟩ _
      obtain ⟨mb, g1, g2, g3, g4, g5, g6, g7⟩ := (hq.mod mW fun _ _ h => h).out
      have hw3 : IntKind.i64.wrap ((i : Int) + 1) = ((i + 1 : Nat) : Int) := by rw [IntKind.wrap_i64]; omega
      by_cases hlt : i < N
      · have hw1 : IntKind.i64.wrap (a + (i : Int)) = a + i := by rw [IntKind.wrap_i64]; omega
        have hw2 : IntKind.i64.wrap ((i : Int) * 128) = ((i * 128 : Nat) : Int) := by rw [IntKind.wrap_i64]; omega
        have hle : ((i * 128 : Nat) : Int) ≤ (N : Int) * 128 := by omega
        have hle1 : i * 128 ≤ N * 128 := by omega
        have hle0 : (0 : Int) ≤ ((i * 128 : Nat) : Int) := by omega
        have hne : ¬ N * 128 = i * 128 := by omega
        have htn : ((i * 128 : Nat) : Int).toNat = i * 128 := by omega
        simp only [go_sem]
        simp [-Int.natCast_mul, go_sem, dptr, hp_of g1, hlt, hw1, hw2, hw3, hle, hle1, hle0, hne, htn]
        refine rx_look (enc := encP) (ev := encS) (L := D.lasts) (x := (f, a + i)) (encS zsec) uMap kPlace sT5 g2 ?_
        have hv : (lk D.lasts (f, a + (i : Int))).elim (encS zsec) encS = encS ((lk D.lasts (f, a + (i : Int))).getD zsec) := by
          cases lk D.lasts (f, a + (i : Int)) <;> rfl
        rw [hv]
        have hvl := lk_sec hlL (f, a + (i : Int))
        generalize hSS : (lk D.lasts (f, a + (i : Int))).getD zsec = S at hvl
        refine rx_bigVar (cs := bv S) 127 sT3 sT2 (by simp [hvl]) sT4 (bv_one _) ?_
        simp [go_sem]
        have hlw : w.heap.size < W.heap.size := lt_of_heap hW
        have mA : Mod (fun _ => False) W (W.alloc (.cells (bv S).toArray 114)).drew := ((Mod.refl _ W).alloc _).drew
        have hA1 : hp (W.alloc (.cells (bv S).toArray 114)).drew W.heap.size = some (.cells (bv S).toArray 114 (0, 0)) := by simp [go_sem]
        generalize (W.alloc (.cells (bv S).toArray 114)).drew = WA at mA hA1
        have hk : 128 = Nat.min 128 (N * 128 - i * 128) := by rw [show Nat.min 128 (N * 128 - i * 128) = min 128 (N * 128 - i * 128) from rfl]; omega
        have hl1 : (secs1 D f a N i).length = N := by simp [secs1]
        have hlen : (bv (secs1 D f a N i).flatten).length = N * 128 := by rw [bv_length, flat128 (secs1_len hlL f a N i), hl1]
        refine rx_copy (all := bv S) (k := 128) Try.underlying23 (by kernel_rfl) (mA.keep hW id) ⟨by simp [hvl], .inr ⟨_, _, _, rfl, Nat.le_refl _, ⟨_, _, _, hA1, by simp [hvl], by simp; exact List.take_of_length_le (by simp)⟩⟩⟩ hk rfl ?_ (bv_one _) ?_
        · rw [List.size_toArray, hlen]; omega
        have el : lay (bv (secs1 D f a N i).flatten).toArray.toList (i * 128) ((bv S).take 128) = bv (secs1 D f a N (i + 1)).flatten := by
          rw [show (bv (secs1 D f a N i).flatten).toArray.toList = bv (secs1 D f a N i).flatten from rfl, List.take_of_length_le (by simp [hvl]), lay_flat _ _ _ (secs1_len hlL f a N i) hvl (by rw [hl1]; exact hlt), secs1_succ, hSS]
        rw [el]
        have hW' : hp WA w.heap.size = some (.cells (bv (secs1 D f a N i).flatten).toArray 5 (0, 0)) := mA.keep hW id
        exact ⟨⟨i + 1, hlt, by omega, (mW.trans mA).setRow (.inr (Nat.le_refl _)) _, by simp [go_sem, hW']⟩, by omega⟩
      · obtain rfl : i = N := by omega
        obtain ⟨sa, sc, rfl, hsc⟩ := g3.isSl
        simp [go_sem, dptr, hp_of g1, hlt]
        rw [secs1_end] at hW
        unfold L20_0
        refine loopW (fun s W => ∃ j : Nat, j ≤ D.waits.length ∧ s = (.int .i64 j, ()) ∧ Mod (fun _ => False) w W ∧ hp W w.heap.size = some (.cells (bv (secs2 D f a i j).flatten).toArray 5 (0, 0)))
          (fun s _ => match s.1 with | .int _ j => D.waits.length - j.toNat | _ => 0) ⟨0, by omega, rfl, mW, hW⟩ ?_
        clear hW g1 g2 g3 g4 g5 g6 g7 hw3 hlt mW
        rintro ⟨_, _⟩ W ⟨j, hj, ⟨⟩, mW, hW⟩ _
        have hw3 : IntKind.i64.wrap ((j : Int) + 1) = ((j + 1 : Nat) : Int) := by rw [IntKind.wrap_i64]; omega
        by_cases hlt : j < D.waits.length
        · have hO := (hq.mod mW fun _ _ h => h).sl
          obtain ⟨b, cap, hsl, hAt⟩ := Own.elem hO hlt
          obtain ⟨rfl, -, rfl⟩ : sa = some ⟨b, 0, none⟩ ∧ True ∧ sc = cap := by injection hsl with e1 e2 e3; exact ⟨e1, trivial, e3⟩
          rw [flat_get cellsPut 130 _ _ (fun x hx => cellsPut_length (hlW x hx)) hlt] at hAt
          obtain ⟨q1, q2, q3⟩ := hq.waits _ (List.getElem_mem hlt)
          have hcl : (cellsPut D.waits[j]).length = 129 + 1 := cellsPut_length q1
          simp [go_sem, hlt]
          refine rx_bigS _ 129 pT1 pT2 hcl hAt ?_
          refine rx_bigVar 129 pT3 pT2 hcl pT4 (cellsPut_one _) ?_
          have mA : Mod (fun _ => False) W (W.alloc (.cells (cellsPut D.waits[j]).toArray 116)) := (Mod.refl _ W).alloc _
          have hA1 : hp (W.alloc (.cells (cellsPut D.waits[j]).toArray 116)) W.heap.size = some (.cells (cellsPut D.waits[j]).toArray 116 (0, 0)) := by simp [go_sem]
          generalize (W.alloc (.cells (cellsPut D.waits[j]).toArray 116)) = WA at mA hA1
          have hP0 : (cellsPut D.waits[j]).toArray[0]? = some (.int .i64 D.waits[j].1.1) := rfl
          have hP1 : (cellsPut D.waits[j]).toArray[1]? = some (.int .i64 D.waits[j].1.2) := rfl
          have hP1 : (cellsPut D.waits[j]).toArray[0 + 1]? = some (.int .i64 D.waits[j].1.2) := rfl
          have stay : ¬ (D.waits[j].1.1 = f ∧ a ≤ D.waits[j].1.2 ∧ D.waits[j].1.2 - a < i) → (∃ j_1 : Nat, j_1 ≤ D.waits.length ∧ IntKind.i64.wrap ((j : Int) + 1) = j_1 ∧ Mod (fun _ => False) w WA ∧ hp WA w.heap.size = some (.cells (bv (secs2 D f a i j_1).flatten).toArray 5 (0, 0))) := fun hc =>
            ⟨j + 1, hlt, hw3, mW.trans mA, by rw [secs2_no D f a i j hlt hc]; exact mA.keep hW id⟩
          by_cases k1 : D.waits[j].1.1 = f
          · by_cases k2 : a ≤ D.waits[j].1.2
            · have hwd : IntKind.i64.wrap (D.waits[j].1.2 - a) = D.waits[j].1.2 - a := by rw [IntKind.wrap_i64]; omega
              by_cases k3 : D.waits[j].1.2 - a < i
              · obtain ⟨J, hJ⟩ : ∃ J : Nat, D.waits[j].1.2 - a = J := ⟨(D.waits[j].1.2 - a).toNat, by omega⟩
                have hJi : J < i := by omega
                have hwJ : IntKind.i64.wrap (J : Int) = J := by rw [IntKind.wrap_i64]; omega
                have hw2 : IntKind.i64.wrap ((J : Int) * 128) = ((J * 128 : Nat) : Int) := by rw [IntKind.wrap_i64]; omega
                have hle : ((J * 128 : Nat) : Int) ≤ (i : Int) * 128 := by omega
                have hle1 : J * 128 ≤ i * 128 := by omega
                have hle0 : (0 : Int) ≤ ((J * 128 : Nat) : Int) := by omega
                have hne : ¬ i * 128 = J * 128 := by omega
                have htn : ((J * 128 : Nat) : Int).toNat = J * 128 := by omega
                simp [-Int.natCast_mul, go_sem, hA1, hP0, hP1, k1, k2, hwd, hJ, hJi, hwJ, hw2, hle, hle1, hle0, hne, htn, hw3]
                have hA2 : hp WA.drew W.heap.size = some (.cells (cellsPut D.waits[j]).toArray 116 (0, 0)) := hA1
                have mA2 : Mod (fun _ => False) W WA.drew := mA.drew
                have hk : 128 = Nat.min 128 (i * 128 - J * 128) := by rw [show Nat.min 128 (i * 128 - J * 128) = min 128 (i * 128 - J * 128) from rfl]; omega
                have hl1 : (secs2 D f a i j).length = i := by simp [secs2]
                have hsl2 := secs2_len hlL hlW f a i j
                have hlen : (bv (secs2 D f a i j).flatten).length = i * 128 := by rw [bv_length, flat128 hsl2, hl1]
                have hlwW : w.heap.size < W.heap.size := lt_of_heap hW
                have hW' : hp WA.drew w.heap.size = some (.cells (bv (secs2 D f a i j).flatten).toArray 5 (0, 0)) := mA2.keep hW id
                refine rx_copy (all := bv D.waits[j].2) (k := 128) Try.underlying23 (by kernel_rfl) hW' ⟨by simp [q1], .inr ⟨_, _, _, rfl, Nat.le_refl _, ⟨_, _, _, hA2, by simp [cellsPut, q1], ?_⟩⟩⟩ hk rfl ?_ (bv_one _) ?_
                · show ((cellsPut D.waits[j]).drop 2).take _ = _
                  simp only [cellsPut, List.drop_succ_cons, List.drop_zero]
                  exact List.take_of_length_le (Nat.le_refl _)
                · rw [List.size_toArray, hlen]; omega
                have el : lay (bv (secs2 D f a i j).flatten).toArray.toList (J * 128) ((bv D.waits[j].2).take 128) = bv (secs2 D f a i (j + 1)).flatten := by
                  rw [show (bv (secs2 D f a i j).flatten).toArray.toList = bv (secs2 D f a i j).flatten from rfl, List.take_of_length_le (by simp [q1]), lay_flat _ _ _ hsl2 q1 (by rw [hl1]; exact hJi), secs2_yes D f a i j hlt k1 k2 k3, hJ]
                  rfl
                rw [el]
                exact ⟨⟨j + 1, hlt, by omega, (mW.trans mA2).setRow (.inr (Nat.le_refl _)) _, by simp [go_sem, hW']⟩, by omega⟩
              · simp [go_sem, hA1, hP0, hP1, k1, k2, hwd, k3]
                exact ⟨stay (by simp [k3]), by omega⟩
            · simp [go_sem, hA1, hP0, hP1, k1, k2]
              exact ⟨stay (by simp [k2]), by omega⟩
          · simp [go_sem, hA1, hP0, hP1, k1]
            exact ⟨stay (by simp [k1]), by omega⟩
        · simp [go_sem, hlt]
          have hjw : j = D.waits.length := by omega
          subst hjw
          rw [secs_end] at hW
          have hin : ((i : Int)).toNat = i := by omega
          rw [hin] at hK3
          have hRl : (D.readB f a i).length = i * 128 := by rw [← secs_end, flat128 (secs2_len hlL hlW f a i _)]; simp [secs2]
          exact hK3 ho hm W _ ⟨by simp [hRl], .inr ⟨_, _, [], rfl, Nat.le_refl _, by rw [List.append_nil]; exact hW, by simp, rfl⟩⟩ mW fun b hb => by cases hb; exact Nat.le_refl _
  · simp [go_sem]
    exact hK1 ho
end Go.Proofs
