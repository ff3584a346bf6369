/-
  The contract of the document's reading of a turn; a new machine, and what is not its client's next turn.
  Conditions: where they ask for any, each theorem names them.
-/
import Derived.Test.YtaagfdkamogkoaaGreatWireS
set_option linter.unusedVariables false
set_option linter.unusedSimpArgs false
namespace Go.Proofs
open Go Go.Vc
attribute [local congr] Ca_congV

theorem uStr : Tryz.prog.underlying 9 = some .string := by kernel_rfl
theorem uU8 : Tryz.prog.underlying 5 = some (.int .u8) := by kernel_rfl
theorem neqStr (x y : List UInt8) (w : World) : (bin .neq 9 false (.string (strOf x)) (.string (strOf y))).run Tryz.prog w = .ok (.bool (decide (x ≠ y))) w := by
  simp [go_sem]
  by_cases h : x = y <;> simp [h]
theorem eqlStr (x y : List UInt8) (w : World) : (bin .eql 9 false (.string (strOf x)) (.string (strOf y))).run Tryz.prog w = .ok (.bool (decide (x = y))) w := by
  simp [go_sem]
  by_cases h : x = y <;> simp [h]

set_option maxRecDepth 10000 in
theorem ca_rread {w : World} {K : Kont} {v : Value} {l : List UInt8} (hv : Rd w 1 v l.length (bv l)) (hl : l.length ≤ 1000000000)
    (hK : ∀ v2 w', Own w' 5 1 v2 (rdT l).1.b.length (bv (rdT l).1.b) → Mod (fun _ => False) w w' → (∀ b, inSl v2 b → w.heap.size ≤ b) → K (.tuple #[tnV (rdT l).1.c (rdT l).1.q v2, .int .i64 (rdT l).2]) w') :
    Ca Tryz.prog 7 #[v] w K := by
  apply ca7
  unfold F7
  have hm1 : Mod (fun _ => False) w (w.alloc (.cells #[.int .u64 0, .int .u64 0, .slice none 0 0] 25)) := (Mod.refl _ w).alloc _
  refine rvS (v := .pointer (some ⟨w.heap.size, 0, none⟩)) (w' := w.alloc (.cells #[.int .u64 0, .int .u64 0, .slice none 0 0] 25)) (by simp [go_sem]) ?_
  obtain ⟨p, hp0⟩ : ∃ p, p = w.heap.size := ⟨_, rfl⟩
  have hb1 : hp (w.alloc (.cells #[.int .u64 0, .int .u64 0, .slice none 0 0] 25)) p = some (.cells #[.int .u64 0, .int .u64 0, .slice none 0 0] 25 (0, 0)) := by rw [hp0]; simp [go_sem]
  rw [← hp0]
  have hsz1 := hm1.size
  generalize w.alloc (.cells #[.int .u64 0, .int .u64 0, .slice none 0 0] 25) = w1 at hm1 hb1 hsz1 ⊢
  have hv1 := hv.mod hm1 fun _ _ h => h
  obtain ⟨va, vc, hve⟩ := hv.isSl
  refine rvS (v := .agg #[v, .int .i64 0]) (w' := w1) (by rw [hve]; simp [go_sem]) ?_
  obtain ⟨r, hr0⟩ : ∃ r, r = w1.heap.size := ⟨_, rfl⟩
  have m2 : Mod (fun _ => False) w1 (w1.alloc (.cells #[v, .int .i64 0] 49)) := (Mod.refl _ w1).alloc _
  refine rvS (v := rptr r) (w' := w1.alloc (.cells #[v, .int .i64 0] 49)) (by rw [hr0]; simp [go_sem, rptr]) ?_
  have hb2 : hp (w1.alloc (.cells #[v, .int .i64 0] 49)) r = some (.cells #[v, .int .i64 0] 49 (0, 0)) := by rw [hr0]; simp [go_sem]
  have hsz2 : (w1.alloc (.cells #[v, .int .i64 0] 49)).heap.size = r + 1 := by rw [World.size_alloc, hr0]
  generalize w1.alloc (.cells #[v, .int .i64 0] 49) = w2 at m2 hb2 hsz2 ⊢
  have r2 : RrAt w2 r v l ⟨0, 0⟩ := ⟨⟨v, by simpa using hb2, by simpa using hv1.mod m2 fun _ _ h => h, fun _ h => h⟩, Nat.zero_le _, fun hb => by have := hv1.lt hb; omega, hl, hv1.mod m2 fun _ _ h => h⟩
  have hrw : w.heap.size ≤ r := by omega
  have hpr : p ≠ r := by have := lt_of_heap hb1; omega
  have M2 := hm1.trans m2
  have b2 := m2.hpk hb1 id
  -- the turn that is read
  have m3 : Mod (fun _ => False) w2 (w2.alloc (.cells #[.int .u64 0, .int .u64 0, .slice none 0 0] 25)) := (Mod.refl _ w2).alloc _
  refine rvS (v := .pointer (some ⟨w2.heap.size, 0, none⟩)) (w' := w2.alloc (.cells #[.int .u64 0, .int .u64 0, .slice none 0 0] 25)) (by simp [go_sem]) ?_
  obtain ⟨q, hq0⟩ : ∃ q, q = w2.heap.size := ⟨_, rfl⟩
  have hb3 : hp (w2.alloc (.cells #[.int .u64 0, .int .u64 0, .slice none 0 0] 25)) q = some (.cells #[.int .u64 0, .int .u64 0, .slice none 0 0] 25 (0, 0)) := by rw [hq0]; simp [go_sem]
  rw [← hq0]
  generalize w2.alloc (.cells #[.int .u64 0, .int .u64 0, .slice none 0 0] 25) = w3 at m3 hb3 ⊢
  have hqr : q ≠ r := by omega
  have hpq : p ≠ q := by have := lt_of_heap b2; omega
  have hqw : w.heap.size ≤ q := by omega
  have vq : ∀ b, inRd v b → b ≠ q := fun b hb => by have := hv.lt hb; omega
  have r3 := r2.mod m3 id fun _ _ h => h
  have b3 := m3.hpk b2 id
  have M3 := M2.trans m3
  let F : Nat → Prop := fun b => b = r ∨ b = q
  have toN : ∀ {W W' : World}, Mod (fun _ => False) w W → Mod F W W' → Mod (fun _ => False) w W' := fun m m' => m.on m' fun b hb => .inr (by rcases hb with rfl | rfl; exact hrw; exact hqw)
  have fR : ∀ {W W' : World}, Mod (fun b => b = r) W W' → Mod F W W' := fun m => m.mono fun b _ h => .inl h
  have fQ : ∀ {W W' : World}, Mod (fun b => b = q) W W' → Mod F W W' := fun m => m.mono fun b _ h => .inr h
  have fp : ¬ F p := fun h => by rcases h with h | h; exact hpr h; exact hpq h
  refine ca_rnatR r3 fun w4 r4 m4 => ?_
  have M4 := toN M3 (fR m4)
  have b4 := m4.hpk b3 hpr
  have q4 := m4.hpk hb3 hqr
  refine rvS (v := .pointer (some ⟨q, 0, none⟩)) (w' := w4) (by simp [go_sem]) ?_
  have hO : turnO l = (⟨(rsSmall l 18446744073709551615 ⟨0, 0⟩).1, (rsSmall l 18446744073709551615 (rsSmall l 18446744073709551615 ⟨0, 0⟩).2).1, (rsText l 2000 (rsSmall l 18446744073709551615 (rsSmall l 18446744073709551615 ⟨0, 0⟩).2).2).1⟩, (rsText l 2000 (rsSmall l 18446744073709551615 (rsSmall l 18446744073709551615 ⟨0, 0⟩).2).2).2) := rfl
  have hlt := turnO_lt l
  generalize hx : (rsSmall l 18446744073709551615 ⟨0, 0⟩).1 = x at *
  refine ruS (w' := w4.setCell ⟨q, 0, none⟩ (.int .u64 x)) (by simp [go_sem, q4]) ?_
  have m5 : Mod (fun b => b = q) w4 (w4.setCell ⟨q, 0, none⟩ (.int .u64 x)) := (Mod.refl (fun b => b = q) w4).setCell (.inl rfl) _ _
  have q5 : hp (w4.setCell ⟨q, 0, none⟩ (.int .u64 x)) q = some (.cells #[.int .u64 x, .int .u64 0, .slice none 0 0] 25 (0, 0)) := by simp [go_sem, q4]
  generalize w4.setCell ⟨q, 0, none⟩ (.int .u64 x) = w5 at m5 q5 ⊢
  have M5 := toN M4 (fQ m5)
  have b5 := m5.hpk b4 hpq
  have r5 := r4.mod m5 (Ne.symm hqr) fun b hb e => vq b hb e
  refine ca_rnatR r5 fun w6 r6 m6 => ?_
  generalize hy : (rsSmall l 18446744073709551615 (rsSmall l 18446744073709551615 ⟨0, 0⟩).2).1 = y at *
  have M6 := toN M5 (fR m6)
  have b6 := m6.hpk b5 hpr
  have q6 := m6.hpk q5 hqr
  refine rvS (v := .pointer (some ⟨q, 1, none⟩)) (w' := w6) (by simp [go_sem]) ?_
  refine ruS (w' := w6.setCell ⟨q, 1, none⟩ (.int .u64 y)) (by simp [go_sem, q6]) ?_
  have m7 : Mod (fun b => b = q) w6 (w6.setCell ⟨q, 1, none⟩ (.int .u64 y)) := (Mod.refl (fun b => b = q) w6).setCell (.inl rfl) _ _
  have q7 : hp (w6.setCell ⟨q, 1, none⟩ (.int .u64 y)) q = some (.cells #[.int .u64 x, .int .u64 y, .slice none 0 0] 25 (0, 0)) := by simp [go_sem, q6]
  generalize w6.setCell ⟨q, 1, none⟩ (.int .u64 y) = w7 at m7 q7 ⊢
  have M7 := toN M6 (fQ m7)
  have b7 := m7.hpk b6 hpq
  have r7 := r6.mod m7 (Ne.symm hqr) fun b hb e => vq b hb e
  refine ca_textR r7 (by decide) fun v8 w8 r8 o8 m8 n8 => ?_
  generalize hz : (rsText l 2000 (rsSmall l 18446744073709551615 (rsSmall l 18446744073709551615 ⟨0, 0⟩).2).2) = z at *
  have M8 := toN M7 (fR m8)
  have b8 := m8.hpk b7 hpr
  have q8 := m8.hpk q7 hqr
  refine rvS (v := .pointer (some ⟨q, 2, none⟩)) (w' := w8) (by simp [go_sem]) ?_
  obtain ⟨a8, c8, hv8, -⟩ := o8.isSl
  refine ruS (w' := w8.setCell ⟨q, 2, none⟩ v8) (by rw [hv8]; simp [go_sem, q8]) ?_
  have m9 : Mod (fun b => b = q) w8 (w8.setCell ⟨q, 2, none⟩ v8) := (Mod.refl (fun b => b = q) w8).setCell (.inl rfl) _ _
  have q9 : hp (w8.setCell ⟨q, 2, none⟩ v8) q = some (.cells #[.int .u64 x, .int .u64 y, v8] 25 (0, 0)) := by simp [go_sem, q8]
  have vq8 : ∀ b, inSl v8 b → b ≠ q := fun b hb => by have h1 := n8 b hb; have h2 := lt_of_heap q7; omega
  generalize w8.setCell ⟨q, 2, none⟩ v8 = w9 at m9 q9 ⊢
  have M9 := toN M8 (fQ m9)
  have b9 := m9.hpk b8 hpq
  have r9 := r8.mod m9 (Ne.symm hqr) fun b hb e => vq b hb e
  have o9 := o8.mod m9 vq8
  have n8w : ∀ b, inSl v8 b → w.heap.size ≤ b := fun b hb => Nat.le_trans M7.size (n8 b hb)
  have hv9 : Rd w9 1 v l.length (bv l) := r9.rd
  rw [hO] at hlt
  simp only at hlt
  refine JoinW.at (fun st W => st = (.bool (decide (¬ (rsDone l z.2 = 0 ∧ (⟨x, y, z.1⟩ : Tn).May))), ()) ∧ Mod (fun _ => False) w9 W) ?_ ?_
  · have md : Mod (fun _ => False) w9 w9.drew := (Mod.refl _ w9).drew
    refine ca_doneR (r9.mod md id fun _ _ h => h) ?_
    by_cases hd : rsDone l z.2 = 0
    · refine rdPS (v := .bool false) (fun W => by simp [go_sem, hd]) ?_
      rw [ifB_bool, if_neg Bool.false_ne_true]
      have qd := md.hpk q9 id
      refine rdWS (v := tnV x y v8) (by simp [go_sem, qd, tnV]) ?_
      refine ca_rmay (o := ⟨x, y, z.1⟩) (o9.mod md fun _ _ h => h).rd (by show z.1.length ≤ _; omega) fun wA mA => ?_
      have MA := md.trans mA
      refine rdPS (v := .bool (!decide (⟨x, y, z.1⟩ : Tn).May)) (fun W => by simp [go_sem]) ?_
      by_cases hmay : (⟨x, y, z.1⟩ : Tn).May
      · rw [ifB_bool, if_neg (by simp [hmay])]
        have qA := MA.hpk q9 id
        refine rdWS (v := tnV x y v8) (by simp [go_sem, qA, tnV]) ?_
        have hvA := hv9.mod MA fun _ _ h => h
        refine rdX_toStr uBs uU8 uStr hvA ?_
        refine ca_rbytes (o := ⟨x, y, z.1⟩) (o9.mod MA fun _ _ h => h).rd (by show z.1.length ≤ _; omega) hlt.1 hlt.2.1 fun sB wB oB mB nB => ?_
        have MB := MA.trans mB
        refine ⟨run_toStr uBs uU8 uStr (hv9.mod MB fun _ _ h => h), ?_⟩
        refine rdX_toStr uBs uU8 uStr oB.rd ?_
        refine rdPS (fun W => neqStr _ _ W) ?_
        have hT : turnR l = some ⟨x, y, z.1⟩ := by
          unfold turnR
          rw [hO]
          simp only
          rw [if_pos ⟨hd, hmay⟩]
        refine ⟨?_, MB⟩
        rw [(turnR_form hT).1]
        simp [hd, hmay]
      · rw [ifB_bool, if_pos (by simp [hmay])]
        exact ⟨by simp [hmay], MA⟩
    · refine rdPS (v := .bool true) (fun W => by simp [go_sem]; omega) ?_
      rw [ifB_bool, if_pos rfl]
      exact ⟨by simp [hd], md⟩
  rintro _ W ⟨rfl, mW⟩
  unfold J7_0
  intro _
  have MW := M9.trans mW
  have pW := mW.hpk b9 id
  have bW := mW.hpk q9 id
  have oW := o9.mod mW fun _ _ h => h
  have hpw : w.heap.size ≤ p := by omega
  by_cases hok : rsDone l z.2 = 0 ∧ (⟨x, y, z.1⟩ : Tn).May
  · rw [ifB_bool, if_neg (by rw [decide_eq_true_eq]; exact fun h => h hok)]
    have hR : rdT l = (⟨x, y, z.1⟩, 0) := by
      unfold rdT turnR
      rw [hO]
      simp only
      rw [if_pos hok]
    rw [hR] at hK
    refine rvS (v := tnV x y v8) (w' := W) (by simp [go_sem, bW, tnV]) ?_
    obtain ⟨wE, hsE, bE, mE⟩ := stTn (x := x) (y := y) (v := v8) pW ⟨_, _, _, hv8⟩
    refine ruS hsE ?_
    refine rdWS (v := tnV x y v8) (by simp [go_sem, bE, tnV]) ?_
    refine hK v8 wE (oW.mod mE fun b hb e => ?_) (MW.on mE fun b hb => .inr (by rw [hb]; exact hpw)) n8w
    have h1 := n8 b hb
    have h2 := lt_of_heap b7
    omega
  · rw [ifB_bool, if_pos (by rw [decide_eq_true_eq]; exact hok)]
    have hR : rdT l = (⟨0, 0, []⟩, 5) := by
      unfold rdT turnR
      rw [hO]
      simp only
      rw [if_neg hok]
    rw [hR] at hK
    refine rvS (v := tnV 0 0 nilS) (w' := W) (by simp [go_sem, tnV, nilS]) ?_
    obtain ⟨wE, hsE, bE, mE⟩ := stTn (x := 0) (y := 0) (v := nilS) pW ⟨_, _, _, rfl⟩
    refine ruS hsE ?_
    refine rdWS (v := tnV 0 0 nilS) (by simp [go_sem, bE, tnV]) ?_
    exact hK nilS wE (Own.nil _ _ 1) (MW.on mE fun b hb => .inr (by rw [hb]; exact hpw)) fun b hb => by cases hb
end Go.Proofs
