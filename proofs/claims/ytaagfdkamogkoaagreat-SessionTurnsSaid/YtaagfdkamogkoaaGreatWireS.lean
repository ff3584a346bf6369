/-
  The contracts of the program's session: may, Bytes, Read; and of the document's.
  Conditions: where they ask for any, each theorem names them.
-/
import Derived.Test.YtaagfdkamogkoaaGreatWireQ
set_option linter.unusedVariables false
set_option linter.unusedSimpArgs false
namespace Go.Proofs
open Go Go.Vc
attribute [local congr] Ca_congV

def tnV (c q : Nat) (v : Value) : Value := .agg #[.int .u64 c, .int .u64 q, v]
def nilS : Value := .slice none 0 0

theorem ca_smay {w : World} {K : Kont} {o : Tn} {v : Value} (hv : Rd w 1 v o.b.length (bv o.b)) (hl : o.b.length ≤ 1000000000)
    (hK : ∀ w', Mod (fun _ => False) w w' → K (.bool (decide o.May)) w') : Ca Tryz.prog 13 #[tnV o.c o.q v] w K := by
  obtain ⟨a, c, rfl⟩ := hv.isSl
  have hm : Mod (fun _ => False) w (w.alloc (.cells #[.int .u64 o.c, .int .u64 o.q, .slice a o.b.length c] 25)) := (Mod.refl _ w).alloc _
  have hK' := hK _ hm
  apply ca13
  unfold F13 tnV
  simp only [Tn.May] at hK'
  by_cases h1 : o.c < 64
  · have h1i : (o.c : Int) < 64 := by omega
    by_cases h2 : o.q = 0
    · simp [h1, h2] at hK'
      simp [-Int.natCast_add, go_sem, h1, h1i, h2]
      simpa [h2] using hK'
    · simp [h1, h2] at hK'
      simp [-Int.natCast_add, go_sem, h1, h1i, h2]
      have e : decide ((o.b.length : Int) ≤ 2000) = decide (o.b.length ≤ 2000) := by rw [decide_eq_decide]; omega
      first
        | exact hK'
        | (rw [e]; exact hK')
        | (simpa [h1, h2, e] using hK')
  · have h1i : ¬ (o.c : Int) < 64 := by omega
    simp [h1] at hK'
    simp [-Int.natCast_add, go_sem, h1, h1i]
    exact hK'
theorem ca_rmay {w : World} {K : Kont} {o : Tn} {v : Value} (hv : Rd w 1 v o.b.length (bv o.b)) (hl : o.b.length ≤ 1000000000)
    (hK : ∀ w', Mod (fun _ => False) w w' → K (.bool (decide o.May)) w') : Ca Tryz.prog 8 #[tnV o.c o.q v] w K := by
  obtain ⟨a, c, rfl⟩ := hv.isSl
  have hm : Mod (fun _ => False) w (w.alloc (.cells #[.int .u64 o.c, .int .u64 o.q, .slice a o.b.length c] 25)) := (Mod.refl _ w).alloc _
  have hK' := hK _ hm
  apply ca8
  unfold F8 tnV
  simp only [Tn.May] at hK'
  by_cases h1 : o.c < 64
  · have h1i : (o.c : Int) < 64 := by omega
    by_cases h2 : o.q = 0
    · simp [h1, h2] at hK'
      simp [-Int.natCast_add, go_sem, h1, h1i, h2]
      simpa [h2] using hK'
    · simp [h1, h2] at hK'
      simp [-Int.natCast_add, go_sem, h1, h1i, h2]
      have e : decide ((o.b.length : Int) ≤ 2000) = decide (o.b.length ≤ 2000) := by rw [decide_eq_decide]; omega
      first
        | exact hK'
        | (rw [e]; exact hK')
        | (simpa [h1, h2, e] using hK')
  · have h1i : ¬ (o.c : Int) < 64 := by omega
    simp [h1] at hK'
    simp [-Int.natCast_add, go_sem, h1, h1i]
    exact hK'

/-- What session.Bytes tells. -/
theorem ca_sbytes {w : World} {K : Kont} {o : Tn} {v : Value} (hv : Rd w 1 v o.b.length (bv o.b)) (hl : o.b.length ≤ 100000000) (hc : o.c < 18446744073709551616) (hq : o.q < 18446744073709551616)
    (hK : ∀ s (l : List UInt8) (e : Nat) w', (if o.May then l = turnB o ∧ e = 0 else l = [] ∧ e = 2) → Own w' 5 1 s l.length (bv l) → Mod (fun _ => False) w w' → (∀ b, inSl s b → w.heap.size ≤ b) → K (.tuple #[s, .int .i64 e]) w') :
    Ca Tryz.prog 5 #[tnV o.c o.q v] w K := by
  apply ca5
  unfold F5 tnV
  have hm : Mod (fun _ => False) w (w.alloc (.cells #[.int .u64 o.c, .int .u64 o.q, v] 25)) := (Mod.refl _ w).alloc _
  refine rvS (v := .pointer (some ⟨w.heap.size, 0, none⟩)) (w' := w.alloc (.cells #[.int .u64 o.c, .int .u64 o.q, v] 25)) (by simp [go_sem]) ?_
  obtain ⟨p, hp0⟩ : ∃ p, p = w.heap.size := ⟨_, rfl⟩
  have hb : hp (w.alloc (.cells #[.int .u64 o.c, .int .u64 o.q, v] 25)) p = some (.cells #[.int .u64 o.c, .int .u64 o.q, v] 25 (0, 0)) := by rw [hp0]; simp [go_sem]
  rw [← hp0]
  generalize w.alloc (.cells #[.int .u64 o.c, .int .u64 o.q, v] 25) = w1 at hm hb ⊢
  have hv1 := hv.mod hm fun _ _ h => h
  refine rvS (v := .agg #[.int .u64 o.c, .int .u64 o.q, v]) (w' := w1) (by simp [go_sem, hb]) ?_
  refine ca_smay hv1 (by omega) fun w2 m2 => ?_
  have hb2 := m2.keep hb id
  have hv2 := hv1.mod m2 fun _ _ h => h
  by_cases hmay : o.May
  · refine rvS (v := .bool false) (w' := w2) (by simp [go_sem, hmay]) ?_
    rw [ifB_bool, if_neg Bool.false_ne_true]
    have m3 : Mod (fun _ => False) w2 w2.drew := (Mod.refl _ w2).drew
    have ld : ∀ W, Mod (fun _ => False) w2 W → hp W p = some (.cells #[.int .u64 o.c, .int .u64 o.q, v] 25 (0, 0)) := fun W m => m.keep hb2 id
    refine rdPS (v := .pointer (some ⟨p, 0, none⟩)) (fun W => by simp [go_sem]) ?_
    refine rdWS (v := .int .u64 o.c) (by simp [go_sem, ld _ m3]) ?_
    refine rdPS (v := .pointer (some ⟨p, 1, none⟩)) (fun W => by simp [go_sem]) ?_
    refine rdWS (v := .int .u64 o.q) (by simp [go_sem, ld _ m3]) ?_
    refine rdPS (v := .pointer (some ⟨p, 2, none⟩)) (fun W => by simp [go_sem]) ?_
    refine rdWS (v := v) (by simp [go_sem, ld _ m3]) ?_
    refine ca_wnat (k := 0) (l := []) (Own.nil _ _ 1) hc (by omega) fun s4 w4 o4 m4 n4 => ?_
    have m4' : Mod (fun _ => False) w2 w4 := m3.trans (m4.mono fun b _ h => by cases h)
    have n4' : ∀ b, inSl s4 b → w2.heap.size ≤ b := fun b hb => by rcases n4 b hb with h | h; cases h; exact Nat.le_trans m3.size h
    refine ⟨by simp [go_sem, ld _ m4'], by simp [go_sem, ld _ m4'], ?_⟩
    have l1 := natB_len10 hc
    have l2 := natB_len10 hq
    refine ca_wnat (l := natB o.c) (by simpa using o4) hq (by omega) fun s5 w5 o5 m5 n5 => ?_
    have m5' : Mod (fun _ => False) w2 w5 := m4'.on m5 fun b hb => .inr (n4' b hb)
    have n5' : ∀ b, inSl s5 b → w2.heap.size ≤ b := fun b hb => by rcases n5 b hb with h | h; exact n4' b h; exact Nat.le_trans m4'.size h
    refine ⟨by simp [go_sem, ld _ m5'], ?_⟩
    have hv5 := hv2.mod m5' fun _ _ h => h
    refine ca_wtext (l := natB o.c ++ natB o.q) o5 hv5 (fun b hb hi => by have h1 := n5' b hb; have h2 := hv2.lt hi; omega) (by omega) (by omega) fun s6 w6 o6 m6 n6 => ?_
    refine hK s6 (turnB o) 0 w6 (by rw [if_pos hmay]; exact ⟨rfl, rfl⟩) ?_ ((hm.trans m2).trans (m5'.on m6 fun b hb => .inr (n5' b hb))) ?_
    · unfold turnB
      have e : (natB o.c ++ natB o.q ++ textB o.b).length = (natB o.c).length + (natB o.q).length + (textB o.b).length := by simp [Nat.add_assoc]
      rw [e]; simpa using o6
    · intro b hb
      have h1 := hm.size
      have h2 := m2.size
      have h3 := m5'.size
      rcases n6 b hb with h | h
      · have := n5' b h; omega
      · omega
  · refine rvS (v := .bool true) (w' := w2) (by simp [go_sem, hmay]) ?_
    rw [ifB_bool, if_pos rfl]
    exact hK nilS [] 2 w2 (by rw [if_neg hmay]; exact ⟨rfl, rfl⟩) (Own.nil _ _ 1) (hm.trans m2) fun b hb => by cases hb

theorem ca_rbytes {w : World} {K : Kont} {o : Tn} {v : Value} (hv : Rd w 1 v o.b.length (bv o.b)) (hl : o.b.length ≤ 100000000) (hc : o.c < 18446744073709551616) (hq : o.q < 18446744073709551616)
    (hK : ∀ s w', Own w' 5 1 s (turnB o).length (bv (turnB o)) → Mod (fun _ => False) w w' → (∀ b, inSl s b → w.heap.size ≤ b) → K s w') :
    Ca Tryz.prog 9 #[tnV o.c o.q v] w K := by
  apply ca9
  unfold F9 tnV
  have hm : Mod (fun _ => False) w (w.alloc (.cells #[.int .u64 o.c, .int .u64 o.q, v] 25)) := (Mod.refl _ w).alloc _
  refine rvS (v := .pointer (some ⟨w.heap.size, 0, none⟩)) (w' := w.alloc (.cells #[.int .u64 o.c, .int .u64 o.q, v] 25)) (by simp [go_sem]) ?_
  obtain ⟨p, hp0⟩ : ∃ p, p = w.heap.size := ⟨_, rfl⟩
  have hb : hp (w.alloc (.cells #[.int .u64 o.c, .int .u64 o.q, v] 25)) p = some (.cells #[.int .u64 o.c, .int .u64 o.q, v] 25 (0, 0)) := by rw [hp0]; simp [go_sem]
  rw [← hp0]
  have hsz1 := hm.size
  generalize w.alloc (.cells #[.int .u64 o.c, .int .u64 o.q, v] 25) = w1 at hm hb hsz1 ⊢
  have hv1 := hv.mod hm fun _ _ h => h
  have m3 : Mod (fun _ => False) w1 w1.drew := (Mod.refl _ w1).drew
  have ld : ∀ W, Mod (fun _ => False) w1 W → hp W p = some (.cells #[.int .u64 o.c, .int .u64 o.q, v] 25 (0, 0)) := fun W m => m.keep hb id
  refine rdPS (v := .pointer (some ⟨p, 0, none⟩)) (fun W => by simp [go_sem]) ?_
  refine rdWS (v := .int .u64 o.c) (by simp [go_sem, ld _ m3]) ?_
  refine rdPS (v := .pointer (some ⟨p, 1, none⟩)) (fun W => by simp [go_sem]) ?_
  refine rdWS (v := .int .u64 o.q) (by simp [go_sem, ld _ m3]) ?_
  have l1 := natB_len10 hc
  have l2 := natB_len10 hq
  refine ca_natF o.c hc fun s4 w4 o4 m4 n4 => ?_
  have m4' : Mod (fun _ => False) w1 w4 := m3.trans m4
  have s4' := m4'.size
  refine ⟨by simp [go_sem, ld _ m4'], ?_⟩
  refine ca_natF o.q hq fun s5 w5 o5 m5 n5 => ?_
  have m5' : Mod (fun _ => False) w1 w5 := m4'.trans m5
  have s5' := m5.size
  refine rx_append uBs uBs (elemT_of u8E) (o4.mod m5 fun _ _ h => h) o5.rd (bv_one _) (by omega) fun s6 w6 o6 m6 n6 => ?_
  rw [← bv_append] at o6
  have hS4 : ∀ b, inSl s4 b → w1.heap.size ≤ b := fun b hb => Nat.le_trans m3.size (n4 b hb)
  have m6' : Mod (fun _ => False) w1 w6 := m5'.on m6 fun b hb => .inr (hS4 b hb)
  have n6' : ∀ b, inSl s6 b → w1.heap.size ≤ b := fun b hb => by
    rcases n6 b hb with h | h
    · exact hS4 b h
    · omega
  refine rvS (v := .pointer (some ⟨p, 2, none⟩)) (w' := w6) (by simp [go_sem]) ?_
  refine rvS (v := v) (w' := w6) (by simp [go_sem, ld _ m6']) ?_
  have hv6 := hv1.mod m6' fun _ _ h => h
  refine ca_textF hv6 (by omega) fun s7 w7 o7 m7 n7 => ?_
  have hl7 : (textB o.b).length ≤ 100000010 := by
    have := natB_len10 (n := o.b.length) (by omega)
    unfold textB; rw [List.length_append]; omega
  refine rx_append uBs uBs (elemT_of u8E) (o6.mod m7 fun _ _ h => h) o7.rd (bv_one _) (by omega) fun s8 w8 o8 m8 n8 => ?_
  rw [← bv_append] at o8
  have s6' := m6'.size
  have s7' := m7.size
  refine hK s8 w8 ?_ (hm.trans ((m6'.trans m7).on m8 fun b hb => .inr (n6' b hb))) fun b hb => ?_
  · unfold turnB
    have e : (natB o.c ++ natB o.q ++ textB o.b).length = (natB o.c).length + (natB o.q).length + (textB o.b).length := by simp [Nat.add_assoc]
    rw [e]; exact o8
  · rcases n8 b hb with h | h
    · have := n6' b h; omega
    · omega

/-- What is read, and the error. -/
def rdT (l : List UInt8) : Tn × Nat :=
  match turnR l with
  | some o => (o, 0)
  | none => (⟨0, 0, []⟩, 5)
/-- A turn stored. -/
theorem stTn {W : World} {p x y : Nat} {x0 x1 x2 v : Value} (h : hp W p = some (.cells #[x0, x1, x2] 25 (0, 0))) (hv : ∃ a n c, v = .slice a n c) :
    ∃ w8, ((Instr.storeAt 25 (.pointer (some ⟨p, 0, none⟩)) (tnV x y v)).run Tryz.prog W = .ok () w8) ∧ hp w8 p = some (.cells #[.int .u64 x, .int .u64 y, v] 25 (0, 0)) ∧ Mod (fun b => b = p) W w8 := by
  obtain ⟨a, n, c, rfl⟩ := hv
  refine ⟨((W.setCell ⟨p, 0, none⟩ (.int .u64 x)).setCell ⟨p, 1, none⟩ (.int .u64 y)).setCell ⟨p, 2, none⟩ (.slice a n c), ?_, ?_, ?_⟩
  · simp [go_sem, tnV, h]
  · simp [go_sem, h]
  · exact (((Mod.refl (fun b => b = p) W).setCell (.inl rfl) _ _).setCell (.inl rfl) _ _).setCell (.inl rfl) _ _
theorem turnO_lt (l : List UInt8) : (turnO l).1.c < 18446744073709551616 ∧ (turnO l).1.q < 18446744073709551616 ∧ (turnO l).1.b.length ≤ 2000 := by
  unfold turnO
  exact ⟨Nat.lt_succ_of_le rsSmall_most, Nat.lt_succ_of_le rsSmall_most, rsText_most⟩

set_option maxRecDepth 10000 in
theorem ca_sread {w : World} {K : Kont} {v : Value} {l : List UInt8} (hv : Rd w 1 v l.length (bv l)) (hl : l.length ≤ 1000000000)
    (hK : ∀ v2 w', Own w' 5 1 v2 (rdT l).1.b.length (bv (rdT l).1.b) → Mod (fun _ => False) w w' → (∀ b, inSl v2 b → w.heap.size ≤ b) → K (.tuple #[tnV (rdT l).1.c (rdT l).1.q v2, .int .i64 (rdT l).2]) w') :
    Ca Tryz.prog 6 #[v] w K := by
  apply ca6
  unfold F6
  have hm1 : Mod (fun _ => False) w (w.alloc (.cells #[.int .u64 0, .int .u64 0, .slice none 0 0] 25)) := (Mod.refl _ w).alloc _
  refine rvS (v := .pointer (some ⟨w.heap.size, 0, none⟩)) (w' := w.alloc (.cells #[.int .u64 0, .int .u64 0, .slice none 0 0] 25)) (by simp [go_sem]) ?_
  obtain ⟨p, hp0⟩ : ∃ p, p = w.heap.size := ⟨_, rfl⟩
  have hb1 : hp (w.alloc (.cells #[.int .u64 0, .int .u64 0, .slice none 0 0] 25)) p = some (.cells #[.int .u64 0, .int .u64 0, .slice none 0 0] 25 (0, 0)) := by rw [hp0]; simp [go_sem]
  rw [← hp0]
  have hsz1 := hm1.size
  generalize w.alloc (.cells #[.int .u64 0, .int .u64 0, .slice none 0 0] 25) = w1 at hm1 hb1 hsz1 ⊢
  have hv1 := hv.mod hm1 fun _ _ h => h
  refine ca_newReader hv1 hl fun w2 r2 m2 => ?_
  obtain ⟨r, hr0⟩ : ∃ r, r = w1.heap.size := ⟨_, rfl⟩
  rw [← hr0] at r2 ⊢
  have hrw : w.heap.size ≤ r := by omega
  have hpr : p ≠ r := by have := lt_of_heap hb1; omega
  have toN : ∀ {W W' : World}, Mod (fun _ => False) w W → Mod (fun b => b = r) W W' → Mod (fun _ => False) w W' := fun m m' => m.on m' fun b hb => .inr (by rw [hb]; exact hrw)
  have M2 := hm1.trans m2
  have b2 := m2.hpk hb1 id
  refine ca_rnat r2 fun w3 r3 m3 => ?_
  have M3 := toN M2 m3
  have b3 := m3.hpk b2 hpr
  refine ca_rnat r3 fun w4 r4 m4 => ?_
  have M4 := toN M3 m4
  have b4 := m4.hpk b3 hpr
  refine ca_text r4 (by decide) fun v5 w5 r5 o5 m5 n5 => ?_
  have M5 := toN M4 m5
  have b5 := m5.hpk b4 hpr
  have hO : turnO l = (⟨(rsSmall l 18446744073709551615 ⟨0, 0⟩).1, (rsSmall l 18446744073709551615 (rsSmall l 18446744073709551615 ⟨0, 0⟩).2).1, (rsText l 2000 (rsSmall l 18446744073709551615 (rsSmall l 18446744073709551615 ⟨0, 0⟩).2).2).1⟩, (rsText l 2000 (rsSmall l 18446744073709551615 (rsSmall l 18446744073709551615 ⟨0, 0⟩).2).2).2) := rfl
  have hlt := turnO_lt l
  generalize hx : (rsSmall l 18446744073709551615 ⟨0, 0⟩).1 = x at *
  generalize hy : (rsSmall l 18446744073709551615 (rsSmall l 18446744073709551615 ⟨0, 0⟩).2).1 = y at *
  generalize hz : (rsText l 2000 (rsSmall l 18446744073709551615 (rsSmall l 18446744073709551615 ⟨0, 0⟩).2).2) = z at *
  have n5w : ∀ b, inSl v5 b → w.heap.size ≤ b := fun b hb => Nat.le_trans M4.size (n5 b hb)
  obtain ⟨a5, c5, hv5, -⟩ := o5.isSl
  refine rvS (v := tnV x y v5) (w' := w5) (by rw [hv5]; simp [go_sem, tnV]) ?_
  have m6 : Mod (fun _ => False) w5 (w5.alloc (.cells #[.int .u64 0, .int .u64 0, .slice none 0 0] 25)) := (Mod.refl _ w5).alloc _
  refine rvS (v := .pointer (some ⟨w5.heap.size, 0, none⟩)) (w' := w5.alloc (.cells #[.int .u64 0, .int .u64 0, .slice none 0 0] 25)) (by simp [go_sem]) ?_
  obtain ⟨q, hq0⟩ : ∃ q, q = w5.heap.size := ⟨_, rfl⟩
  have hb6 : hp (w5.alloc (.cells #[.int .u64 0, .int .u64 0, .slice none 0 0] 25)) q = some (.cells #[.int .u64 0, .int .u64 0, .slice none 0 0] 25 (0, 0)) := by rw [hq0]; simp [go_sem]
  rw [← hq0]
  generalize w5.alloc (.cells #[.int .u64 0, .int .u64 0, .slice none 0 0] 25) = w6 at m6 hb6 ⊢
  have hpq : p ≠ q := by have := lt_of_heap b5; omega
  have hrq : r ≠ q := by have := r5.lt; omega
  have o6 := o5.mod m6 fun _ _ h => h
  have r6 := r5.mod m6 id fun _ _ h => h
  have b6 := m6.hpk b5 id
  have hvq : ∀ b, inSl v5 b → b ≠ q := fun b hb => by have := o5.lt hb; omega
  have hqw : w.heap.size ≤ q := by have := M5.size; omega
  obtain ⟨w7, hs7, b7, m7⟩ := stTn (x := x) (y := y) (v := v5) hb6 ⟨_, _, _, hv5⟩
  refine ruS hs7 ?_
  have r7 := r6.mod m7 hrq fun b hb e => by have := hv.lt hb; omega
  have o7 := o6.mod m7 hvq
  have p7 := m7.hpk b6 hpq
  have M7 : Mod (fun _ => False) w w7 := (M5.trans m6).on m7 fun b hb => .inr (by rw [hb]; exact hqw)
  have hr7 := r7.le
  refine JoinW.at (fun st W => st = (.bool (decide (¬ (rsDone l z.2 = 0 ∧ (⟨x, y, z.1⟩ : Tn).May))), ()) ∧ Mod (fun _ => False) w7 W) ?_ ?_
  · refine ca_done r7 fun w8 m8 => ?_
    have b8 := m8.hpk b7 id
    by_cases hd : rsDone l z.2 = 0
    · refine rvS (v := .bool false) (w' := w8) (by simp [go_sem, hd]) ?_
      rw [ifB_bool, if_neg Bool.false_ne_true]
      refine rvS (v := tnV x y v5) (w' := w8) (by simp [go_sem, b8, tnV]) ?_
      refine ca_smay (o := ⟨x, y, z.1⟩) (o7.mod m8 fun _ _ h => h).rd (by rw [hO] at hlt; have := hlt.2.2; simp only at this ⊢; omega) fun w9 m9 => ?_
      refine rvS (v := .bool (!decide (⟨x, y, z.1⟩ : Tn).May)) (w' := w9) (by simp [go_sem]) ?_
      refine ⟨?_, m8.trans m9⟩
      by_cases hmay : (⟨x, y, z.1⟩ : Tn).May <;> simp [hd, hmay]
    · refine rvS (v := .bool true) (w' := w8) (by simp [go_sem]; omega) ?_
      rw [ifB_bool, if_pos rfl]
      refine ⟨?_, m8⟩
      simp [hd]
  rintro _ W ⟨rfl, mW⟩
  unfold J6_0
  intro _
  have MW := M7.trans mW
  have pW := mW.hpk p7 id
  have bW := mW.hpk b7 id
  have oW := o7.mod mW fun _ _ h => h
  have hpw : w.heap.size ≤ p := by omega
  by_cases hok : rsDone l z.2 = 0 ∧ (⟨x, y, z.1⟩ : Tn).May
  · rw [ifB_bool, if_neg (by rw [decide_eq_true_eq]; exact fun h => h hok)]
    have hR : rdT l = (⟨x, y, z.1⟩, 0) := by
      unfold rdT turnR
      rw [hO]
      simp only
      rw [if_pos hok]
    rw [hR] at hK
    refine rvS (v := tnV x y v5) (w' := W) (by simp [go_sem, bW, tnV]) ?_
    obtain ⟨w8, hs8, b8, m8⟩ := stTn (x := x) (y := y) (v := v5) pW ⟨_, _, _, hv5⟩
    refine ruS hs8 ?_
    refine rdWS (v := tnV x y v5) (by simp [go_sem, b8, tnV]) ?_
    refine hK v5 w8 (oW.mod m8 fun b hb e => ?_) (MW.on m8 fun b hb => .inr (by rw [hb]; exact hpw)) n5w
    have h1 := n5 b hb
    have h2 := lt_of_heap b4
    omega
  · rw [ifB_bool, if_pos (by rw [decide_eq_true_eq]; exact hok)]
    have hR : rdT l = (⟨0, 0, []⟩, 5) := by
      unfold rdT turnR
      rw [hO]
      simp only
      rw [if_neg hok]
    rw [hR] at hK
    refine rvS (v := tnV 0 0 nilS) (w' := W) (by simp [go_sem, tnV, nilS]) ?_
    obtain ⟨w8, hs8, b8, m8⟩ := stTn (x := 0) (y := 0) (v := nilS) pW ⟨_, _, _, rfl⟩
    refine ruS hs8 ?_
    refine rdWS (v := tnV 0 0 nilS) (by simp [go_sem, b8, tnV]) ?_
    exact hK nilS w8 (Own.nil _ _ 1) (MW.on m8 fun b hb => .inr (by rw [hb]; exact hpw)) fun b hb => by cases hb
end Go.Proofs
