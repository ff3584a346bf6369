/-
  The document's ledger: Deposit, Withdraw, Set, Trade.
  Conditions: where they ask for any, each theorem names them.
-/
import Derived.Test.YtanjfianhnhhmaaRfD
set_option linter.unusedVariables false
set_option linter.unusedSimpArgs false
namespace Go.Proofs
open Go Go.Vc

/-- What a call on the document's ledger may do: its own variable turns, and new blocks come. -/
structure RStp (F : Nat → Prop) (r : Nat) (w w' : World) (F' : Nat → Prop) : Prop where
  mod : Mod (fun b => b = r) w w'
  fresh : ∀ b, F' b → F b ∨ w.heap.size ≤ b
theorem RfQ.lt' {w : World} {r : Nat} {F : Nat → Prop} {R : Led} (h : RfQ w r F R) : r < w.heap.size := by
  obtain ⟨⟨sA, sH, h1, _⟩, _, _⟩ := h
  exact lt_of_heap h1
theorem RStp.refl (F : Nat → Prop) (r : Nat) (w : World) : RStp F r w w F := ⟨Mod.refl _ _, fun b hb => .inl hb⟩
theorem RStp.of {F : Nat → Prop} {r : Nat} {w w' : World} (m : Mod (fun _ => False) w w') : RStp F r w w' F := ⟨m.mono fun _ _ h => h.elim, fun b hb => .inl hb⟩
theorem RStp.trans {F F' F'' : Nat → Prop} {r : Nat} {w w' w'' : World} (h : RStp F r w w' F') (h' : RStp F' r w' w'' F'') : RStp F r w w'' F'' :=
  ⟨h.mod.trans h'.mod, fun b hb => (h'.fresh b hb).elim (h.fresh b) fun h2 => .inr (Nat.le_trans h.mod.size h2)⟩

/-- The fund is written. -/
theorem RfQ.setFund {w : World} {r : Nat} {F : Nat → Prop} {R : Led} (h : RfQ w r F R) (f : Int) : RfQ (w.setCell ⟨r, 0, none⟩ (.int .i64 f)) r F { R with fund := f } := by
  obtain ⟨⟨sA, sH, h1, h2, h3, h4, h5⟩, hs, hFl⟩ := h
  have mS : Mod (fun b => b = r) w (w.setCell ⟨r, 0, none⟩ (.int .i64 f)) := (Mod.refl (fun b => b = r) w).setCell (b := r) (.inl rfl) _ _
  refine ⟨⟨sA, sH, ?_, h2.mod mS fun b hb e => (h4 b hb).2 e, h3.mod mS fun b hb e => (h5 b hb).2 e, h4, h5⟩, hs, fun b hb => by rw [size_setCell]; exact hFl b hb⟩
  simp [go_sem, h1]

theorem ca_rdeposit {w : World} {r : Nat} {F : Nat → Prop} {R : Led} {K : Kont} {n m : Int} (h : RfQ w r F R) (hok : R.Ok)
    (hK : ∀ w' F', RfQ w' r F' (R.deposit n m).2 → RStp F r w w' F' → K (.int .i64 (R.deposit n m).1) w') : Ca Try.prog 21 #[lptr r, .int .u32 n, .int .i64 m] w K := by
  have hlen := hok.len
  apply ca21
  unfold F21
  refine ca_rget h (by omega) fun w1 m1 => ?_
  have q1 := h.modF m1
  unfold Led.getV
  generalize hb : (R.getO n).getD ⟨0, 0, false, false⟩ = a
  simp [go_sem, acV]
  generalize hw2 : World.alloc _ _ = w2
  have m2 : Mod (fun _ => False) w1 w2 := by subst hw2; exact (Mod.refl _ w1).alloc _
  have hloc : hp w2 w1.heap.size = some (.cells #[.int .u32 a.num, .int .i64 a.cash, .bool a.kil, .bool a.dfl] 34 (0, 0)) := by subst hw2; simp [go_sem]
  have q2 := q1.modF m2
  have hrl := q1.lt'
  have m12 := m1.trans m2
  have hM : amongB m 1 1000000000000000 = amongB m 1 MF := rfl
  have hMF : MF = 1000000000000000 := rfl
  refine ca_ramong ?_
  rw [hM]
  obtain ⟨sA, sH, g1, g2, -⟩ := q2.out
  obtain ⟨aA, cA, hsA⟩ := g2.isSl
  subst hsA
  simp [go_sem, lptr, hp_of g1]
  unfold Led.deposit at hK
  by_cases hm : amongB m 1 MF = true
  · have hmr : 1 ≤ m ∧ m ≤ 1000000000000000 := amongB_iff.1 hm
    rw [if_pos hm] at hK ⊢
    refine JoinW.at (fun s W => s = (.bool (decide (R.getO n = none ∧ 64 ≤ R.all.length)), ()) ∧ W = w2) ?_ ?_
    · by_cases hg : R.getO n = none
      · simp [hg, go_sem, hp_of g1]
        omega
      · simp [hg, go_sem]
    rintro _ W ⟨rfl, rfl⟩
    unfold J21_0
    intro _
    by_cases hf : R.getO n = none ∧ 64 ≤ R.all.length
    · rw [if_pos hf] at hK
      simp only [decide_eq_true hf, ifB_bool, if_true]
      exact hK _ _ q2 (RStp.of m12)
    · rw [if_neg hf] at hK
      simp only [decide_eq_false hf, ifB_bool, Bool.false_eq_true, if_false]
      refine ca_rfunds q2 hok ?_
      have hfr := hok.funds
      have hwr : IntKind.i64.wrap (R.funds + m) = R.funds + m := by rw [IntKind.wrap_i64]; omega
      simp [go_sem, hwr, hp_of g1, hp_of hloc]
      by_cases ho : R.funds + m > MF
      · rw [if_pos ho] at hK
        rw [if_pos (by omega)]
        exact hK _ _ q2 (RStp.of m12)
      · rw [if_neg ho] at hK
        rw [if_neg (by omega)]
        rw [hb] at hK
        unfold Led.putA at hK
        by_cases hn0 : n = 0
        · subst hn0
          have : R.getO 0 = some (fundAc R.fund) := by simp [Led.getO]
          rw [this] at hb
          simp only [Option.getD_some] at hb
          subst hb
          simp only [fundAc, if_true] at hK
          have hf0 := hok.fund
          have hwr2 : IntKind.i64.wrap (R.fund + m) = R.fund + m := by rw [IntKind.wrap_i64]; omega
          simp [go_sem, hp_of g1, hwr2]
          exact hK _ F (q2.setFund _) ⟨(m12.mono (G := fun b => b = r) fun _ _ h => h.elim).setCell (b := r) (.inl rfl) _ _, fun b hb => .inl hb⟩
        · simp only [if_neg hn0] at hK
          have hac : 0 ≤ a.cash ∧ a.cash ≤ MF := by
            cases hg : R.getO n with
            | none => rw [hg] at hb; subst hb; exact ⟨by simp, by simp [MF]⟩
            | some x =>
              rw [hg] at hb
              simp only [Option.getD_some] at hb
              subst hb
              obtain ⟨g1, g2, g3, g4, g5, g6⟩ := hok.getO hg
              exact ⟨g4, g5⟩
          have hwr2 : IntKind.i64.wrap (a.cash + m) = a.cash + m := by rw [IntKind.wrap_i64]; omega
          simp [go_sem, hn0, hwr2, hp_of hloc]
          generalize hw3 : World.setCell _ _ _ = w3
          have m3 : Mod (fun b => b = w1.heap.size) W w3 := by subst hw3; exact ((Mod.refl (fun b => b = w1.heap.size) W).setCell (b := w1.heap.size) (.inl rfl) _ _).setCell (b := w1.heap.size) (.inl rfl) _ _
          have m13 : Mod (fun _ => False) w w3 := m12.on m3 fun b hb => .inr (by have := m1.size; omega)
          refine ca_rput (a := { a with num := n, cash := a.cash + m }) (h.modF m13) hok.sa hlen fun w4 q4 m4 => ?_
          exact hK w4 _ q4 ⟨(m13.mono fun _ _ h => h.elim).trans m4, fun b hb => hb.elim .inl fun h2 => .inr (Nat.le_trans m13.size h2.1)⟩
  · rw [if_neg hm] at hK
    rw [if_neg hm]
    exact hK _ _ q2 (RStp.of m12)

theorem ca_rwithdraw {w : World} {r : Nat} {F : Nat → Prop} {R : Led} {K : Kont} {n m : Int} (h : RfQ w r F R) (hok : R.Ok)
    (hK : ∀ w' F', RfQ w' r F' (R.withdraw n m).2 → RStp F r w w' F' → K (.int .i64 (R.withdraw n m).1) w') : Ca Try.prog 23 #[lptr r, .int .u32 n, .int .i64 m] w K := by
  have hlen := hok.len
  apply ca23
  unfold F23
  have hMF : MF = 1000000000000000 := rfl
  unfold Led.withdraw at hK
  refine JoinW.at (fun s W => s = (.bool (decide (n = 0 ∨ amongB m 1 MF = false)), ()) ∧ W = w) ?_ ?_
  · by_cases hn0 : n = 0
    · simp [go_sem, hn0]
    · simp [go_sem, hn0]
      refine ca_ramong ?_
      have hM : amongB m 1 1000000000000000 = amongB m 1 MF := rfl
      simp [go_sem, hM]
  rintro _ w ⟨rfl, rfl⟩
  unfold J23_0
  intro _
  by_cases hc : n = 0 ∨ amongB m 1 MF = false
  · rw [if_pos hc] at hK
    simp only [decide_eq_true hc, ifB_bool, if_true]
    exact hK _ _ h (RStp.refl ..)
  · rw [if_neg hc] at hK
    simp only [decide_eq_false hc, ifB_bool, Bool.false_eq_true, if_false]
    obtain ⟨hn0, hm0⟩ : n ≠ 0 ∧ amongB m 1 MF = true := ⟨fun e => hc (.inl e), by cases h : amongB m 1 MF with | true => rfl | false => exact absurd (.inr h) hc⟩
    have hmr := amongB_iff.1 hm0
    refine ca_rget h (by omega) fun w1 m1 => ?_
    have q1 := h.modF m1
    unfold Led.getV
    rw [getO_find hn0]
    cases hg : R.find n with
    | none =>
      rw [hg] at hK
      simp [go_sem, acV]
      exact hK _ _ (q1.modF ((Mod.refl _ w1).alloc _)) (RStp.of (m1.alloc _))
    | some x =>
      rw [hg] at hK
      obtain ⟨hx, hxn⟩ := Led.find_mem hg
      obtain ⟨g1, g2, g3, g4⟩ := hok.acc x hx
      simp only at hK
      have hwr2 : IntKind.i64.wrap (x.cash - m) = x.cash - m := by rw [IntKind.wrap_i64]; omega
      simp [go_sem, acV, hwr2]
      have mA : ∀ o, Mod (fun _ => False) w (w1.alloc o) := fun o => m1.alloc o
      by_cases hcash : x.cash < m
      · rw [if_pos hcash] at hK ⊢
        exact hK _ _ (h.modF (mA _)) (RStp.of (mA _))
      · rw [if_neg hcash] at hK ⊢
        unfold Led.putA at hK
        simp only [hxn, if_neg hn0] at hK
        refine ca_rput (a := { x with cash := x.cash - m }) (h.modF (mA _)) hok.sa hlen fun w4 q4 m4 => ?_
        rw [hxn] at q4
        exact hK w4 _ q4 ⟨((mA _).mono fun _ _ h => h.elim).trans m4, fun b hb => hb.elim .inl fun h2 => .inr (Nat.le_trans (mA _).size h2.1)⟩

theorem ca_rset {w : World} {r : Nat} {F : Nat → Prop} {R : Led} {K : Kont} {a : Ac} (h : RfQ w r F R) (hok : R.Ok)
    (hK : ∀ w' F', RfQ w' r F' (R.set a).2 → RStp F r w w' F' → K (.int .i64 (R.set a).1) w') : Ca Try.prog 26 #[lptr r, acV a] w K := by
  have hlen := hok.len
  apply ca26
  unfold F26
  simp [go_sem, acV]
  generalize hw1 : World.alloc _ _ = w1
  have m1 : Mod (fun _ => False) w w1 := by subst hw1; exact (Mod.refl _ w).alloc _
  have hloc : hp w1 w.heap.size = some (.cells #[.int .u32 a.num, .int .i64 a.cash, .bool a.kil, .bool a.dfl] 34 (0, 0)) := by subst hw1; simp [go_sem]
  have q1 := h.modF m1
  have hrl := h.lt'
  unfold Led.set at hK
  have hM : amongB a.cash 0 1000000000000000 = amongB a.cash 0 MF := rfl
  refine JoinW.at (fun s W => s = (.bool (decide (amongB a.cash 0 MF = false ∨ (a.num = 0 ∧ (a.kil = true ∨ a.dfl = true)))), ()) ∧ W = w1) ?_ ?_
  · simp [go_sem, hp_of hloc]
    refine ca_ramong ?_
    rw [hM]
    cases hc : amongB a.cash 0 MF
    · simp [go_sem]
    · simp [go_sem, hp_of hloc]
      by_cases hn0 : a.num = 0
      · simp [hn0]
        cases a.kil <;> simp
      · simp [hn0]
  rintro _ W ⟨rfl, rfl⟩
  unfold J26_0
  intro _
  by_cases hc : amongB a.cash 0 MF = false ∨ (a.num = 0 ∧ (a.kil = true ∨ a.dfl = true))
  · rw [if_pos hc] at hK
    simp only [decide_eq_true hc, ifB_bool, if_true]
    exact hK _ _ q1 (RStp.of m1)
  · rw [if_neg hc] at hK
    simp only [decide_eq_false hc, ifB_bool, Bool.false_eq_true, if_false]
    simp [go_sem, hp_of hloc]
    refine ca_rget q1 (by omega) fun w2 m2 => ?_
    have hloc2 := m2.keep hloc id
    unfold Led.getV
    by_cases hg : R.getO a.num = none
    · rw [if_pos hg] at hK
      simp [go_sem, acV, hg]
      exact hK _ _ ((q1.modF m2).modF ((Mod.refl _ w2).alloc _)) (RStp.of ((m1.trans m2).alloc _))
    · rw [if_neg hg] at hK
      have hl2 := lt_of_heap hloc2
      have hne : w.heap.size ≠ w2.heap.size := by omega
      simp [go_sem, acV, hg, hp_of hloc2, hne]
      generalize hw3 : World.alloc _ _ = w3
      have m3 : Mod (fun _ => False) w2 w3 := by subst hw3; exact (Mod.refl _ w2).alloc _
      have m13 := (m1.trans m2).trans m3
      have q3 := h.modF m13
      unfold Led.putA at hK
      by_cases hn0 : a.num = 0
      · rw [if_pos hn0] at hK
        obtain ⟨sA, sH, g1, -⟩ := q3.out
        simp [go_sem, hn0, lptr, hp_of g1]
        exact hK _ F (q3.setFund _) ⟨(m13.mono (G := fun b => b = r) fun _ _ h => h.elim).setCell (b := r) (.inl rfl) _ _, fun b hb => .inl hb⟩
      · rw [if_neg hn0] at hK
        simp [go_sem, hn0]
        refine ca_rput (a := a) q3 hok.sa hlen fun w4 q4 m4 => ?_
        exact hK w4 _ q4 ⟨(m13.mono fun _ _ h => h.elim).trans m4, fun b hb => hb.elim .inl fun h2 => .inr (Nat.le_trans m13.size h2.1)⟩
end Go.Proofs
