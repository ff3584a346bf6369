/-
  The contracts of SameVariations and of known.
  Conditions: where they ask for any, each theorem names them.
-/
import Derived.Test.YtanjfianhnhhmaaLedK
import Derived.Test.YtanjfianhnhhmaaLedN
import Derived.Test.YtanjfianhnhhmaaG2
import Derived.Test.YtanjfianhnhhmaaG3
set_option linter.unusedVariables false
set_option linter.unusedSimpArgs false
namespace Go.Proofs
open Go Go.Vc

theorem Rd.elemR {w : World} {sz : Nat} {v : Value} {n : Nat} {cs : List Value} (h : Rd w sz v n cs) {i : Nat} (hi : i < n) :
    ∃ b off cap, v = .slice (some ⟨b, off, none⟩) n cap ∧ At w b (off + i * sz) ((cs.drop (i * sz)).take sz) := by
  obtain ⟨hl, ⟨rfl, _⟩ | ⟨b, off, cap, rfl, hc, hh⟩⟩ := h
  · omega
  · refine ⟨b, off, cap, rfl, hh.sub (i * sz) sz ?_⟩
    rw [hl, ← Nat.succ_mul]
    exact Nat.mul_le_mul_right _ hi

theorem ca_sameVa {w : World} {v1 v2 : Value} {xs ys : List (Int × Int)} {K : Kont} (h1 : Rd w 2 v1 xs.length (xs.flatMap cellsVa)) (h2 : Rd w 2 v2 ys.length (ys.flatMap cellsVa)) (hn : xs.length < 4611686018427387904)
    (hK : ∀ w', Mod (fun _ => False) w w' → K (.bool (decide (xs = ys))) w') : Ca Try.prog 29 #[v1, v2] w K := by
  obtain ⟨a1, c1, rfl⟩ := h1.isSl
  obtain ⟨a2, c2, rfl⟩ := h2.isSl
  apply ca29
  unfold F29
  simp [go_sem]
  by_cases hl : xs.length = ys.length
  · rw [if_pos (by omega)]
    refine loopK (fun s W => ∃ (x : Value) (i : Nat), i ≤ xs.length ∧ s = (x, .int .i64 i, ()) ∧ Mod (fun _ => False) w W ∧ xs.take i = ys.take i)
      (fun s _ => match s.2.1 with | .int _ i => xs.length - i.toNat | _ => 0) ⟨_, 0, by omega, rfl, Mod.refl _ _, rfl⟩ ?_
    rintro ⟨sv, _⟩ W ⟨x, i, hi, ⟨⟩, mW, heq⟩ KN hKN
    unfold L29_0
    intro _
    have h1W := h1.mod mW fun _ _ h => h
    have h2W := h2.mod mW fun _ _ h => h
    have hw1 : IntKind.i64.wrap ((i : Int) + 1) = ((i + 1 : Nat) : Int) := by rw [IntKind.wrap_i64]; omega
    by_cases hlt : i < xs.length
    · obtain ⟨b1, o1, k1, e1, hA1⟩ := Rd.elemR h1W hlt
      obtain ⟨b2, o2, k2, e2, hA2⟩ := Rd.elemR h2W (i := i) (by omega)
      rw [flat_get cellsVa 2 _ _ (fun _ _ => rfl) hlt] at hA1
      rw [flat_get cellsVa 2 _ _ (fun _ _ => rfl) (show i < ys.length by omega)] at hA2
      cases e1
      cases e2
      obtain ⟨C, e, fz, hC, hCg⟩ := hA1.get
      obtain ⟨D, e', fz', hD, hDg⟩ := hA2.get
      have hC0 : C[o1 + i * 2]? = some (.int .u32 xs[i].1) := hCg 0 _ rfl
      have hC1 : C[o1 + (i * 2 + 1)]? = some (.int .i64 xs[i].2) := by have := hCg 1 _ rfl; rwa [Nat.add_assoc] at this
      have hD0 : D[o2 + i * 2]? = some (.int .u32 ys[i].1) := hDg 0 _ rfl
      have hD1 : D[o2 + (i * 2 + 1)]? = some (.int .i64 ys[i].2) := by have := hDg 1 _ rfl; rwa [Nat.add_assoc] at this
      simp [-Int.natCast_add, go_sem, hlt, hl ▸ hlt, hC, hC0, hC1, hD, hD0, hD1]
      refine ⟨.bool (!(decide (xs[i] = ys[i]))), fun w => ?_, ?_⟩
      · by_cases e1 : xs[i].1 = ys[i].1 <;> by_cases e2 : xs[i].2 = ys[i].2 <;> simp [e1, e2, Prod.ext_iff]
      · by_cases e : xs[i] = ys[i]
        · simp [-Int.natCast_add, e, hw1]
          refine hKN _ _ ⟨sv, i + 1, by omega, rfl, mW.drew, ?_⟩ (by simp; omega)
          rw [List.take_succ_eq_append_getElem hlt, List.take_succ_eq_append_getElem (by omega), heq, e]
        · simp [e]
          have hne : ¬ xs = ys := fun h => e (by subst h; rfl)
          have h := hK W.drew mW.drew
          rw [decide_eq_false hne] at h
          exact h
    · obtain rfl : i = xs.length := by omega
      simp [go_sem]
      have : xs = ys := by rw [List.take_of_length_le (Nat.le_refl _), List.take_of_length_le (by omega)] at heq; exact heq
      have h := hK W mW
      rw [decide_eq_true this] at h
      exact h
  · rw [if_neg (by omega)]
    have h := hK w (Mod.refl _ _)
    rw [decide_eq_false (fun e => hl (by rw [e]))] at h
    exact h

theorem known1 : Led.empty.deposit 1 100 = (0, ⟨0, [⟨1, 100, false, false⟩], []⟩) := by rfl
theorem known2 : Led.deposit ⟨0, [⟨1, 100, false, false⟩], []⟩ 2 100 = (0, ⟨0, [⟨1, 100, false, false⟩, ⟨2, 100, false, false⟩], []⟩) := by rfl
theorem known3 : Led.trade ⟨0, [⟨1, 100, false, false⟩, ⟨2, 100, false, false⟩], []⟩ 5 1 2 10 3 = (0, ⟨0, [⟨1, 100, false, false⟩, ⟨2, 100, false, false⟩], [⟨5, 1, 3, 30⟩, ⟨5, 2, -3, -30⟩]⟩) := by rfl
theorem known4 : Led.mark ⟨0, [⟨1, 100, false, false⟩, ⟨2, 100, false, false⟩], [⟨5, 1, 3, 30⟩, ⟨5, 2, -3, -30⟩]⟩ 5 12 false = (0, [(1, 6), (2, -6)], ⟨0, [⟨1, 100, false, false⟩, ⟨2, 100, false, false⟩], [⟨5, 1, 3, 36⟩, ⟨5, 2, -3, -36⟩]⟩) := by rfl
theorem known5 : Led.position ⟨0, [⟨1, 100, false, false⟩, ⟨2, 100, false, false⟩], [⟨5, 1, 3, 36⟩, ⟨5, 2, -3, -36⟩]⟩ 5 1 = ⟨5, 1, 3, 36⟩ := by rfl

theorem ca_known {w : World} {K : Kont} (hK : ∀ w', Mod (fun _ => False) w w' → K (.bool true) w') : Ca Try.prog 11 #[] w K := by
  apply ca11
  unfold F11
  refine ca_new fun w0 l F q0 m0 f0 => ?_
  have fm : ∀ {w'}, Mod F w0 w' → Mod (fun _ => False) w w' := fun m => m0.on m fun b hb => .inr (f0 b hb)
  refine JoinW.at (fun s W => s = (.bool false, ()) ∧ Mod F w0 W ∧ LedQ W l F ⟨0, [⟨1, 100, false, false⟩, ⟨2, 100, false, false⟩], [⟨5, 1, 3, 30⟩, ⟨5, 2, -3, -30⟩]⟩) ?_ ?_
  · simp [go_sem, lptr]
    refine ca_deposit q0 (by omega) fun w1 q1 m1 => ?_
    rw [known1] at q1 ⊢
    simp [go_sem]
    refine ca_deposit q1 (by omega) fun w2 q2 m2 => ?_
    rw [known2] at q2 ⊢
    simp [go_sem]
    refine ca_trade q2 (by omega) fun w3 q3 m3 => ?_
    rw [known3] at q3 ⊢
    simp [go_sem]
    exact ⟨(m1.trans m2).trans m3, q3⟩
  rintro _ W ⟨rfl, mW, qW⟩
  unfold J11_0
  intro _
  simp
  refine ca_mark qW (by simp) fun w4 v q4 o4 m4 f4 => ?_
  rw [known4] at q4 o4 ⊢
  simp [go_sem]
  refine rx_lit (e := 45) (sz := 2) [.agg #[.int .u32 1, .int .i64 6], .agg #[.int .u32 2, .int .i64 (-6)]] tSlV (elemT_of vaE) rfl rfl (by simp [Value.cells]) (by decide) ?_
  generalize hw5 : World.alloc _ _ = w5
  have m5 : Mod (fun _ => False) w4 w5 := by subst hw5; exact (Mod.refl _ w4).alloc _
  have hr : Rd w5 2 (.slice (some ⟨w4.heap.size, 0, none⟩) 2 2) 2 ([((1 : Int), (6 : Int)), (2, -6)].flatMap cellsVa) := by
    refine ⟨rfl, .inr ⟨_, 0, 2, rfl, Nat.le_refl _, ⟨_, _, _, by subst hw5; rw [heap_alloc, if_pos rfl], ?_, ?_⟩⟩⟩
    · simp [Value.cells, cellsVa]
    · simp [Value.cells, cellsVa]
  refine ca_sameVa (xs := [(1, 6), (2, -6)]) (ys := [(1, 6), (2, -6)]) (o4.rd.mod m5 fun _ _ h => h) hr (by simp) fun w6 m6 => ?_
  simp [go_sem]
  have q6 := (q4.mod m5 fun _ _ h => h).mod m6 fun _ _ h => h
  refine ca_position q6 fun w7 m7 => ?_
  rw [known5]
  simp [go_sem, poV]
  refine ca_funds (q6.mod m7 fun _ _ h => h) fun w8 m8 => ?_
  simp [go_sem, Led.funds]
  exact hK _ (fm ((((mW.trans m4).trans (m5.mono fun _ _ h => h.elim)).trans (m6.mono fun _ _ h => h.elim)).trans (m7.mono fun _ _ h => h.elim) |>.trans (m8.mono fun _ _ h => h.elim)))
end Go.Proofs
