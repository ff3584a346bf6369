/-
  The contracts of the program's ledger: Set, Trade.
  Conditions: where they ask for any, each theorem names them.
-/
import Derived.Test.YtanjfianhnhhmaaLedB
set_option linter.unusedVariables false
set_option linter.unusedSimpArgs false
namespace Go.Proofs
open Go Go.Vc

theorem ca_set {w : World} {l : Nat} {F : Nat → Prop} {S : Led} {K : Kont} {a : Ac} (h : LedQ w l F S) (hn : 0 ≤ a.num ∧ a.num < 4294967296)
    (hK : ∀ w', LedQ w' l F (S.set a).2 → Mod F w w' → K (.int .i64 (S.set a).1) w') : Ca Try.prog 25 #[lptr l, acV a] w K := by
  have h0 := h
  obtain ⟨⟨m1, m2, A, B, h1, h2, h3, h4, h5, h6, h7⟩, hok⟩ := h
  have hlt := lt_of_heap h1
  have hA1 := h2.lt
  have hB1 := h3.lt
  apply ca25
  unfold F25
  simp [go_sem, acV]
  generalize hw1 : World.alloc _ _ = w1
  have m1' : Mod (fun _ => False) w w1 := by subst hw1; exact (Mod.refl _ w).alloc _
  have hloc : hp w1 w.heap.size = some (.cells #[.int .u32 a.num, .int .i64 a.cash, .bool a.kil, .bool a.dfl] 34 (0, 0)) := by subst hw1; simp [go_sem]
  have h1w := m1'.keep h1 id
  have q1 := h0.mod m1' fun _ _ h => h
  have mF : Mod F w w1 := m1'.mono fun _ _ h => h.elim
  refine ca_ready q1 ?_
  simp [go_sem]
  unfold Led.set at hK
  have hM : amongB a.cash 0 1000000000000000 = amongB a.cash 0 MF := rfl
  refine JoinW.at (fun s W => s = (.bool (decide (amongB a.cash 0 MF = false ∨ (a.num = 0 ∧ (a.kil = true ∨ a.dfl = true)))), ()) ∧ W = w1) ?_ ?_
  · simp [go_sem, hp_of hloc]
    refine ca_within ?_
    rw [hM]
    cases hc : amongB a.cash 0 MF
    · simp [go_sem]
    · simp [go_sem, hp_of hloc]
      by_cases hn0 : a.num = 0
      · simp [hn0]
        cases a.kil <;> simp
      · simp [hn0]
  rintro _ W ⟨rfl, rfl⟩
  unfold J25_0
  intro _
  by_cases hc : amongB a.cash 0 MF = false ∨ (a.num = 0 ∧ (a.kil = true ∨ a.dfl = true))
  · rw [if_pos hc] at hK
    simp only [decide_eq_true hc, ifB_bool, if_true]
    exact hK _ q1 mF
  · rw [if_neg hc] at hK
    simp only [decide_eq_false hc, ifB_bool, Bool.false_eq_true, if_false]
    have hcash : 0 ≤ a.cash ∧ a.cash ≤ MF := amongB_iff.1 (by cases h : amongB a.cash 0 MF with | true => rfl | false => exact absurd (.inl h) hc)
    have h2d : ∀ W', Mod (fun _ => False) W W' → MapAt encU acV W' m1 A := fun W' m => (h2.mod m1' id).mod m id
    simp [go_sem, lptr, hp_of h1w, hp_of hloc]
    refine rdX_look2 (enc := encU) (ev := acV) (x := a.num) (acV ⟨0, 0, false, false⟩) uMapA kU32 zAc (.inr ⟨m1, rfl, h2d _ ((Mod.refl _ W).drew)⟩) ?_
    rw [elim_acV, LedQ.lkA h2 h4]
    generalize hb : (S.getO a.num).getD ⟨0, 0, false, false⟩ = x
    have hsz := lt_of_heap hloc
    have hne1 : w.heap.size ≠ W.heap.size := by omega
    have hne2 : l ≠ W.heap.size := by omega
    simp [go_sem, acV, hp_of hloc, hp_of h1w, hne1, hne2]
    have hl : ∀ W', Mod (fun _ => False) W W' → (xLook 71 (.map (some m1)) (.int .u32 a.num) true).run Try.prog W' = .ok (.tuple #[acV x, .bool (S.getO a.num).isSome]) W' := fun W' m => by
      have := run_look2 (P := Try.prog) (enc := encU) (ev := acV) (x := a.num) uMapA kU32 zAc (.inr ⟨m1, rfl, h2d _ m⟩)
      rw [elim_acV, LedQ.lkA h2 h4, hb] at this
      exact this
    refine ⟨hl _ (((Mod.refl _ W).alloc _).drew), ?_⟩
    generalize hw3 : (World.alloc _ _).drew = w3
    have m3 : Mod (fun _ => False) W w3 := by subst hw3; exact ((Mod.refl _ W).alloc _).drew
    have m13 := m1'.trans m3
    by_cases hg : S.getO a.num = none
    · rw [if_pos hg] at hK ⊢
      exact hK _ (q1.mod m3 fun _ _ h => h) (m13.mono fun _ _ h => h.elim)
    · rw [if_neg hg] at hK ⊢
      refine rux_mapUp (enc := encU) (ev := acV) (x := a.num) (v := a) uMapA kU32 (h2d _ (m3.drew)) fun w4 hA m4 hs4 => ?_
      have m4' : Mod (fun b => b = m1) w3 w4 := ((Mod.refl _ w3).drew).trans m4
      refine hK w4 (LedQ.putA (a := a) (m13.keep h1 id) (h2.mod m13 id) (h3.mod m13 id) h4 h5 h6 h7 hok ?_ ?_ hA m4') ?_
      · intro hz
        have hk : ¬ (a.kil = true ∨ a.dfl = true) := fun h => hc (.inr ⟨hz, h⟩)
        obtain ⟨num, cash, kil, dfl⟩ := a
        simp only [fundAc, Ac.mk.injEq, true_and] at *
        refine ⟨hz, ?_, ?_⟩
        · cases kil with
          | false => rfl
          | true => exact absurd (.inl rfl) hk
        · cases dfl with
          | false => rfl
          | true => exact absurd (.inr rfl) hk
      · refine hok.putA hn hcash ?_
        by_cases hn0 : a.num = 0
        · exact .inr (.inr hn0)
        · rw [getO_find hn0] at hg
          exact .inl hg
      · exact (m13.mono fun _ _ h => h.elim).on m4' fun b hb => .inl ((h6 b).2 (.inr (.inl hb)))
end Go.Proofs

namespace Go.Proofs
open Go Go.Vc

theorem some_of_find {S : Led} {n : Int} (h : S.find n ≠ none) : ∃ a ∈ S.all, a.num = n := by
  obtain ⟨x, hx⟩ := Option.ne_none_iff_exists'.1 h
  exact ⟨x, Led.find_mem hx⟩
theorem poE1 : elemOk Try.prog 31 4 24 = true := by kernel_rfl

theorem ca_trade {w : World} {l : Nat} {F : Nat → Prop} {S : Led} {K : Kont} {c b s p n : Int} (h : LedQ w l F S) (hc : 0 ≤ c ∧ c < 4294967296)
    (hK : ∀ w', LedQ w' l F (S.trade c b s p n).2 → Mod F w w' → K (.int .i64 (S.trade c b s p n).1) w') : Ca Try.prog 10 #[lptr l, .int .u32 c, .int .u32 b, .int .u32 s, .int .i64 p, .int .i64 n] w K := by
  have h0 := h
  obtain ⟨⟨m1, m2, A, B, h1, h2, h3, h4, h5, h6, h7⟩, hok⟩ := h
  have hlt := lt_of_heap h1
  apply ca10
  unfold F10
  refine ca_ready h0 ?_
  simp [go_sem]
  unfold Led.trade at hK
  have hMp : ∀ x : Int, amongB x 1 10000000 = amongB x 1 MP := fun _ => rfl
  generalize hcd : (decide (c = 0 ∨ b = 0 ∨ s = 0 ∨ b = s ∨ amongB p 1 MP = false ∨ amongB n 1 MP = false)) = cd
  refine JoinW.at (fun st W => st = (.bool cd, ()) ∧ W = w) ?_ ?_
  · subst hcd
    by_cases e1 : c = 0
    · simp [e1]
    · by_cases e2 : b = 0
      · simp [e1, e2]
      · by_cases e3 : s = 0
        · simp [e1, e2, e3]
        · by_cases e4 : b = s
          · simp [e1, e2, e3, e4]
          · simp [e1, e2, e3, e4]
            refine ca_within ?_
            rw [hMp]
            cases amongB p 1 MP
            · simp [go_sem]
            · simp [go_sem]
              refine ca_within ?_
              rw [hMp]
              simp [go_sem]
  rintro _ w ⟨rfl, rfl⟩
  unfold J10_3
  intro _
  cases cd with
  | true =>
    rw [if_pos (of_decide_eq_true hcd)] at hK
    simp
    exact hK _ h0 (Mod.refl _ _)
  | false =>
    have hcn := of_decide_eq_false hcd
    rw [if_neg hcn] at hK
    have hl : ∀ (x : Int) W', Mod (fun _ => False) w W' → (xLook 71 (.map (some m1)) (.int .u32 x) true).run Try.prog W' = .ok (.tuple #[acV ((S.getO x).getD ⟨0, 0, false, false⟩), .bool (S.getO x).isSome]) W' := fun x W' m => by
      have := run_look2 (P := Try.prog) (enc := encU) (ev := acV) (x := x) uMapA kU32 zAc (.inr ⟨m1, rfl, h2.mod m id⟩)
      rw [elim_acV, LedQ.lkA h2 h4] at this
      exact this
    simp [go_sem, lptr, hp_of h1]
    refine rx_of (hl b _ (Mod.refl _ _)) ?_
    simp [go_sem, acV, hp_of h1, olds hlt]
    generalize hw1 : World.alloc _ _ = w1
    have m1' : Mod (fun _ => False) w w1 := by subst hw1; exact (Mod.refl _ w).alloc _
    refine rx_of (hl s _ m1') ?_
    simp [go_sem, acV]
    generalize hw2 : World.alloc _ _ = w2
    have m2' : Mod (fun _ => False) w w2 := by subst hw2; exact m1'.alloc _
    have q2 := h0.mod m2' fun _ _ h => h
    obtain ⟨e1, e2, e3, e4, e5, e6⟩ : c ≠ 0 ∧ b ≠ 0 ∧ s ≠ 0 ∧ b ≠ s ∧ amongB p 1 MP = true ∧ amongB n 1 MP = true := by
      refine ⟨fun e => hcn (.inl e), fun e => hcn (.inr (.inl e)), fun e => hcn (.inr (.inr (.inl e))), fun e => hcn (.inr (.inr (.inr (.inl e)))), ?_, ?_⟩
      · cases h : amongB p 1 MP with | true => rfl | false => exact absurd (.inr (.inr (.inr (.inr (.inl h))))) hcn
      · cases h : amongB n 1 MP with | true => rfl | false => exact absurd (.inr (.inr (.inr (.inr (.inr h))))) hcn
    rw [getO_find e2, getO_find e3]
    refine JoinW.at (fun st W => st = (.bool (decide (S.find b = none ∨ S.find s = none)), ()) ∧ W = w2) ?_ ?_
    · cases S.find b <;> cases S.find s <;> simp
    rintro _ w2 ⟨rfl, rfl⟩
    unfold J10_2
    intro _
    by_cases hno : S.find b = none ∨ S.find s = none
    · rw [if_pos hno] at hK
      simp only [decide_eq_true hno, ifB_bool, if_true]
      exact hK _ q2 (m2'.mono fun _ _ h => h.elim)
    · rw [if_neg hno] at hK
      simp only [decide_eq_false hno, ifB_bool, Bool.false_eq_true, if_false]
      have hbs : S.find b ≠ none ∧ S.find s ≠ none := ⟨fun h => hno (.inl h), fun h => hno (.inr h)⟩
      refine ca_position q2 fun w3 m3 => ?_
      have q3 := q2.mod m3 fun _ _ h => h
      refine ca_position q3 fun w4 m4 => ?_
      have q4 := q3.mod m4 fun _ _ h => h
      have m14 := (m2'.trans m3).trans m4
      obtain ⟨x1, x2, x3, x4, x5, x6⟩ := hok.position c b
      obtain ⟨y1, y2, y3, y4, y5, y6⟩ := hok.position c s
      generalize S.position c b = x at *
      generalize S.position c s = y at *
      simp only at hK
      obtain ⟨p1, p2⟩ := amongB_iff.1 e5
      obtain ⟨n1, n2⟩ := amongB_iff.1 e6
      have hpn := mul_bd (x := p) (y := n) (m := MP) (n := MP) ⟨by simp only [MP] at *; omega, p2⟩ ⟨by omega, n2⟩
      have hpn0 : 0 ≤ p * n := Int.mul_nonneg (by omega) (by omega)
      generalize hpnv : p * n = pn at *
      simp only [MP, MF] at x3 x4 x5 x6 y3 y4 y5 y6 p2 n2 hpn
      have wr1 : IntKind.i64.wrap (x.q + n) = x.q + n := by rw [IntKind.wrap_i64]; omega
      have wr2 : IntKind.i64.wrap pn = pn := by rw [IntKind.wrap_i64]; omega
      have wr3 : IntKind.i64.wrap (x.b + pn) = x.b + pn := by rw [IntKind.wrap_i64]; omega
      have wr4 : IntKind.i64.wrap (y.q - n) = y.q - n := by rw [IntKind.wrap_i64]; omega
      have wr5 : IntKind.i64.wrap (y.b - pn) = y.b - pn := by rw [IntKind.wrap_i64]; omega
      simp [go_sem, poV, hpnv, wr1, wr2, wr3, wr4, wr5, x1, x2, y1, y2]
      let X : Po := ⟨c, b, x.q + n, x.b + pn⟩
      let Y : Po := ⟨c, s, y.q - n, y.b - pn⟩
      generalize hw5 : World.alloc _ _ = w5
      have m5 : Mod (fun _ => False) w4 w5 := by subst hw5; exact ((Mod.refl _ w4).alloc _).alloc _
      have hX : hp w5 w4.heap.size = some (.cells #[.int .u32 c, .int .u32 b, .int .i64 (x.q + n), .int .i64 (x.b + pn)] 31 (0, 0)) := by subst hw5; simp [go_sem]
      have hY : hp w5 (w4.heap.size + 1) = some (.cells #[.int .u32 c, .int .u32 s, .int .i64 (y.q - n), .int .i64 (y.b - pn)] 31 (0, 0)) := by subst hw5; simp [go_sem]
      refine rx_lit (e := 31) (sz := 4) [poV X, poV Y] (by kernel_rfl) (elemT_of poE1) rfl rfl (by simp [poV, Value.cells]) (by decide) ?_
      generalize hw6 : World.alloc _ _ = w6
      have m6 : Mod (fun _ => False) w5 w6 := by subst hw6; exact (Mod.refl _ w5).alloc _
      have hQ : hp w6 w5.heap.size = some (.cells #[.int .u32 c, .int .u32 b, .int .i64 (x.q + n), .int .i64 (x.b + pn), .int .u32 c, .int .u32 s, .int .i64 (y.q - n), .int .i64 (y.b - pn)] 31 (0, 0)) := by
        subst hw6; simp [go_sem, poV, Value.cells, X, Y]
      have q6 := (q4.mod m5 fun _ _ h => h).mod m6 fun _ _ h => h
      have m16 := (m14.trans m5).trans m6
      have hX6 := m6.keep hX id
      have hY6 := m6.keep hY id
      simp [go_sem]
      have hMF : ∀ z : Int, amongB z (-1000000000000000) 1000000000000000 = amongB z (-MF) MF := fun _ => rfl
      have hMP : ∀ z : Int, amongB z (-10000000) 10000000 = amongB z (-MP) MP := fun _ => rfl
      let okB : Po → Bool := fun z => amongB z.q (-MP) MP && amongB z.b (-MF) MF
      refine loopK (fun st W => ∃ (v : Value) (i : Nat), i ≤ 2 ∧ st = (v, .int .i64 i, ()) ∧ Mod (fun _ => False) w6 W ∧ (0 < i → okB X = true) ∧ (1 < i → okB Y = true))
        (fun st _ => match st.2.1 with | .int _ i => 2 - i.toNat | _ => 0) ⟨_, 0, by omega, rfl, Mod.refl _ _, by omega, by omega⟩ ?_
      rintro ⟨sv, _⟩ W ⟨v, i, hi, ⟨⟩, mW, hi0, hi1⟩ KN hKN
      unfold L10_1
      intro _
      have hQW := mW.keep hQ id
      have qW := q6.mod mW fun _ _ h => h
      have step : ∀ (Z : Po) (W' : World), (okB Z = false → K (.int .i64 6) W') → (okB Z = true → KN (sv, .int .i64 ((i : Int) + 1), ()) W') → J10_0 K (sv, .int .i64 (i : Int), ()) KN (.bool (!okB Z), ()) W' := by
        intro Z W' hno hyes
        unfold J10_0
        intro _
        cases ho : okB Z
        · simp
          exact hno ho
        · have hw : IntKind.i64.wrap ((i : Int) + 1) = (i : Int) + 1 := by rw [IntKind.wrap_i64]; omega
          simp [go_sem, hw]
          exact hyes ho
      have hXq : okB X = true ↔ ¬ (MP < X.q ∨ MF < X.b) := by
        simp only [okB, Bool.and_eq_true, amongB_iff, MP, MF, X]; omega
      have hYq : okB Y = true ↔ ¬ (Y.q < -MP ∨ Y.b < -MF) := by
        simp only [okB, Bool.and_eq_true, amongB_iff, MP, MF, Y]; omega
      have mA : ∀ o, Mod F w (W.alloc o) := fun o => ((m16.trans mW).alloc o).mono fun _ _ h => h.elim
      have fail : (MP < X.q ∨ Y.q < -MP ∨ MF < X.b ∨ Y.b < -MF) → ∀ W', LedQ W' l F S → Mod F w W' → K (.int .i64 6) W' := by
        intro h W' hq' hm'
        have hK' := hK W'
        rw [if_pos h] at hK'
        exact hK' hq' hm'
      rcases (show i = 0 ∨ i = 1 ∨ i = 2 by omega) with rfl | rfl | rfl
      · simp [go_sem, hp_of hQW]
        refine JoinW.at (fun st W' => st = (.bool (!okB X), ()) ∧ W' = W.alloc (.cells (cellsPo X).toArray 31)) ?_ ?_
        · simp [go_sem]
          refine ca_Within ⟨by (try simp only [X]); omega, by (try simp only [X]); omega⟩ (by omega) ?_
          rw [hMP]
          cases h1 : amongB X.q (-MP) MP
          · have h1' := h1
            simp only [X] at h1'
            simp [go_sem, h1', okB, h1, cellsPo, X]
          · have h1' := h1
            simp only [X] at h1'
            simp [go_sem, h1']
            refine ca_Within ⟨by (try simp only [X]); omega, by (try simp only [X]); omega⟩ (by omega) ?_
            rw [hMF]
            simp [go_sem, okB, h1', cellsPo, X]
        rintro _ W' ⟨rfl, rfl⟩
        refine step X _ (fun ho => ?_) (fun ho => ?_)
        · refine fail ?_ _ (qW.mod ((Mod.refl (fun _ => False) W).alloc _) fun _ _ h => h) (mA _)
          have : ¬ okB X = true := by rw [ho]; simp
          rw [hXq] at this
          omega
        · exact hKN _ _ ⟨sv, 1, by omega, rfl, mW.alloc _, fun _ => ho, by omega⟩ (by simp)
      · simp [go_sem, hp_of hQW]
        refine JoinW.at (fun st W' => st = (.bool (!okB Y), ()) ∧ W' = W.alloc (.cells (cellsPo Y).toArray 31)) ?_ ?_
        · simp [go_sem]
          refine ca_Within ⟨by (try simp only [Y]); omega, by (try simp only [Y]); omega⟩ (by omega) ?_
          rw [hMP]
          cases h1 : amongB Y.q (-MP) MP
          · have h1' := h1
            simp only [Y] at h1'
            simp [go_sem, h1', okB, h1, cellsPo, Y]
          · have h1' := h1
            simp only [Y] at h1'
            simp [go_sem, h1']
            refine ca_Within ⟨by (try simp only [Y]); omega, by (try simp only [Y]); omega⟩ (by omega) ?_
            rw [hMF]
            simp [go_sem, okB, h1', cellsPo, Y]
        rintro _ W' ⟨rfl, rfl⟩
        refine step Y _ (fun ho => ?_) (fun ho => ?_)
        · refine fail ?_ _ (qW.mod ((Mod.refl (fun _ => False) W).alloc _) fun _ _ h => h) (mA _)
          have : ¬ okB Y = true := by rw [ho]; simp
          rw [hYq] at this
          omega
        · exact hKN _ _ ⟨sv, 2, by omega, rfl, mW.alloc _, fun _ => hi0 (by omega), fun _ => ho⟩ (by simp)
      · have g1 := hXq.1 (hi0 (by omega))
        have g2 := hYq.1 (hi1 (by omega))
        have hall : ¬ (MP < X.q ∨ Y.q < -MP ∨ MF < X.b ∨ Y.b < -MF) := by omega
        have hK' := fun W' => hK W'
        simp only [X, Y] at hall
        simp only [if_neg hall] at hK'
        have hXW := mW.keep hX6 id
        have hYW := mW.keep hY6 id
        simp [go_sem, hp_of hXW]
        have okX : (S.putP X).Ok := hok.putP ⟨by simp only [X]; omega, hc.2⟩ ⟨by simp only [X, MP]; omega, by simp only [X, MP] at g1 ⊢; omega⟩ ⟨by simp only [X, MF]; omega, by simp only [X, MF] at g1 ⊢; omega⟩ (some_of_find hbs.1)
        have okY : ((S.putP X).putP Y).Ok := okX.putP ⟨by (try simp only [Y]); omega, hc.2⟩ ⟨by simp only [Y, MP] at g2 ⊢; omega, by simp only [Y, MP]; omega⟩ ⟨by simp only [Y, MF] at g2 ⊢; omega, by simp only [Y, MF]; omega⟩ (some_of_find (S := S) hbs.2)
        refine ca_put (p := X) qW okX fun w7 q7 m7 => ?_
        have hne : ¬ F (w4.heap.size + 1) := fun h => by have := h0.lt h; have := m14.size; omega
        have hY7 := m7.keep hYW hne
        simp [go_sem, hp_of hY7]
        refine ca_put (p := Y) q7 okY fun w8 q8 m8 => ?_
        exact hK' w8 q8 ((((m16.trans mW).mono fun _ _ h => h.elim).trans m7).trans m8)
end Go.Proofs
