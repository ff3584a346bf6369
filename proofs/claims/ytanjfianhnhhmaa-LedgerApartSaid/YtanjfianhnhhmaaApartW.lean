/-
  The walk of LedgerApart.
  Conditions: where they ask for any, each theorem names them.
-/
import Derived.Test.YtanjfianhnhhmaaLedY
import Derived.Test.YtanjfianhnhhmaaApartL
set_option linter.unusedVariables false
set_option linter.unusedSimpArgs false
namespace Go.Proofs
open Go Go.Vc

def U32 (n : Int) : Prop := 0 ≤ n ∧ n < 4294967296
theorem wrap_add1 {i : Nat} (h : i < 1000000) : IntKind.i64.wrap ((i : Int) + 1) = ((i + 1 : Nat) : Int) := by rw [IntKind.wrap_i64]; omega
theorem wrap_u32 {i : Int} (h : 0 ≤ i ∧ i < 4294967296) : IntKind.u32.wrap i = i := by
  simp [IntKind.wrap, IntKind.bits, IntKind.signed]; omega

theorem tArr2 : Try.prog.underlying 29 = some (.array 2 22) := by kernel_rfl
theorem empty_dep : Led.empty = dep 0 := rfl
theorem dep_getV {S : Led} (h : S.all = (dep 4).all) {i : Nat} (hi : i < 4) : S.getV ((i : Int) + 1) = (⟨(i : Int) + 1, 5, false, false⟩, 0) := by
  unfold Led.getV
  have h0 : ((i : Int) + 1) ≠ 0 := by omega
  have : S.getO ((i : Int) + 1) = some ⟨(i : Int) + 1, 5, false, false⟩ := by
    unfold Led.getO Led.find
    rw [if_neg h0, h]
    rcases (show i = 0 ∨ i = 1 ∨ i = 2 ∨ i = 3 by omega) with rfl | rfl | rfl | rfl <;> rfl
  rw [this]
  rfl

set_option maxRecDepth 10000 in
theorem ca_apart {w : World} {K : Kont} {c d p q m n : Int} (hc : U32 c) (hd : U32 d) (hK : ∀ w', Mod (fun _ => False) w w' → K (.bool true) w') :
    Ca Try.prog 3 #[.int .u32 c, .int .u32 d, .int .i64 p, .int .i64 q, .int .i64 m, .int .i64 n] w K := by
  apply ca3
  unfold F3
  refine ca_new fun wa la Fa qa ma fa => ?_
  refine ca_new fun wb lb Fb qb mb fb => ?_
  have fab : ∀ b, Fa b → ¬ Fb b := fun b h1 h2 => by have := qa.lt h1; have := fb b h2; omega
  have hm0 := ma.trans mb
  have done : ∀ {W}, Mod (fun b => Fa b ∨ Fb b) wb W → Mod (fun _ => False) w W := fun h => hm0.on h fun b hb => .inr (by
    rcases hb with hb | hb
    · exact fa b hb
    · have := fb b hb; have := ma.size; omega)
  refine JoinW.at (fun s W => s = (.bool false, ()) ∧ W = wb) ?_ ?_
  · simp [go_sem, lptr]
  rintro _ wb' ⟨rfl, rfl⟩
  unfold J3_6
  intro _
  simp only [ifB_bool, Bool.false_eq_true, if_false]
  have qa0 := qa.mod mb fun _ _ h => h
  refine loopK (fun s W => ∃ (v : Value) (i : Nat), i ≤ 4 ∧ s = (v, .int .i64 i, ()) ∧ LedQ W la Fa (dep i) ∧ LedQ W lb Fb (dep i) ∧ Mod (fun b => Fa b ∨ Fb b) wb' W)
    (fun s _ => match s.2.1 with | .int _ i => 4 - i.toNat | _ => 0) ⟨_, 0, by omega, rfl, qa0, qb, Mod.refl _ _⟩ ?_
  rintro ⟨sv, _⟩ W ⟨v, i, hi, ⟨⟩, qA, qB, mW⟩ KN hKN
  unfold L3_5
  intro _
  by_cases hlt : i < 4
  · have hw := wrap_add1 (i := i) (by omega)
    have hw2 : IntKind.u32.wrap ((i + 1 : Nat) : Int) = ((i + 1 : Nat) : Int) := wrap_u32 (by omega)
    simp [-Int.natCast_add, go_sem, show (i : Int) < 4 by omega, hw, hw2]
    have hst := dep_step hlt
    have e1 : ((i : Int) + 1) = ((i + 1 : Nat) : Int) := by omega
    rw [e1] at hst
    refine JoinW.at (fun s W' => s = (.bool false, ()) ∧ LedQ W' la Fa (dep (i + 1)) ∧ LedQ W' lb Fb (dep (i + 1)) ∧ Mod (fun b => Fa b ∨ Fb b) W W') ?_ ?_
    · refine ca_deposit qA (by omega) fun w1 q1 m1 => ?_
      rw [hst] at q1 ⊢
      simp [-Int.natCast_add, go_sem, hw, hw2]
      refine ca_deposit (qB.mod m1 fun b h1 h2 => fab b h2 h1) (by omega) fun w2 q2 m2 => ?_
      rw [hst] at q2 ⊢
      simp [go_sem]
      exact ⟨q1.mod m2 fab, q2, (m1.mono fun _ _ h => .inl h).trans (m2.mono fun _ _ h => .inr h)⟩
    rintro _ W' ⟨rfl, qA', qB', mW'⟩
    unfold J3_0
    intro _
    simp [-Int.natCast_add, go_sem, hw]
    exact hKN _ _ ⟨sv, i + 1, by omega, rfl, qA', qB', mW.trans mW'⟩ (by simp; omega)
  · obtain rfl : i = 4 := by omega
    simp [go_sem]
    refine ca_trade qA hc fun w1 qA1 m1 => ?_
    refine ca_trade qA1 hd fun w2 qA2 m2 => ?_
    refine ca_trade ((qB.mod m1 fun b h1 h2 => fab b h2 h1).mod m2 fun b h1 h2 => fab b h2 h1) hd fun w3 qB1 m3 => ?_
    refine ca_trade qB1 hc fun w4 qB2 m4 => ?_
    have qA4 := (qA2.mod m3 fab).mod m4 fab
    have m14 : Mod (fun b => Fa b ∨ Fb b) W w4 := (((m1.mono fun _ _ h => .inl h).trans (m2.mono fun _ _ h => .inl h)).trans (m3.mono fun _ _ h => .inr h)).trans (m4.mono fun _ _ h => .inr h)
    have same := @apart_same c d p q m n
    have four := @apart_four c d p q m n
    have one := @apart_one c d p q m n
    have hallA := apart_all c d p q m n
    generalize he : ((dep 4).trade c 1 2 p m).1 = e at *
    generalize hf : (((dep 4).trade c 1 2 p m).2.trade d 2 3 q n).1 = f at *
    generalize hg : ((dep 4).trade d 2 3 q n).1 = g at *
    generalize hh : (((dep 4).trade d 2 3 q n).2.trade c 1 2 p m).1 = h at *
    generalize (((dep 4).trade c 1 2 p m).2.trade d 2 3 q n).2 = SA at *
    generalize (((dep 4).trade d 2 3 q n).2.trade c 1 2 p m).2 = SB at *
    refine JoinW.at (fun s W' => s = (.bool (decide (e ≠ 0 ∨ f ≠ 0 ∨ g ≠ 0 ∨ h ≠ 0)), ()) ∧ W' = w4) ?_ ?_
    · by_cases e1 : e = 0
      · by_cases e2 : f = 0
        · by_cases e3 : g = 0
          · by_cases e4 : h = 0 <;> simp [go_sem, e1, e2, e3, e4]
          · simp [go_sem, e1, e2, e3]
        · simp [go_sem, e1, e2]
      · simp [go_sem, e1]
    rintro _ W4 ⟨rfl, rfl⟩
    unfold J3_4
    intro _
    by_cases hb : e ≠ 0 ∨ f ≠ 0 ∨ g ≠ 0 ∨ h ≠ 0
    · simp only [decide_eq_true hb, ifB_bool, if_true]
      exact ca_known fun w5 m5 => hK _ (done ((mW.trans m14).trans (m5.mono fun _ _ h => h.elim)))
    · simp only [decide_eq_false hb, ifB_bool, Bool.false_eq_true, if_false]
      obtain ⟨e1, e2, e3, e4⟩ : e = 0 ∧ f = 0 ∧ g = 0 ∧ h = 0 := by
        refine ⟨?_, ?_, ?_, ?_⟩ <;> exact Classical.byContradiction fun hx => hb (by simp [hx])
      have same := same e1 e2 e3 e4
      have four := four e1 e2 4 rfl
      have one := one e1 e2
      refine loopK (fun s W => ∃ (v : Value) (i : Nat), i ≤ 4 ∧ s = (v, .int .i64 i, ()) ∧ Mod (fun _ => False) W4 W)
        (fun s _ => match s.2.1 with | .int _ i => 4 - i.toNat | _ => 0) ⟨_, 0, by omega, rfl, Mod.refl _ _⟩ ?_
      rintro ⟨sv2, _⟩ W5 ⟨v, i, hi, ⟨⟩, m5⟩ KN2 hKN2
      unfold L3_3
      intro _
      have done5 : ∀ {W}, Mod (fun _ => False) W4 W → Mod (fun _ => False) w W := fun h => done ((mW.trans m14).trans (h.mono fun _ _ h => h.elim))
      by_cases hlt : i < 4
      · simp [-Int.natCast_add, go_sem, show (i : Int) < 4 by omega]
        refine loopK (fun s W => ∃ (v : Value) (j : Nat), j ≤ 2 ∧ s = (v, .int .i64 j, ()) ∧ Mod (fun _ => False) W4 W)
          (fun s _ => match s.2.1 with | .int _ i => 2 - i.toNat | _ => 0) ⟨_, 0, by omega, rfl, m5⟩ ?_
        rintro ⟨sv3, _⟩ W6 ⟨v, j, hj, ⟨⟩, m6⟩ KN3 hKN3
        unfold L3_2
        intro _
        have hw := wrap_add1 (i := i) (by omega)
        have hw2 : IntKind.u32.wrap ((i + 1 : Nat) : Int) = ((i + 1 : Nat) : Int) := wrap_u32 (by omega)
        have hw3 := wrap_add1 (i := j) (by omega)
        have qA6 := qA4.mod m6 fun _ _ h => h
        have qB6 := qB2.mod m6 fun _ _ h => h
        have body : ∀ (k : Int) (W7 : World) (x y : Po), x = y → Mod (fun _ => False) W4 W7 → (∀ W8, Mod (fun _ => False) W4 W8 → KN3 (sv3, .int .i64 ((j + 1 : Nat) : Int), ()) W8) →
            rv Try.prog (bin .neq 31 false (poV x) (poV y)) W7 fun v84 w85 =>
            ifB v84
            (K (.bool false) w85)
            (rv Try.prog (bin .add 3 true (.int .i64 (j : Int)) (.int .i64 1)) w85 fun v86 w87 =>
            KN3 (sv3, v86, ()) w87) := by
          rintro k W7 x y rfl m7 hk
          simp [-Int.natCast_add, go_sem, poV, hw3]
          exact hk _ m7
        by_cases hj2 : j < 2
        · obtain ⟨k, hk, hkU⟩ : ∃ k : Int, (∀ W, (Instr.index 29 (.agg #[.int .u32 c, .int .u32 d]) (.int .i64 (j : Int))).run Try.prog W = .ok (.int .u32 k) W) ∧ U32 k := by
            rcases (show j = 0 ∨ j = 1 by omega) with rfl | rfl
            · exact ⟨c, fun W => run_index_one (i := 0) tArr2 (by kernel_rfl) (by kernel_rfl) (by kernel_rfl) (by omega) rfl, hc⟩
            · exact ⟨d, fun W => run_index_one (i := 1) tArr2 (by kernel_rfl) (by kernel_rfl) (by kernel_rfl) (by omega) rfl, hd⟩
          simp [-Int.natCast_add, go_sem, show (j : Int) < 2 by omega, hk, hw, hw2]
          refine ca_position qA6 fun W7 m7 => ?_
          (try simp [-Int.natCast_add, go_sem, hw, hw2])
          refine ca_position (qB6.mod m7 fun _ _ h => h) fun W8 m8 => ?_
          have := same k ((i + 1 : Nat) : Int)
          have hb := body k W8 _ _ this ((m6.trans m7).trans m8) fun W9 m9 => hKN3 _ _ ⟨sv3, j + 1, by omega, rfl, m9⟩ (by simp; omega)
          simp [-Int.natCast_add, go_sem, hw3] at hb ⊢
          exact hb
        · obtain rfl : j = 2 := by omega
          simp [-Int.natCast_add, go_sem, hw, hw2]
          refine ca_get qA6 fun W7 m7 => ?_
          have e1 : (((i + 1 : Nat) : Int)) = (i : Int) + 1 := by omega
          rw [e1, dep_getV hallA hlt]
          simp [-Int.natCast_add, go_sem, acV]
          have mA : ∀ o, Mod (fun _ => False) W4 (W7.alloc o) := fun o => (m6.trans m7).alloc o
          refine JoinW.at (fun s W' => s = (.bool false, ()) ∧ Mod (fun _ => False) W4 W') ?_ ?_
          · simp [go_sem]
            exact mA _
          rintro _ W8 ⟨rfl, m8⟩
          unfold J3_1
          intro _
          simp [-Int.natCast_add, go_sem, hw]
          exact hKN2 _ _ ⟨sv3, i + 1, by omega, rfl, m8⟩ (by simp; omega)
      · obtain rfl : i = 4 := by omega
        simp [go_sem]
        refine ca_position (qA4.mod m5 fun _ _ h => h) fun W6 m6 => ?_
        rw [four]
        simp [go_sem, poV]
        have qA6 := (qA4.mod m5 fun _ _ h => h).mod m6 fun _ _ h => h
        by_cases hcd : c = d
        · simp [hcd]
          exact ca_known fun w7 m7 => hK _ (done5 ((m5.trans m6).trans m7))
        · simp [hcd]
          refine ca_position qA6 fun W7 m7 => ?_
          rw [one hcd]
          simp [go_sem, poV]
          exact ca_known fun w8 m8 => hK _ (done5 (((m5.trans m6).trans m7).trans m8))
end Go.Proofs
