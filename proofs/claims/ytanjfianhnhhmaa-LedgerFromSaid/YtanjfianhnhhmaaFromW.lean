/-
  The walk of LedgerFrom.
  Conditions: where they ask for any, each theorem names them.
-/
import Derived.Test.YtanjfianhnhhmaaFromE
set_option linter.unusedVariables false
set_option linter.unusedSimpArgs false
namespace Go.Proofs
open Go Go.Vc
attribute [local congr] Ca_cong

set_option maxRecDepth 10000 in
set_option maxHeartbeats 1000000 in
theorem ca_lawFrom {w : World} {f : Int} {va vp : Value} {A : List Ac} {P : List Po} {K : Kont} (hA : Rd w 4 va A.length (A.flatMap cellsAc)) (hP : Rd w 4 vp P.length (P.flatMap cellsPo))
    (uA : ∀ a ∈ A, U32 a.num) (uP : ∀ p ∈ P, (U32 p.c ∧ U32 p.a) ∧ R64 p.q ∧ R64 p.b)
    (hK : ∀ w', Mod (fun _ => False) w w' → K (.bool true) w') : Ca Try.prog 7 #[.int .i64 f, va, vp] w K := by
  obtain ⟨aA, cA, rfl⟩ := hA.isSl
  obtain ⟨aP, cP, rfl⟩ := hP.isSl
  apply ca7
  unfold F7
  refine JoinW.at (fun s W => s = (.bool (decide (100 < A.length) || decide (200 < P.length)), ()) ∧ W = w) ?_ ?_
  · by_cases h1 : 100 < A.length
    · have h1' : (100 : Int) < (A.length : Int) := by omega
      simp [go_sem, h1, h1']
    · have h1' : ¬ (100 : Int) < (A.length : Int) := by omega
      by_cases h2 : 200 < P.length
      · have h2' : (200 : Int) < (P.length : Int) := by omega
        simp [go_sem, h1, h1', h2, h2']
      · have h2' : ¬ (200 : Int) < (P.length : Int) := by omega
        simp [go_sem, h1, h1', h2, h2']
  rintro _ w ⟨rfl, rfl⟩
  unfold J7_4
  intro _
  by_cases hbad : (decide (100 < A.length) || decide (200 < P.length)) = true
  · rw [hbad]
    simp only [ifB_bool, if_true]
    exact ca_known hK
  rw [Bool.eq_false_iff.2 hbad]
  simp only [ifB_bool, Bool.false_eq_true, if_false]
  have hA1 : A.length ≤ 100 := by apply Classical.byContradiction; intro h; apply hbad; simp; left; omega
  have hP1 : P.length ≤ 200 := by apply Classical.byContradiction; intro h; apply hbad; simp; right; omega
  clear hbad
  refine rx_dup tSlA (elemT_of acE1) hA (by simp [cellsAc, Value.oneCell']) (by omega) fun sA w1 oA m1 nA => ?_
  refine rx_dup tSlP (elemT_of poE1) (hP.mod m1 fun _ _ h => h) (by simp [cellsPo, Value.oneCell']) (by omega) fun sH w2 oH m2 nH => ?_
  have oA2 := oA.mod m2 fun _ _ h => h
  have m02 := m1.trans m2
  have s1 := m1.size
  have s2 := m2.size
  have hd : ∀ b, inSl sA b → ¬ inSl sH b := fun b h1 h2 => by have := oA.lt h1; have := nH b h2; omega
  have hold : ∀ b, inSl sA b ∨ inSl sH b → w.heap.size ≤ b ∧ b < w2.heap.size := fun b h => by
    rcases h with h | h
    · exact ⟨nA b h, oA2.lt h⟩
    · have := nH b h; exact ⟨by omega, oH.lt h⟩
  have fin : ∀ {W W' : World}, Mod (fun _ => False) w2 W → Mod (fun b => inSl sA b ∨ inSl sH b) W W' → Mod (fun _ => False) w W' := fun h h' => (m02.trans h).on h' fun b hb => .inr (hold b hb).1
  have hPd : ∀ b, inRd (.slice aP P.length cP) b → ¬ (inSl sA b ∨ inSl sH b) := fun b h1 h2 => by have := hP.lt h1; have := (hold b h2).1; omega
  by_cases hok : FromOk f A P
  · refine ca_from oA2.rd oH.rd (by omega) hP1 uA uP (fun _ w3 l F q3 m3 f3 => ?_) (fun h => absurd hok h)
    simp only [lptr]
    refine rv_ok' (by simp [go_sem]; first | exact ⟨rfl, rfl⟩ | exact rfl) ?_
    refine rv_ok' (by simp [go_sem]; first | exact ⟨rfl, rfl⟩ | exact rfl) ?_
    refine ca_rfrom (hA.mod (m02.trans m3) fun _ _ h => h) (hP.mod (m02.trans m3) fun _ _ h => h) (by omega) hP1 uA uP (fun _ w4 r G q4 m4 f4 => ?_) (fun h => absurd hok h)
    simp only [lptr]
    refine rv_ok' (by simp [go_sem]; first | exact ⟨rfl, rfl⟩ | exact rfl) ?_
    refine rv_ok' (by simp [go_sem]; first | exact ⟨rfl, rfl⟩ | exact rfl) ?_
    have m24 := m3.trans m4
    refine JoinW.at (fun s W => s = (.bool false, ()) ∧ W = w4) ?_ ?_
    · simp [go_sem]
    rintro _ w4 ⟨rfl, rfl⟩
    unfold J7_3
    intro _
    simp only [ifB_bool, Bool.false_eq_true, if_false]
    have oA4 := oA2.mod m24 fun _ _ h => h
    have oH4 := oH.mod m24 fun _ _ h => h
    obtain ⟨bA, dA, rfl, -⟩ := oA2.isSl
    obtain ⟨bH, dH, rfl, -⟩ := oH.isSl
    refine rn_ok' (v := .int .i64 A.length) (w' := w4) (by simp [go_sem]) ?_
    refine from_tail oA4 oH4 (hP.mod (m02.trans m24) fun _ _ h => h) hPd hA1 hP1 hd (.inr ⟨l, r, F, G, _, rfl, rfl, q3.mod m4 fun _ _ h => h, q4, hP1, fun b h1 h2 => ?_, fun b h1 h2 => ?_⟩) fun W' m => hK _ (fin m24 m)
    · have := f3 b h1; have := (hold b h2).2; omega
    · have := f4 b h1; have := (hold b h2).2; have := m3.size; omega
  · refine ca_from oA2.rd oH.rd (by omega) hP1 uA uP (fun h => absurd h hok) fun _ w3 m3 => ?_
    refine rv_ok' (by simp [go_sem]; first | exact ⟨rfl, rfl⟩ | exact rfl) ?_
    refine rv_ok' (by simp [go_sem]; first | exact ⟨rfl, rfl⟩ | exact rfl) ?_
    refine ca_rfrom (hA.mod (m02.trans m3) fun _ _ h => h) (hP.mod (m02.trans m3) fun _ _ h => h) (by omega) hP1 uA uP (fun h => absurd h hok) fun _ w4 m4 => ?_
    refine rv_ok' (by simp [go_sem]; first | exact ⟨rfl, rfl⟩ | exact rfl) ?_
    refine rv_ok' (by simp [go_sem]; first | exact ⟨rfl, rfl⟩ | exact rfl) ?_
    have m24 := m3.trans m4
    refine JoinW.at (fun s W => s = (.bool false, ()) ∧ W = w4) ?_ ?_
    · simp [go_sem]
    rintro _ w4 ⟨rfl, rfl⟩
    unfold J7_3
    intro _
    simp only [ifB_bool, Bool.false_eq_true, if_false]
    have oA4 := oA2.mod m24 fun _ _ h => h
    have oH4 := oH.mod m24 fun _ _ h => h
    obtain ⟨bA, dA, rfl, -⟩ := oA2.isSl
    obtain ⟨bH, dH, rfl, -⟩ := oH.isSl
    refine rn_ok' (v := .int .i64 A.length) (w' := w4) (by simp [go_sem]) ?_
    exact from_tail oA4 oH4 (hP.mod (m02.trans m24) fun _ _ h => h) hPd hA1 hP1 hd (.inl rfl) fun W' m => hK _ (fin m24 m)
end Go.Proofs
