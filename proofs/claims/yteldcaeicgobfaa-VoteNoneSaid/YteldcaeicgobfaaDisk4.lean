/-
  The contract of Crash.
  Conditions: the memory holds the disk.
-/
import Derived.Test.YteldcaeicgobfaaDisk3
set_option linter.unusedSimpArgs false
set_option linter.unusedVariables false
namespace Go.Proofs
open Go Go.Vc

/-- Noughts. -/
def zsec : Sec := List.replicate 128 0
theorem zsec_length : zsec.length = 128 := by simp [zsec]
/-- A torn sector's bytes. -/
def tornSec (t : List UInt8) : Sec := t.take 128 ++ List.replicate (128 - t.length) 0
theorem tornSec_length (t : List UInt8) : (tornSec t).length = 128 := by simp [tornSec]; omega
def DM.crash (D : DM) (keep : Nat) (torn : List UInt8) : DM :=
  { D with
    lasts := match D.waits[keep]? with
      | some p => if torn = [] then putL D.lasts (D.waits.take keep) else put (putL D.lasts (D.waits.take keep)) p.1 (tornSec torn)
      | none => putL D.lasts (D.waits.take keep)
    waits := [], armed := false, off := false }

theorem torn_lay (x y : Int) (t : List UInt8) : lay (cellsPut ((x, y), zsec)) 2 ((bv t).take (Nat.min t.length 128)) = cellsPut ((x, y), tornSec t) := by
  have e : (bv t).take (Nat.min t.length 128) = bv (t.take 128) := by
    rw [bv_take, show Nat.min t.length 128 = min t.length 128 from rfl]
    by_cases h : t.length ≤ 128
    · rw [Nat.min_eq_left h, List.take_of_length_le (Nat.le_refl _), List.take_of_length_le h]
    · rw [Nat.min_eq_right (by omega)]
  rw [e]
  simp only [lay, cellsPut, tornSec, bv_append, bv_length, List.length_take]
  simp only [List.take_succ_cons, List.take_zero, List.cons_append, List.nil_append, show 2 + min 128 t.length = (min 128 t.length + 1) + 1 by omega, List.drop_succ_cons, bv_drop]
  have e2 : zsec.drop (min 128 t.length) = List.replicate (128 - t.length) 0 := by
    unfold zsec
    rw [List.drop_replicate]
    congr 1
    omega
  rw [e2]
theorem builtPut (x y : Int) : Try.prog.built 116 [(0, .agg #[.int .i64 x, .int .i64 y])] = some (cellsPut ((x, y), zsec)).toArray := by kernel_rfl
set_option maxRecDepth 10000 in
theorem ca_crash {w : World} {d : Nat} {F : Nat → Prop} {D : DM} {K : Kont} {keep : Nat} {t : Value} {torn : List UInt8} {m : Nat} (h : DiskR w d F D) (hn : D.waits.length < 9223372036854775807) (hk : keep < 9223372036854775808)
    (ht : Rd w 1 t m (bv torn)) (htF : ∀ b, inRd t b → ¬ F b ∧ b < w.heap.size)
    (hK : ∀ w' F', DiskR w' d F' (D.crash keep torn) → Stp F w w' F' → K (.int .i64 0) w') : Ca Try.prog 19 #[dptr d, .int .i64 keep, t] w K := by
  have h0 := h
  apply ca19
  unfold F19
  obtain ⟨s, hq⟩ := h
  have hq1' := hq
  obtain ⟨⟨mb, h1, h2, h3, h4, h5, h6, h7⟩, hl, hw, hle, h8⟩ := hq
  obtain ⟨a, c, rfl, hac⟩ := h3.isSl
  have hk0 : ¬ ((keep : Int) < 0) := by omega
  have hmin : (if D.waits.length < keep then (D.waits.length : Int) else keep) = ((min keep D.waits.length : Nat) : Int) := by split <;> omega
  have hNl : min keep D.waits.length ≤ D.waits.length := by omega
  have hNk : min keep D.waits.length ≤ keep := by omega
  have hN3 : keep < D.waits.length → min keep D.waits.length = keep := by omega
  have hN4 : ¬ keep < D.waits.length → min keep D.waits.length = D.waits.length := by omega
  generalize min keep D.waits.length = N at hmin hNl hNk hN3 hN4
  have hNc : N ≤ c := by omega
  simp [go_sem, dptr, hp_of h1, hk0, hmin, hNc]
  unfold L19_0
  refine loopW (fun s W => ∃ i : Nat, i ≤ N ∧ s = (.int .i64 i, ()) ∧ ∃ F', DiskQ W d F' { D with lasts := putL D.lasts (D.waits.take i) } (.slice a D.waits.length c) ∧ Stp F w W F')
    (fun s _ => match s.1 with | .int _ i => N - i.toNat | _ => 0) ⟨0, by omega, rfl, F, by simpa [putL] using hq1', Stp.refl _ _⟩ ?_
  rintro ⟨_, _⟩ W ⟨i, hi, ⟨⟩, F', hQ, hS⟩ _
  simp [go_sem]
  split
  · rename_i hlt
    have hO : Own W 116 130 (.slice a D.waits.length c) D.waits.length (D.waits.flatMap cellsPut) := hQ.sl
    have hlt' : i < D.waits.length := by omega
    obtain ⟨b, cap, hsl, hAt⟩ := Own.elem hO hlt'
    obtain ⟨rfl, -, rfl⟩ : a = some ⟨b, 0, none⟩ ∧ True ∧ c = cap := by injection hsl with e1 e2 e3; exact ⟨e1, trivial, e3⟩
    rw [flat_get cellsPut 130 _ _ (fun x hx => cellsPut_length (hw x hx).1) hlt'] at hAt
    simp [go_sem, hlt]
    have hcl : (cellsPut D.waits[i]).length = 129 + 1 := cellsPut_length (hw _ (List.getElem_mem _)).1
    refine rx_bigS _ 129 pT1 pT2 hcl hAt ?_
    refine rx_bigVar 129 pT3 pT2 hcl pT4 (cellsPut_one _) ?_
    refine rx_bigS (cellsPut D.waits[i]) 129 pT1 pT2 hcl ⟨_, _, _, by rw [heap_alloc, if_pos rfl], by simp, by simp⟩ ?_
    have mA : Mod (fun _ => False) W (W.alloc (.cells (cellsPut D.waits[i]).toArray 116)) := (Mod.refl _ W).alloc _
    refine ca_last (p := D.waits[i]) (hQ.mod mA fun _ _ h => h) (hw _ (List.getElem_mem _)).1 fun w2 F2 q2 s2 => ?_
    have hwr : IntKind.i64.wrap ((i : Int) + 1) = ((i + 1 : Nat) : Int) := by rw [IntKind.wrap_i64]; omega
    refine ⟨⟨i + 1, hlt, hwr, F2, ?_, hS.trans (Stp.trans ⟨mA.mono fun _ _ h => h.elim, fun b hb => .inl hb⟩ s2)⟩, by rw [hwr]; omega⟩
    rw [putL_take _ _ _ hlt']
    exact q2
  · rename_i hlt
    have hi' : i = N := by omega
    subst hi'
    have fin : ∀ (L : List (Pl × Sec)) (F2 : Nat → Prop) (W2 : World), L = (D.crash keep torn).lasts → DiskQ W2 d F2 { D with lasts := L } (.slice a D.waits.length c) → Stp F w W2 F2 →
        ∀ w9, Mod (fun b => b = d) W2 w9 → (∀ mb', hp W2 d = some (.cells #[.map mb', .slice a D.waits.length c, .int .i64 D.left, .bool D.armed, .bool D.off] 55 (0, 0)) → hp w9 d = some (.cells #[.map mb', .slice none 0 0, .int .i64 D.left, .bool false, .bool false] 55 (0, 0))) → K (.int .i64 0) w9 := by
      intro L F2 W2 hL hQ2 hS2 w9 m9 h9
      have hQ0 := hQ2
      obtain ⟨⟨mb', g1, g2, g3, g4, g5, g6, g7⟩, gl, gw, gle, gn⟩ := hQ2
      refine hK w9 (fun b => b = d ∨ mb' = some b) ⟨.slice none 0 0, ⟨mb', h9 mb' g1, ?_, Own.nil .., fun b => by simp [inSl, slBlk], g5, by simp [inSl, slBlk], by simp [inSl, slBlk]⟩, ?_, by simp [DM.crash], by simp [DM.crash], fun _ => rfl⟩
        (hS2.trans ⟨m9.mono fun b _ e => e ▸ hQ0.self, fun b hb => .inl ((g4 b).2 (hb.imp id .inl))⟩)
      · rw [← hL]
        rcases g2 with ⟨g2, g2'⟩ | ⟨b, g2, g2'⟩
        · exact .inl ⟨g2, g2'⟩
        · exact .inr ⟨b, g2, g2'.mod m9 (fun e => g5 (by cases g2; rw [e]))⟩
      · rw [← hL]; exact gl
    obtain ⟨mb', g1, g2, g3, g4, g5, g6, g7⟩ := hQ.out
    have ml : m = torn.length := by simpa using ht.1.symm
    have htl : ∃ tb tc, t = .slice tb m tc := by
      exact ht.isSl
    obtain ⟨tb, tc, rfl⟩ := htl
    have g1' : hp W d = some (.cells #[.map mb', .slice a D.waits.length c, .int .i64 D.left, .bool D.armed, .bool D.off] 55 (0, 0)) := g1
    by_cases hlw : i < D.waits.length
    · have hik : i = keep := by omega
      by_cases hm0 : 0 < m
      · have hO : Own W 116 130 (.slice a D.waits.length c) D.waits.length (D.waits.flatMap cellsPut) := hQ.sl
        obtain ⟨b, cap, hsl, hAt⟩ := Own.elem hO hlw
        obtain ⟨rfl, -, rfl⟩ : a = some ⟨b, 0, none⟩ ∧ True ∧ c = cap := by injection hsl with e1 e2 e3; exact ⟨e1, trivial, e3⟩
        rw [flat_get cellsPut 130 _ _ (fun x hx => cellsPut_length (hw x hx).1) hlw] at hAt
        obtain ⟨C, e, fz, hC, hCg⟩ := hAt.get
        have hC0 : C[i * 130]? = some (.int .i64 D.waits[i].1.1) := hCg 0 _ rfl
        have hC1 : C[i * 130 + 1]? = some (.int .i64 D.waits[i].1.2) := hCg 1 _ rfl
        simp [go_sem, g1', hlw, hm0, hC, hC0, hC1]
        refine rx_bigB (builtPut _ _) ?_
        refine rx_bigVar 129 pT3 pT2 (cellsPut_length zsec_length) pT4 (cellsPut_one _) ?_
        simp [go_sem]
        have mA : Mod (fun _ => False) W (W.alloc (.cells (cellsPut ((D.waits[i].1.1, D.waits[i].1.2), zsec)).toArray 116)) := (Mod.refl _ W).alloc _
        generalize hWA : W.alloc (.cells (cellsPut ((D.waits[i].1.1, D.waits[i].1.2), zsec)).toArray 116) = WA at mA
        have hA1 : WA.heap[W.heap.size]? = some (.cells (cellsPut ((D.waits[i].1.1, D.waits[i].1.2), zsec)).toArray 116 (0, 0)) := by subst hWA; rw [heap_alloc, if_pos rfl]
        have htW : Rd WA 1 (.slice tb m tc) m (bv torn) := (ht.mod hS.mod fun b hb => (htF b hb).1).mod mA fun _ _ h => h
        refine rx_copy (k := Nat.min torn.length 128) Try.underlying23 (by kernel_rfl) hA1 htW (by rw [ml]) rfl ?_ (bv_one _) ?_
        · rw [List.size_toArray, cellsPut_length (p := (_, zsec)) zsec_length]
          have : Nat.min torn.length 128 ≤ 128 := Nat.min_le_right _ _
          omega
        rw [show (cellsPut ((D.waits[i].1.1, D.waits[i].1.2), zsec)).toArray.toList = cellsPut ((D.waits[i].1.1, D.waits[i].1.2), zsec) from rfl, torn_lay]
        generalize hWB : WA.setRow W.heap.size (cellsPut ((D.waits[i].1.1, D.waits[i].1.2), tornSec torn)).toArray = WB
        have mB : Mod (fun _ => False) W WB := by subst hWB; exact mA.setRow (.inr (Nat.le_refl _)) _
        have hB1 : WB.heap[W.heap.size]? = some (.cells (cellsPut ((D.waits[i].1.1, D.waits[i].1.2), tornSec torn)).toArray 116 (0, 0)) := by subst hWB; rw [heap_setRow, if_pos rfl, hA1]
        refine rx_bigS (cellsPut ((D.waits[i].1.1, D.waits[i].1.2), tornSec torn)) 129 pT1 pT2 (cellsPut_length (tornSec_length _)) ⟨_, _, _, hB1, by simp, by simp⟩ ?_
        refine ca_last (p := (D.waits[i].1, tornSec torn)) (hQ.mod mB fun _ _ h => h) (tornSec_length _) fun w2 F2 q2 s2 => ?_
        obtain ⟨mb2, k1, -⟩ := q2.out
        have k1' : hp w2 d = some (.cells #[.map mb2, .slice (some ⟨b, 0, none⟩) D.waits.length c, .int .i64 D.left, .bool D.armed, .bool D.off] 55 (0, 0)) := k1
        simp [go_sem, k1']
        refine fin _ F2 w2 ?_ q2 (hS.trans (Stp.trans ⟨mB.mono fun _ _ h => h.elim, fun b hb => .inl hb⟩ s2)) _ ((((Mod.refl _ w2).setCell (by simp) _ _).setCell (by simp) _ _).setCell (by simp) _ _) fun mb9 h9 => by simp [go_sem, h9]
        have hwk : D.waits[keep]? = some D.waits[i] := by rw [← hik]; exact List.getElem?_eq_getElem hlw
        have htn : torn ≠ [] := fun e => by rw [e] at ml; simp at ml; omega
        simp [DM.crash, hwk, htn, hik]
      · simp [go_sem, g1', hlw, hm0]
        have htn : torn = [] := by
          have : torn.length = 0 := by omega
          simpa using this
        refine fin _ F' W ?_ hQ hS _ ((((Mod.refl _ W).setCell (by simp) _ _).setCell (by simp) _ _).setCell (by simp) _ _) fun mb9 h9 => by simp [go_sem, h9]
        have hwk : D.waits[keep]? = some D.waits[i] := by rw [← hik]; exact List.getElem?_eq_getElem hlw
        simp [DM.crash, hwk, htn, hik]
    · simp [go_sem, g1', hlw]
      refine fin _ F' W ?_ hQ hS _ ((((Mod.refl _ W).setCell (by simp) _ _).setCell (by simp) _ _).setCell (by simp) _ _) fun mb9 h9 => by simp [go_sem, h9]
      have hwk : D.waits[keep]? = none := List.getElem?_eq_none (by omega)
      simp only [DM.crash, hwk]
      rw [List.take_of_length_le (by omega), List.take_of_length_le (by omega)]
end Go.Proofs
