/-
  The contracts of New, Waits, Down, Arm, Sync.
  Conditions: the memory holds the disk.
-/
import Derived.Test.YteldcaeicgobfaaDisk2
set_option linter.unusedSimpArgs false
set_option linter.unusedVariables false
namespace Go.Proofs
open Go Go.Vc

def DM.new : DM := ⟨[], [], 0, false, false⟩
theorem diskQ_new {w : World} {d : Nat} (h : w.heap[d]? = some (.cells #[.map none, .slice none 0 0, .int .i64 0, .bool false, .bool false] 55 (0, 0))) : DiskQ w d (fun b => b = d) DM.new (.slice none 0 0) :=
  ⟨⟨none, h, .inl ⟨rfl, rfl⟩, Own.nil .., fun b => by simp [inSl, slBlk], by simp, by simp [inSl, slBlk], by simp⟩, by simp [DM.new], by simp [DM.new], by simp [DM.new], fun _ => rfl⟩

theorem ca_new {w : World} {K : Kont} (hK : ∀ w', DiskR w' w.heap.size (fun b => b = w.heap.size) DM.new → Mod (fun _ => False) w w' → K (dptr w.heap.size) w') : Ca Try.prog 15 #[] w K := by
  apply ca15
  unfold F15
  simp [go_sem]
  exact hK _ ⟨_, diskQ_new (by show hp _ _ = _; simp [go_sem])⟩ ((Mod.refl _ w).alloc _)

theorem ca_waits {w : World} {d : Nat} {F : Nat → Prop} {D : DM} {K : Kont} (h : DiskR w d F D) (hK : K (.int .i64 D.waits.length) w) : Ca Try.prog 21 #[dptr d] w K := by
  obtain ⟨s, ⟨mb, h1, h2, h3, -⟩, -⟩ := h
  obtain ⟨a, c, rfl, -⟩ := h3.isSl
  apply ca21
  unfold F21
  simp [go_sem, dptr, hp_of h1]
  exact hK

theorem ca_down {w : World} {d : Nat} {F : Nat → Prop} {D : DM} {K : Kont} (h : DiskR w d F D) (hK : K (.bool D.off) w) : Ca Try.prog 30 #[dptr d] w K := by
  obtain ⟨s, ⟨mb, h1, h2, h3, -⟩, -⟩ := h
  apply ca30
  unfold F30
  simp [go_sem, dptr, hp_of h1]
  exact hK

def DM.arm (D : DM) (n : Int) : Int × DM := if D.off then (180, D) else if n < -1 then (2, D) else (0, { D with armed := decide (0 ≤ n), left := n })

theorem DiskQ.turn {w w' : World} {d : Nat} {F : Nat → Prop} {D D' : DM} {s : Value} (h : DiskQ w d F D s) (e1 : D'.lasts = D.lasts) (e2 : D'.waits = D.waits) (e3 : D'.armed = true → 0 ≤ D'.left ∧ D'.left < 9223372036854775808) (hm : Mod (fun b => b = d) w w')
    (hd : ∀ mb, w.heap[d]? = some (.cells #[.map mb, s, .int .i64 D.left, .bool D.armed, .bool D.off] 55 (0, 0)) → w'.heap[d]? = some (.cells #[.map mb, s, .int .i64 D'.left, .bool D'.armed, .bool D'.off] 55 (0, 0))) : DiskQ w' d F D' s := by
  obtain ⟨⟨mb, h1, h2, h3, h4, h5, h6, h7⟩, hl, hw, hle, h8⟩ := h
  refine ⟨⟨mb, hd mb h1, ?_, ?_, h4, h5, h6, h7⟩, by rw [e1]; exact hl, by rw [e2]; exact hw, e3, by rw [e2]; exact h8⟩
  · rw [e1]
    rcases h2 with ⟨h2, h2'⟩ | ⟨b, h2, h2'⟩
    · exact .inl ⟨h2, h2'⟩
    · exact .inr ⟨b, h2, h2'.mod hm (fun e => h5 (by cases h2; rw [e]))⟩
  · rw [e2]
    exact h3.mod hm fun b hb e => h6 (e ▸ hb)

theorem ca_arm {w : World} {d : Nat} {F : Nat → Prop} {D : DM} {K : Kont} {n : Int} (h : DiskR w d F D) (hn : n < 9223372036854775808) (hK : ∀ w', DiskR w' d F (D.arm n).2 → Mod (fun b => b = d) w w' → K (.int .i64 (D.arm n).1) w') : Ca Try.prog 25 #[dptr d, .int .i64 n] w K := by
  have h0 := h
  obtain ⟨s, hq⟩ := h
  have hq0 := hq
  obtain ⟨⟨mb, h1, h2, h3, -⟩, -⟩ := hq
  apply ca25
  unfold F25
  refine ca_ready h0 ?_
  unfold DM.arm at hK
  cases ho : D.off
  · simp [ho] at hK
    simp [go_sem, dptr, hp_of h1]
    split
    · rename_i e
      simp [e] at hK
      exact hK _ h0 (Mod.refl _ _)
    · rename_i e
      simp [e] at hK
      have m1 : Mod (fun b => b = d) w ((w.setCell ⟨d, 3, none⟩ (.bool (decide (0 ≤ n)))).setCell ⟨d, 2, none⟩ (.int .i64 n)) := ((Mod.refl _ w).setCell (by simp) _ _).setCell (by simp) _ _
      refine hK _ ⟨s, hq0.turn (by rfl) rfl (by simp; omega) m1 fun mb' hmb => ?_⟩ m1
      simp [heap_setCell, hmb, ho]
  · simp [ho] at hK
    simp [go_sem]
    exact hK _ h0 (Mod.refl _ _)

def putL (L : List (Pl × Sec)) (ws : List (Pl × Sec)) : List (Pl × Sec) := ws.foldl (fun L p => put L p.1 p.2) L
theorem putL_take (L : List (Pl × Sec)) (ws : List (Pl × Sec)) (i : Nat) (h : i < ws.length) : putL L (ws.take (i + 1)) = put (putL L (ws.take i)) ws[i].1 ws[i].2 := by
  rw [List.take_succ_eq_append_getElem h]
  simp only [putL, List.foldl_append, List.foldl_cons, List.foldl_nil]
def DM.sync (D : DM) : Int × DM :=
  if D.off then (180, D) else if D.step.1 then (0, { D.step.2 with lasts := putL D.step.2.lasts D.step.2.waits, waits := [] }) else (180, D.step.2)

theorem DM.step_waits (D : DM) : D.step.2.waits = D.waits := by
  unfold DM.step
  split
  · rfl
  · split <;> rfl
theorem DM.step_lasts (D : DM) : D.step.2.lasts = D.lasts := by
  unfold DM.step
  split
  · rfl
  · split <;> rfl

theorem pT1 : isAggT Try.prog 116 = true := by kernel_rfl
theorem pT2 : Try.prog.cellsOf 116 = 129 + 1 := by kernel_rfl
theorem pT3 : hasZero Try.prog 116 = true := by kernel_rfl
theorem pT4 : (zeroC Try.prog 116).length = 129 + 1 := by kernel_rfl

set_option maxRecDepth 10000 in
theorem ca_sync {w : World} {d : Nat} {F : Nat → Prop} {D : DM} {K : Kont} (h : DiskR w d F D) (hn : D.waits.length < 9223372036854775807)
    (hK : ∀ w' F', DiskR w' d F' D.sync.2 → Stp F w w' F' → K (.int .i64 D.sync.1) w') : Ca Try.prog 16 #[dptr d] w K := by
  have h0 := h
  apply ca16
  unfold F16
  refine ca_ready h0 ?_
  unfold DM.sync at hK
  cases ho : D.off
  · simp [ho] at hK
    simp [go_sem]
    obtain ⟨s, hq⟩ := h
    refine ca_step hq fun w1 hq1 m1 z1 => ?_
    cases hs : D.step.1
    · simp [hs] at hK
      simp [go_sem]
      exact hK _ _ ⟨s, hq1⟩ ⟨m1.mono fun b _ e => e ▸ hq.self, fun b hb => .inl hb⟩
    · simp [hs] at hK
      have hq1' := hq1
      obtain ⟨⟨mb, h1, h2, h3, h4, h5, h6, h7⟩, hl, hw, hle, h8⟩ := hq1
      obtain ⟨a, c, rfl, hac⟩ := h3.isSl
      simp [go_sem, dptr, hp_of h1]
      unfold L16_0
      have ewaits : D.step.2.waits = D.waits := D.step_waits
      have elen : D.step.2.waits.length < 9223372036854775807 := by rw [ewaits]; exact hn
      refine loopW (fun s W => ∃ i : Nat, i ≤ D.step.2.waits.length ∧ s = (.int .i64 i, ()) ∧ ∃ F', DiskQ W d F' { D.step.2 with lasts := putL D.step.2.lasts (D.step.2.waits.take i) } (.slice a D.step.2.waits.length c) ∧ Stp F w1 W F')
        (fun s _ => match s.1 with | .int _ i => D.step.2.waits.length - i.toNat | _ => 0) ⟨0, by omega, rfl, F, by simpa [putL] using hq1', Stp.refl _ _⟩ ?_
      rintro ⟨_, _⟩ W ⟨i, hi, ⟨⟩, F', hQ, hS⟩ _
      simp [go_sem]
      split
      · rename_i hlt
        have hO : Own W 116 130 (.slice a D.step.2.waits.length c) D.step.2.waits.length (D.step.2.waits.flatMap cellsPut) := hQ.sl
        have hlt' : i < D.step.2.waits.length := by omega
        have hE := Own.elem hO hlt'
        obtain ⟨b, hE⟩ := hE
        obtain ⟨cap, hE⟩ := hE
        have hsl := hE.1
        have hAt := hE.2
        obtain ⟨rfl, -, rfl⟩ : a = some ⟨b, 0, none⟩ ∧ True ∧ c = cap := by injection hsl with e1 e2 e3; exact ⟨e1, trivial, e3⟩
        rw [flat_get cellsPut 130 _ _ (fun x hx => cellsPut_length (hw x hx).1) hlt] at hAt
        simp [go_sem, hlt]
        have hcl : (cellsPut D.step.2.waits[i]).length = 129 + 1 := cellsPut_length (hw _ (List.getElem_mem _)).1
        refine rx_bigS _ 129 pT1 pT2 hcl hAt ?_
        refine rx_bigVar 129 pT3 pT2 hcl pT4 (cellsPut_one _) ?_
        refine rx_bigS (cellsPut D.step.2.waits[i]) 129 pT1 pT2 hcl ⟨_, _, _, by rw [heap_alloc, if_pos rfl], by simp, by simp⟩ ?_
        have mA : Mod (fun _ => False) W (W.alloc (.cells (cellsPut D.step.2.waits[i]).toArray 116)) := (Mod.refl _ W).alloc _
        refine ca_last (p := D.step.2.waits[i]) (hQ.mod mA fun _ _ h => h) (hw _ (List.getElem_mem _)).1 fun w2 F2 q2 s2 => ?_
        have hwr : IntKind.i64.wrap ((i : Int) + 1) = ((i + 1 : Nat) : Int) := by rw [IntKind.wrap_i64]; omega
        refine ⟨⟨i + 1, hlt, hwr, F2, ?_, hS.trans (Stp.trans ⟨mA.mono fun _ _ h => h.elim, fun b hb => .inl hb⟩ s2)⟩, by rw [hwr]; omega⟩
        rw [putL_take _ _ _ hlt']
        exact q2
      · rename_i hlt
        have hi' : i = D.step.2.waits.length := by omega
        subst hi'
        rw [List.take_length] at hQ
        have hQ0 := hQ
        obtain ⟨⟨mb', g1, g2, g3, g4, g5, g6, g7⟩, gl, gw, gle, gn⟩ := hQ
        simp [go_sem, hp_of g1]
        have m2 : Mod (fun b => b = d) W (W.setCell ⟨d, 1, none⟩ (.slice none 0 0)) := (Mod.refl _ W).setCell (by simp) _ _
        have hSt : Stp F w W F' := Stp.trans (F1 := F) ⟨m1.mono fun b _ e => e ▸ hq.self, fun b hb => .inl hb⟩ hS
        refine hK _ (fun b => b = d ∨ mb' = some b) ⟨.slice none 0 0, ⟨mb', by show hp _ _ = _; simp [go_sem, hp_of g1], ?_, Own.nil .., fun b => by simp [inSl, slBlk], g5, by simp [inSl, slBlk], by simp [inSl, slBlk]⟩, gl, by simp, gle, fun _ => rfl⟩
          (hSt.trans ⟨m2.mono fun b _ e => e ▸ hQ0.self, fun b hb => .inl ((g4 b).2 (hb.imp id .inl))⟩)
        rcases g2 with ⟨g2, g2'⟩ | ⟨b, g2, g2'⟩
        · exact .inl ⟨g2, g2'⟩
        · exact .inr ⟨b, g2, g2'.mod m2 (fun e => g5 (by cases g2; rw [e]))⟩
  · simp [ho] at hK
    simp [go_sem]
    exact hK _ _ h0 (Stp.refl _ _)
end Go.Proofs
