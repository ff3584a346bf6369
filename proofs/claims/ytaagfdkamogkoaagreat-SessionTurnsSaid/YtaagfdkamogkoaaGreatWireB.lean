/-
  The contracts of the program's reader: Small, Nat, Text, Done.
  Conditions: where they ask for any, each theorem names them.
-/
import Derived.Test.YtaagfdkamogkoaaGreatWireA
set_option linter.unusedVariables false
set_option linter.unusedSimpArgs false
namespace Go.Proofs
open Go Go.Vc
attribute [local congr] Ca_congV

theorem rdN_err {l : List UInt8} : ∀ {k acc e : Nat}, rdN l k acc = .error e → e = 4 ∨ e = 5 := by
  induction l with
  | nil => intro k acc e h; cases h; exact .inl rfl
  | cons x r ih =>
    intro k acc e h
    simp only [rdN] at h
    split at h
    · cases h; exact .inr rfl
    · split at h
      · split at h
        · cases h; exact .inr rfl
        · cases h
      · exact ih h

/-- Storing a reader's fault, or its place. -/
theorem RdrAt.fault {w : World} {r : Nat} {v : Value} {l : List UInt8} {s : Rs} (h : RdrAt w r v l s) (e : Nat) :
    RdrAt (w.setCell ⟨r, 2, none⟩ (.int .i64 e)) r v l { s with e := e } ∧ Mod (fun b => b = r) w (w.setCell ⟨r, 2, none⟩ (.int .i64 e)) := by
  have hm : Mod (fun b => b = r) w (w.setCell ⟨r, 2, none⟩ (.int .i64 e)) := (Mod.refl (fun b => b = r) w).setCell (.inl rfl) _ _
  exact ⟨⟨by simp [go_sem, h.blk], h.rd.mod hm fun b hb e => h.ne (by rw [← e]; exact hb), h.le, h.ne, h.len⟩, hm⟩
theorem RdrAt.go {w : World} {r : Nat} {v : Value} {l : List UInt8} {s : Rs} (h : RdrAt w r v l s) (a : Nat) (ha : a ≤ l.length) :
    RdrAt (w.setCell ⟨r, 1, none⟩ (.int .i64 a)) r v l { s with at_ := a } ∧ Mod (fun b => b = r) w (w.setCell ⟨r, 1, none⟩ (.int .i64 a)) := by
  have hm : Mod (fun b => b = r) w (w.setCell ⟨r, 1, none⟩ (.int .i64 a)) := (Mod.refl (fun b => b = r) w).setCell (.inl rfl) _ _
  exact ⟨⟨by simp [go_sem, h.blk], h.rd.mod hm fun b hb e => h.ne (by rw [← e]; exact hb), ha, h.ne, h.len⟩, hm⟩

theorem ca_small {w : World} {K : Kont} {r most : Nat} {v : Value} {l : List UInt8} {s : Rs} (h : RdrAt w r v l s) (hmost : most < 18446744073709551616)
    (hK : ∀ w', RdrAt w' r v l (rsSmall l most s).2 → Mod (fun b => b = r) w w' → K (.int .u64 (rsSmall l most s).1) w') : Ca Tryz.prog 28 #[rptr r, .int .u64 most] w K := by
  apply ca28
  unfold F28
  refine ca_off h ?_
  by_cases he : s.e ≠ 0
  · rw [ifB_bool, if_pos (by simpa using he)]
    have hr : rsSmall l most s = (0, s) := by unfold rsSmall; rw [if_pos he]
    rw [hr] at hK
    exact hK _ h (Mod.refl _ _)
  rw [ifB_bool, if_neg (by simpa using he)]
  have he0 : s.e = 0 := by omega
  have hr : rsSmall l most s = match rdN (l.drop s.at_) 0 0 with
    | .error e => (0, { s with e := e })
    | .ok (n, k) => if most < n then (0, { s with e := 5 }) else (n, { s with at_ := s.at_ + k }) := by unfold rsSmall; rw [if_neg he]; cases rdN (l.drop s.at_) 0 0 <;> rfl
  refine ca_nat h fun w1 m1 => ?_
  have h1 := h.mod m1 id fun _ _ h => h
  have tail : ∀ (e n k : Nat) (w1 : World), RdrAt w1 r v l s → Mod (fun _ => False) w w1 → s.at_ + k ≤ l.length →
      (if e ≠ 0 then rsSmall l most s = (0, { s with e := e }) else rsSmall l most s = (n, { s with at_ := s.at_ + k })) →
      J28_1 (rptr r) K (.int .i64 (s.at_ + k : Nat)) (.int .u64 n) (.int .i64 e, ()) w1 := by
    intro e n k w1 h1 m1 hk hc
    unfold J28_1
    intro _
    have mm : ∀ w2, Mod (fun b => b = r) w1 w2 → Mod (fun b => b = r) w w2 := fun w2 m2 => (m1.mono fun _ _ h => h.elim).trans m2
    by_cases h0 : e ≠ 0
    · rw [if_pos h0] at hc
      rw [hc] at hK
      have h0' : ¬ (e : Int) = 0 := by omega
      refine rvS (v := .bool true) (w' := w1) (by simp [go_sem, h0']; omega) ?_
      rw [ifB_bool, if_pos rfl]
      obtain ⟨hA, hM⟩ := h1.fault e
      simp only [rptr, nilK_ptr]
      refine rvS (v := .pointer (some ⟨r, 2, none⟩)) (w' := w1) (by simp [go_sem]) ?_
      refine ruS (w' := w1.setCell ⟨r, 2, none⟩ (.int .i64 e)) (by simp [go_sem, h1.blk]) ?_
      exact hK _ hA (mm _ hM)
    · rw [if_neg h0] at hc
      rw [hc] at hK
      have h0' : (e : Int) = 0 := by omega
      refine rvS (v := .bool false) (w' := w1) (by simp [go_sem, h0']) ?_
      rw [ifB_bool, if_neg Bool.false_ne_true]
      obtain ⟨hA, hM⟩ := h1.go (s.at_ + k) hk
      simp only [rptr, nilK_ptr]
      refine rvS (v := .pointer (some ⟨r, 1, none⟩)) (w' := w1) (by simp [go_sem]) ?_
      refine ruS (w' := w1.setCell ⟨r, 1, none⟩ (.int .i64 (s.at_ + k : Nat))) (by simp [-Int.natCast_add, go_sem, h1.blk]) ?_
      exact hK _ hA (mm _ hM)
  cases hrd : rdN (l.drop s.at_) 0 0 with
  | error e =>
    have he5 := rdN_err hrd
    unfold natV
    rw [hrd] at hr ⊢
    simp only at hr ⊢
    refine rvS (v := .int .u64 0) (w' := w1) (by simp [go_sem]) ?_
    refine rvS (v := .int .i64 0) (w' := w1) (by simp [go_sem]) ?_
    refine rvS (v := .int .i64 e) (w' := w1) (by simp [go_sem]) ?_
    refine JoinW.at (fun st W => st = (.int .i64 e, ()) ∧ W = w1) ?_ ?_
    · refine JoinW.at (fun st W => st = (.bool false, ()) ∧ W = w1) ?_ ?_
      · have h0' : ¬ (e : Int) = 0 := by omega
        refine rvS (v := .bool false) (w' := w1) (by simp [go_sem]; omega) ?_
        rw [ifB_bool, if_neg Bool.false_ne_true]
        exact ⟨rfl, rfl⟩
      · rintro _ w1 ⟨rfl, rfl⟩
        unfold J28_0
        intro _
        rw [ifB_bool, if_neg Bool.false_ne_true]
        exact ⟨rfl, rfl⟩
    · rintro _ w1 ⟨rfl, rfl⟩
      have e0 : e ≠ 0 := by omega
      unfold J28_1
      intro _
      rw [hr] at hK
      refine rvS (v := .bool true) (w' := w1) (by simp [go_sem]; omega) ?_
      rw [ifB_bool, if_pos rfl]
      obtain ⟨hA, hM⟩ := h1.fault e
      simp only [rptr, nilK_ptr]
      refine rvS (v := .pointer (some ⟨r, 2, none⟩)) (w' := w1) (by simp [go_sem]) ?_
      refine ruS (w' := w1.setCell ⟨r, 2, none⟩ (.int .i64 e)) (by simp [go_sem, h1.blk]) ?_
      exact hK _ hA ((m1.mono fun _ _ h => h.elim).trans hM)
  | ok p =>
    obtain ⟨n, k⟩ := p
    have hf := rdN_form hrd
    have hle := h.le
    rw [List.length_drop] at hf
    unfold natV
    rw [hrd] at hr ⊢
    simp only at hr ⊢
    refine rvS (v := .int .u64 n) (w' := w1) (by simp [go_sem]) ?_
    refine rvS (v := .int .i64 (s.at_ + k : Nat)) (w' := w1) (by simp [go_sem]) ?_
    refine rvS (v := .int .i64 0) (w' := w1) (by simp [go_sem]) ?_
    refine JoinW.at (fun st W => st = (.int .i64 (if most < n then 5 else 0 : Nat), ()) ∧ W = w1) ?_ ?_
    · refine JoinW.at (fun st W => st = (.bool (decide (most < n)), ()) ∧ W = w1) ?_ ?_
      · refine rvS (v := .bool true) (w' := w1) (by simp [go_sem]) ?_
        rw [ifB_bool, if_pos rfl]
        refine rvS (v := .bool (decide (most < n))) (w' := w1) (by simp [go_sem]) ?_
        exact ⟨rfl, rfl⟩
      · rintro _ w1 ⟨rfl, rfl⟩
        unfold J28_0
        intro _
        by_cases hmn : most < n
        · rw [ifB_bool, if_pos (by simpa using hmn), if_pos hmn]
          simp
        · rw [ifB_bool, if_neg (by simpa using hmn), if_neg hmn]
          simp
    · rintro _ w1 ⟨rfl, rfl⟩
      refine tail (if most < n then 5 else 0) n k _ h1 m1 (by omega) ?_
      by_cases hmn : most < n
      · rw [if_pos hmn] at hr ⊢
        rw [if_pos (by decide)]
        exact hr
      · rw [if_neg hmn] at hr ⊢
        rw [if_neg (by simp)]
        exact hr

theorem ca_rnat {w : World} {K : Kont} {r : Nat} {v : Value} {l : List UInt8} {s : Rs} (h : RdrAt w r v l s)
    (hK : ∀ w', RdrAt w' r v l (rsSmall l 18446744073709551615 s).2 → Mod (fun b => b = r) w w' → K (.int .u64 (rsSmall l 18446744073709551615 s).1) w') : Ca Tryz.prog 17 #[rptr r] w K := by
  apply ca17
  unfold F17
  exact ca_small h (by decide) hK

theorem ca_done {w : World} {K : Kont} {r : Nat} {v : Value} {l : List UInt8} {s : Rs} (h : RdrAt w r v l s)
    (hK : ∀ w', Mod (fun _ => False) w w' → K (.int .i64 (rsDone l s)) w') : Ca Tryz.prog 19 #[rptr r] w K := by
  have hb := h.blk
  obtain ⟨a, c, rfl⟩ := h.rd.isSl
  apply ca19
  unfold F19
  refine rvS (v := .bool false) (w' := w) (by simp [go_sem, rptr]) ?_
  rw [ifB_bool, if_neg Bool.false_ne_true]
  refine JoinW.at (fun st W => st = (.bool (decide (s.e = 0 ∧ s.at_ < l.length)), ()) ∧ W = w.drew) ?_ ?_
  · simp only [rptr, nilK_ptr]
    refine rdPS (v := .pointer (some ⟨r, 2, none⟩)) (fun W => by simp [go_sem]) ?_
    refine rdWS (v := .int .i64 s.e) (by simp [go_sem, hb]) ?_
    by_cases h0 : s.e = 0
    · refine rdPS (v := .bool true) (fun W => by simp [go_sem, h0]) ?_
      rw [ifB_bool, if_pos rfl]
      refine rdPS (v := .pointer (some ⟨r, 1, none⟩)) (fun W => by simp [go_sem]) ?_
      refine rdWS (v := .int .i64 s.at_) (by simp [go_sem, hb]) ?_
      refine rdPS (v := .pointer (some ⟨r, 0, none⟩)) (fun W => by simp [go_sem]) ?_
      refine rdWS (v := .slice a l.length c) (by simp [go_sem, hb]) ?_
      refine rdWS (v := .int .i64 l.length) (by simp [go_sem]) ?_
      refine rdPS (v := .bool (decide (s.at_ < l.length))) (fun W => by simp [go_sem]) ?_
      simp [h0]
    · refine rdPS (v := .bool false) (fun W => by simp [go_sem]; omega) ?_
      rw [ifB_bool, if_neg Bool.false_ne_true]
      simp [h0]
  rintro _ _ ⟨rfl, rfl⟩
  unfold J19_0
  intro _
  have hm : Mod (fun _ => False) w w.drew := (Mod.refl _ w).drew
  by_cases hc : s.e = 0 ∧ s.at_ < l.length
  · rw [ifB_bool, if_pos (by simpa using hc)]
    have := hK _ hm
    unfold rsDone at this
    rw [if_pos hc] at this
    exact this
  · rw [ifB_bool, if_neg (by simpa using hc)]
    have := hK _ hm
    unfold rsDone at this
    rw [if_neg hc] at this
    simp only [rptr, nilK_ptr]
    refine rvS (v := .pointer (some ⟨r, 2, none⟩)) (w' := w.drew) (by simp [go_sem]) ?_
    refine rvS (v := .int .i64 s.e) (w' := w.drew) (by simp [go_sem, hb]) ?_
    exact this

theorem bits7 {n : Nat} (h : n < 9223372036854775808) : IntKind.u64.wrap (n : Int) = n := wrapU (by omega) (by omega)

set_option maxRecDepth 10000 in
theorem ca_text {w : World} {K : Kont} {r most : Nat} {v : Value} {l : List UInt8} {s : Rs} (h : RdrAt w r v l s) (hmost : most < 9223372036854775808)
    (hK : ∀ v2 w', RdrAt w' r v l (rsText l most s).2 → Own w' 5 1 v2 (rsText l most s).1.length (bv (rsText l most s).1) → Mod (fun b => b = r) w w' → (∀ b, inSl v2 b → w.heap.size ≤ b) → K v2 w') :
    Ca Tryz.prog 18 #[rptr r, .int .i64 most] w K := by
  apply ca18
  unfold F18
  refine ca_off h ?_
  have hnil : ∀ W, Own W 5 1 (.slice none 0 0) 0 (bv []) := fun W => Own.nil W _ 1
  have hnn : ∀ b, inSl (.slice none 0 0) b → w.heap.size ≤ b := fun b hb => by cases hb
  by_cases he : s.e ≠ 0
  · rw [ifB_bool, if_pos (by simpa using he)]
    have hr : rsText l most s = ([], s) := by unfold rsText; rw [if_pos he]
    rw [hr] at hK
    exact hK _ _ h (hnil _) (Mod.refl _ _) hnn
  rw [ifB_bool, if_neg (by simpa using he)]
  have he0 : s.e = 0 := by omega
  have hr : rsText l most s = match rdN (l.drop s.at_) 0 0 with
    | .error e => ([], { s with e := e })
    | .ok (n, k) => if most < n then ([], { s with e := 3 }) else if l.length - (s.at_ + k) < n then ([], { s with e := 4 }) else ((l.drop (s.at_ + k)).take n, { s with at_ := s.at_ + k + n }) := by
      unfold rsText; rw [if_neg he]; cases rdN (l.drop s.at_) 0 0 <;> rfl
  have hle := h.le
  have hlen := h.len
  refine ca_nat h fun w1 m1 => ?_
  have h1 := h.mod m1 id fun _ _ h => h
  have bad : ∀ (e : Nat) (v4 v6 : Value), e ≠ 0 → rsText l most s = ([], { s with e := e }) → J18_0 (rptr r) K v4 v6 (.int .i64 e, ()) w1 := by
    intro e v4 v6 h0 hc
    rw [hc] at hK
    unfold J18_0
    intro _
    have h0' : ¬ (e : Int) = 0 := by omega
    refine rvS (v := .bool true) (w' := w1) (by simp [go_sem, h0']; omega) ?_
    rw [ifB_bool, if_pos rfl]
    obtain ⟨hA, hM⟩ := h1.fault e
    simp only [rptr, nilK_ptr]
    refine rvS (v := .pointer (some ⟨r, 2, none⟩)) (w' := w1) (by simp [go_sem]) ?_
    refine ruS (w' := w1.setCell ⟨r, 2, none⟩ (.int .i64 e)) (by simp [go_sem, h1.blk]) ?_
    exact hK _ _ hA (hnil _) ((m1.mono fun _ _ h => h.elim).trans hM) hnn
  have hb1 := h1.blk
  obtain ⟨a, c, hve⟩ := h.rd.isSl
  cases hrd : rdN (l.drop s.at_) 0 0 with
  | error e =>
    have he5 := rdN_err hrd
    unfold natV
    rw [hrd] at hr ⊢
    simp only at hr ⊢
    refine rvS (v := .int .u64 0) (w' := w1) (by simp [go_sem]) ?_
    refine rvS (v := .int .i64 0) (w' := w1) (by simp [go_sem]) ?_
    refine rvS (v := .int .i64 e) (w' := w1) (by simp [go_sem]) ?_
    refine JoinW.at (fun st W => st = (.int .i64 e, ()) ∧ W = w1) ?_ ?_
    · refine rvS (v := .bool true) (w' := w1) (by simp [go_sem]; omega) ?_
      rw [ifB_bool, if_pos rfl]
      exact ⟨rfl, rfl⟩
    · rintro _ _ ⟨rfl, rfl⟩
      exact bad e _ _ (by omega) hr
  | ok p =>
    obtain ⟨n, k⟩ := p
    have hf := rdN_form hrd
    rw [List.length_drop] at hf
    unfold natV
    rw [hrd] at hr ⊢
    simp only at hr ⊢
    refine rvS (v := .int .u64 n) (w' := w1) (by simp [go_sem]) ?_
    refine rvS (v := .int .i64 (s.at_ + k : Nat)) (w' := w1) (by simp [go_sem]) ?_
    refine rvS (v := .int .i64 0) (w' := w1) (by simp [go_sem]) ?_
    refine JoinW.at (fun st W => st = (.int .i64 (if most < n then 3 else if l.length - (s.at_ + k) < n then 4 else 0 : Nat), ()) ∧ W = w1) ?_ ?_
    · refine rvS (v := .bool false) (w' := w1) (by simp [go_sem]) ?_
      rw [ifB_bool, if_neg Bool.false_ne_true]
      refine rnS (v := .int .i64 most) (w' := w1) (by simp [go_sem]; omega) ?_
      refine rvS (v := .int .u64 most) (w' := w1) (by simp [go_sem, bits7 hmost]) ?_
      refine rvS (v := .bool (decide (most < n))) (w' := w1) (by simp [go_sem]) ?_
      by_cases hmn : most < n
      · rw [ifB_bool, if_pos (by simpa using hmn), if_pos hmn]
        simp
      rw [ifB_bool, if_neg (by simpa using hmn), if_neg hmn]
      simp only [rptr, nilK_ptr]
      refine rvS (v := .pointer (some ⟨r, 0, none⟩)) (w' := w1) (by simp [go_sem]) ?_
      refine rvS (v := v) (w' := w1) (by simp [go_sem, hb1]) ?_
      refine rnS (v := .int .i64 l.length) (w' := w1) (by rw [hve]; simp [go_sem]) ?_
      refine rvS (v := .int .i64 (l.length - (s.at_ + k) : Nat)) (w' := w1) (by simp only [go_sem]; simp [-Int.natCast_add]; rw [wrapI (by omega) (by omega)]; omega) ?_
      refine rvS (v := .int .u64 (l.length - (s.at_ + k) : Nat)) (w' := w1) (by simp [go_sem, bits7 (n := l.length - (s.at_ + k)) (by omega)]) ?_
      refine rvS (v := .bool (decide (l.length - (s.at_ + k) < n))) (w' := w1) (by simp [go_sem]) ?_
      by_cases hs : l.length - (s.at_ + k) < n
      · rw [ifB_bool, if_pos (by simpa using hs), if_pos hs]
        simp
      · rw [ifB_bool, if_neg (by simpa using hs), if_neg hs]
        simp
    rintro _ w1 ⟨rfl, rfl⟩
    by_cases hmn : most < n
    · rw [if_pos hmn] at hr ⊢
      exact bad 3 _ _ (by omega) hr
    rw [if_neg hmn] at hr ⊢
    by_cases hs : l.length - (s.at_ + k) < n
    · rw [if_pos hs] at hr ⊢
      exact bad 4 _ _ (by omega) hr
    rw [if_neg hs] at hr ⊢
    rw [hr] at hK
    unfold J18_0
    intro _
    refine rvS (v := .bool false) (w' := w1) (by simp [go_sem]) ?_
    rw [ifB_bool, if_neg Bool.false_ne_true]
    refine rvS (v := .int .i64 n) (w' := w1) (by simp [go_sem, wrapI (n := (n : Int)) (by omega) (by omega)]) ?_
    refine rvS (v := .int .i64 (s.at_ + k + n : Nat)) (w' := w1) (by simp only [go_sem]; simp; rw [wrapI (by omega) (by omega)]; omega) ?_
    obtain ⟨hA, hM⟩ := h1.go (s.at_ + k + n) (by omega)
    simp only [rptr, nilK_ptr]
    refine rvS (v := .pointer (some ⟨r, 1, none⟩)) (w' := w1) (by simp [go_sem]) ?_
    refine ruS (w' := w1.setCell ⟨r, 1, none⟩ (.int .i64 (s.at_ + k + n : Nat))) (by simp [-Int.natCast_add, go_sem, hb1]) ?_
    have m2 : Mod (fun b => b = r) w (w1.setCell ⟨r, 1, none⟩ (.int .i64 (s.at_ + k + n : Nat))).drew := ((m1.mono fun _ _ h => h.elim).trans hM).drew
    replace hA : RdrAt (w1.setCell ⟨r, 1, none⟩ (.int .i64 (s.at_ + k + n : Nat))).drew r v l { s with at_ := s.at_ + k + n } := hA.mod (F := fun _ => False) (Mod.refl _ _).drew id fun _ _ h => h
    generalize (w1.setCell ⟨r, 1, none⟩ (.int .i64 (s.at_ + k + n : Nat))).drew = w2 at hA m2 ⊢
    have hb2 := hA.blk
    refine rdPS (v := .pointer (some ⟨r, 0, none⟩)) (fun W => by simp [go_sem]) ?_
    refine rdWS (v := v) (by simp [go_sem, hb2]) ?_
    refine rdPS (v := .pointer (some ⟨r, 1, none⟩)) (fun W => by simp [go_sem]) ?_
    refine rdWS (v := .int .i64 (s.at_ + k + n : Nat)) (by simp [go_sem, hb2]) ?_
    obtain ⟨v', hrun, hd, hin⟩ := hA.rd.part (P := Tryz.prog) (lo := s.at_ + k) (hi := s.at_ + k + n) uBs u8C (by omega) (by omega) .i64 .i64
    refine rdPS (v := v') hrun ?_
    refine litV [] uBs (elemT_of u8E) rfl rfl (by omega) fun v5 w3 o3 m3 n3 => ?_
    have hb3 : hp w3 r = some (.cells #[v, .int .i64 (s.at_ + k + n : Nat), .int .i64 s.e] 61 (0, 0)) := m3.keep hb2 id
    refine ⟨by simp [go_sem, hb3], by simp [go_sem, hb3], ?_⟩
    have hnd : ((bv l).drop ((s.at_ + k) * (0 + 1))).take ((s.at_ + k + n - (s.at_ + k)) * (0 + 1)) = bv ((l.drop (s.at_ + k)).take n) := by
      simp only [Nat.zero_add, Nat.mul_one]
      rw [show s.at_ + k + n - (s.at_ + k) = n by omega, bv_drop, bv_take]
    rw [hnd, show s.at_ + k + n - (s.at_ + k) = n by omega] at hd
    have hd3 : Rd w3 1 v' n (bv ((l.drop (s.at_ + k)).take n)) := hd.mod m3 fun _ _ h => h
    refine rx_append uBs uBs (elemT_of u8E) o3 hd3 (bv_one _) (by omega) fun v6 w4 o4 m4 n4 => ?_
    have hnl : ((l.drop (s.at_ + k)).take n).length = n := by rw [List.length_take, List.length_drop]; omega
    have hsz := m2.size
    have hsz3 := m3.size
    refine hK _ _ ?_ ?_ ((m2.trans (m3.mono fun _ _ h => h.elim)).on m4 fun b hb => .inr (by have := (n3 b hb).1; omega)) ?_
    · have h3 := hA.mod m3 id fun _ _ h => h
      have hlt := hA.lt
      refine h3.mod m4 (fun hb => by have := (n3 _ hb).1; omega) fun b hb hb' => ?_
      have h5 := (n3 _ hb').1
      have h6 := hA.rd.lt hb
      omega
    · simp only
      rw [hnl]
      simpa using o4
    · intro b hb
      rcases n4 b hb with h5 | h5
      · have := (n3 b h5).1; omega
      · omega
end Go.Proofs
