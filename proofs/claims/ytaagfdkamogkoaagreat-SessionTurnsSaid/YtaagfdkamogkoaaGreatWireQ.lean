/-
  The contracts of the document's reader (Small, Nat, Text, Done), and of its forms.
  Conditions: where they ask for any, each theorem names them.
-/
import Derived.Test.YtaagfdkamogkoaaGreatWireR
set_option linter.unusedVariables false
set_option linter.unusedSimpArgs false
namespace Go.Proofs
open Go Go.Vc
attribute [local congr] Ca_congV

theorem RrAt.fault {w : World} {r : Nat} {v : Value} {l : List UInt8} {s : Rs} (h : RrAt w r v l s) (e : Nat) :
    RrAt (w.setCell ⟨r, 1, none⟩ (.int .i64 e)) r v l { s with e := e } ∧ Mod (fun b => b = r) w (w.setCell ⟨r, 1, none⟩ (.int .i64 e)) := by
  have hm : Mod (fun b => b = r) w (w.setCell ⟨r, 1, none⟩ (.int .i64 e)) := (Mod.refl (fun b => b = r) w).setCell (.inl rfl) _ _
  obtain ⟨⟨vB, hb, hd, hi⟩, h3, h4, h5, h6⟩ := h
  exact ⟨⟨⟨vB, by simp [go_sem, hb], hd.mod hm fun b hb e => h4 (by rw [← e]; exact hi b hb), hi⟩, h3, h4, h5, h6.mod hm fun b hb e => h4 (by rw [← e]; exact hb)⟩, hm⟩

theorem RrAt.on {w : World} {r : Nat} {v vB v' : Value} {l : List UInt8} {s : Rs} (h : RrAt w r v l s) {a : Nat} (ha : a ≤ l.length) (hb : hp w r = some (.cells #[vB, .int .i64 s.e] 49 (0, 0)))
    (hd : Rd w 1 v' (l.length - a) (bv (l.drop a))) (hi : ∀ b, inRd v' b → inRd v b) :
    RrAt (w.setCell ⟨r, 0, none⟩ v') r v l { s with at_ := a } ∧ Mod (fun b => b = r) w (w.setCell ⟨r, 0, none⟩ v') := by
  have hm : Mod (fun b => b = r) w (w.setCell ⟨r, 0, none⟩ v') := (Mod.refl (fun b => b = r) w).setCell (.inl rfl) _ _
  refine ⟨⟨⟨v', by simp [go_sem, hb], hd.mod hm fun b hb e => h.ne (by rw [← e]; exact hi b hb), hi⟩, ha, h.ne, h.len, h.rd.mod hm fun b hb e => h.ne (by rw [← e]; exact hb)⟩, hm⟩

theorem ca_smallR {w : World} {K : Kont} {r most : Nat} {v : Value} {l : List UInt8} {s : Rs} (h : RrAt w r v l s) (hmost : most < 18446744073709551616)
    (hK : ∀ w', RrAt w' r v l (rsSmall l most s).2 → Mod (fun b => b = r) w w' → K (.int .u64 (rsSmall l most s).1) w') : Ca Tryz.prog 31 #[rptr r, .int .u64 most] w K := by
  obtain ⟨⟨vB, hb, hd, hi⟩, hle, hne, hlen, hrdv⟩ := id h
  apply ca31
  unfold F31
  simp only [rptr, nilK_ptr]
  refine rvS (v := .pointer (some ⟨r, 1, none⟩)) (w' := w) (by simp [go_sem]) ?_
  refine rvS (v := .int .i64 s.e) (w' := w) (by simp [go_sem, hb]) ?_
  by_cases he : s.e ≠ 0
  · refine rvS (v := .bool true) (w' := w) (by simp [go_sem]; omega) ?_
    rw [ifB_bool, if_pos rfl]
    have hr : rsSmall l most s = (0, s) := by unfold rsSmall; rw [if_pos he]
    rw [hr] at hK
    exact hK _ h (Mod.refl _ _)
  have he0 : s.e = 0 := by omega
  refine rvS (v := .bool false) (w' := w) (by simp [go_sem, he0]) ?_
  rw [ifB_bool, if_neg Bool.false_ne_true]
  have hr : rsSmall l most s = match rdN (l.drop s.at_) 0 0 with
    | .error e => (0, { s with e := e })
    | .ok (n, k) => if most < n then (0, { s with e := 5 }) else (n, { s with at_ := s.at_ + k }) := by unfold rsSmall; rw [if_neg he]; cases rdN (l.drop s.at_) 0 0 <;> rfl
  refine ca_natR h ?_
  have bad : ∀ (e : Nat) (v9 v11 : Value), e ≠ 0 → rsSmall l most s = (0, { s with e := e }) → J31_1 (.pointer (some ⟨r, 0, none⟩)) K v11 v9 (.int .i64 e, ()) w := by
    intro e v9 v11 h0 hc
    rw [hc] at hK
    unfold J31_1
    intro _
    refine rvS (v := .bool true) (w' := w) (by simp [go_sem]; omega) ?_
    rw [ifB_bool, if_pos rfl]
    obtain ⟨hA, hM⟩ := h.fault e
    simp only [nilK_ptr]
    refine rvS (v := .pointer (some ⟨r, 1, none⟩)) (w' := w) (by simp [go_sem]) ?_
    refine ruS (w' := w.setCell ⟨r, 1, none⟩ (.int .i64 e)) (by simp [go_sem, hb]) ?_
    exact hK _ hA hM
  cases hrd : rdN (l.drop s.at_) 0 0 with
  | error e =>
    have he5 := rdN_err hrd
    unfold natRV
    rw [hrd] at hr ⊢
    simp only at hr ⊢
    refine rvS (v := .int .u64 0) (w' := w) (by simp [go_sem]) ?_
    refine rvS (v := .int .i64 0) (w' := w) (by simp [go_sem]) ?_
    refine rvS (v := .int .i64 e) (w' := w) (by simp [go_sem]) ?_
    refine JoinW.at (fun st W => st = (.int .i64 e, ()) ∧ W = w) ?_ ?_
    · refine JoinW.at (fun st W => st = (.bool false, ()) ∧ W = w) ?_ ?_
      · refine rvS (v := .bool false) (w' := w) (by simp [go_sem]; omega) ?_
        rw [ifB_bool, if_neg Bool.false_ne_true]
        exact ⟨rfl, rfl⟩
      · rintro _ _ ⟨rfl, rfl⟩
        unfold J31_0
        intro _
        rw [ifB_bool, if_neg Bool.false_ne_true]
        exact ⟨rfl, rfl⟩
    · rintro _ _ ⟨rfl, rfl⟩
      exact bad e _ _ (by omega) hr
  | ok p =>
    obtain ⟨n, k⟩ := p
    have hf := rdN_form hrd
    rw [List.length_drop] at hf
    unfold natRV
    rw [hrd] at hr ⊢
    simp only at hr ⊢
    refine rvS (v := .int .u64 n) (w' := w) (by simp [go_sem]) ?_
    refine rvS (v := .int .i64 k) (w' := w) (by simp [go_sem]) ?_
    refine rvS (v := .int .i64 0) (w' := w) (by simp [go_sem]) ?_
    refine JoinW.at (fun st W => st = (.int .i64 (if most < n then 5 else 0 : Nat), ()) ∧ W = w) ?_ ?_
    · refine JoinW.at (fun st W => st = (.bool (decide (most < n)), ()) ∧ W = w) ?_ ?_
      · refine rvS (v := .bool true) (w' := w) (by simp [go_sem]) ?_
        rw [ifB_bool, if_pos rfl]
        refine rvS (v := .bool (decide (most < n))) (w' := w) (by simp [go_sem]) ?_
        exact ⟨rfl, rfl⟩
      · rintro _ _ ⟨rfl, rfl⟩
        unfold J31_0
        intro _
        by_cases hmn : most < n
        · rw [ifB_bool, if_pos (by simpa using hmn), if_pos hmn]
          simp
        · rw [ifB_bool, if_neg (by simpa using hmn), if_neg hmn]
          simp
    · rintro _ w ⟨rfl, rfl⟩
      by_cases hmn : most < n
      · rw [if_pos hmn] at hr ⊢
        exact bad 5 _ _ (by omega) hr
      rw [if_neg hmn] at hr ⊢
      rw [hr] at hK
      unfold J31_1
      intro _
      refine rvS (v := .bool false) (w' := w) (by simp [go_sem]) ?_
      rw [ifB_bool, if_neg Bool.false_ne_true]
      simp only [nilK_ptr]
      refine rvS (v := .pointer (some ⟨r, 0, none⟩)) (w' := w) (by simp [go_sem]) ?_
      refine rvS (v := vB) (w' := w) (by simp [go_sem, hb]) ?_
      obtain ⟨v', hrun, hd', hin⟩ := hd.from_ (P := Tryz.prog) (lo := k) uBs u8C (by omega) .i64
      refine rvS (v := v') (w' := w) (hrun w) ?_
      refine rvS (v := .pointer (some ⟨r, 0, none⟩)) (w' := w) (by simp [go_sem]) ?_
      obtain ⟨a', c', hv'⟩ := hd'.isSl
      refine ruS (w' := w.setCell ⟨r, 0, none⟩ v') (by rw [hv']; simp [go_sem, hb]) ?_
      simp only [Nat.zero_add, Nat.mul_one] at hd'
      rw [bv_drop, List.drop_drop, Nat.sub_sub] at hd'
      obtain ⟨hA, hM⟩ := h.on (a := s.at_ + k) (by omega) hb hd' fun b hb => hi b (hin b hb)
      exact hK _ hA hM

theorem ca_rnatR {w : World} {K : Kont} {r : Nat} {v : Value} {l : List UInt8} {s : Rs} (h : RrAt w r v l s)
    (hK : ∀ w', RrAt w' r v l (rsSmall l 18446744073709551615 s).2 → Mod (fun b => b = r) w w' → K (.int .u64 (rsSmall l 18446744073709551615 s).1) w') : Ca Tryz.prog 20 #[rptr r] w K := by
  apply ca20
  unfold F20
  exact ca_smallR h (by decide) hK

theorem ca_doneR {w : World} {K : Kont} {r : Nat} {v : Value} {l : List UInt8} {s : Rs} (h : RrAt w r v l s)
    (hK : K (.int .i64 (rsDone l s)) w) : Ca Tryz.prog 22 #[rptr r] w K := by
  obtain ⟨⟨vB, hb, hd, hi⟩, hle, hne, hlen, hrdv⟩ := id h
  obtain ⟨a, c, hvB⟩ := hd.isSl
  apply ca22
  unfold F22
  refine JoinW.at (fun st W => st = (.bool (decide (s.e = 0 ∧ s.at_ < l.length)), ()) ∧ W = w) ?_ ?_
  · simp only [rptr, nilK_ptr]
    refine rvS (v := .pointer (some ⟨r, 1, none⟩)) (w' := w) (by simp [go_sem]) ?_
    refine rvS (v := .int .i64 s.e) (w' := w) (by simp [go_sem, hb]) ?_
    by_cases h0 : s.e = 0
    · refine rvS (v := .bool true) (w' := w) (by simp [go_sem, h0]) ?_
      rw [ifB_bool, if_pos rfl]
      refine rvS (v := .pointer (some ⟨r, 0, none⟩)) (w' := w) (by simp [go_sem]) ?_
      refine rvS (v := vB) (w' := w) (by simp [go_sem, hb]) ?_
      refine rnS (v := .int .i64 (l.length - s.at_ : Nat)) (w' := w) (by rw [hvB]; simp [go_sem]) ?_
      refine rvS (v := .bool (decide ((0 : Int) < (l.length - s.at_ : Nat)))) (w' := w) (by simp only [go_sem]; simp ) ?_
      refine ⟨?_, rfl⟩
      have e : decide ((0 : Int) < (l.length - s.at_ : Nat)) = decide (s.e = 0 ∧ s.at_ < l.length) := by rw [decide_eq_decide]; omega
      rw [e]
    · refine rvS (v := .bool false) (w' := w) (by simp [go_sem]; omega) ?_
      rw [ifB_bool, if_neg Bool.false_ne_true]
      simp [h0]
  rintro _ w ⟨rfl, rfl⟩
  unfold J22_0
  intro _
  unfold rsDone at hK
  by_cases hc : s.e = 0 ∧ s.at_ < l.length
  · rw [ifB_bool, if_pos (by simpa using hc)]
    rw [if_pos hc] at hK
    exact hK
  · rw [ifB_bool, if_neg (by simpa using hc)]
    rw [if_neg hc] at hK
    simp only [rptr, nilK_ptr]
    refine rvS (v := .pointer (some ⟨r, 1, none⟩)) (w' := w) (by simp [go_sem]) ?_
    refine rvS (v := .int .i64 s.e) (w' := w) (by simp [go_sem, hb]) ?_
    exact hK

set_option maxRecDepth 10000 in
theorem ca_textR {w : World} {K : Kont} {r most : Nat} {v : Value} {l : List UInt8} {s : Rs} (h : RrAt w r v l s) (hmost : most < 9223372036854775808)
    (hK : ∀ v2 w', RrAt w' r v l (rsText l most s).2 → Own w' 5 1 v2 (rsText l most s).1.length (bv (rsText l most s).1) → Mod (fun b => b = r) w w' → (∀ b, inSl v2 b → w.heap.size ≤ b) → K v2 w') :
    Ca Tryz.prog 21 #[rptr r, .int .i64 most] w K := by
  obtain ⟨⟨vB, hb, hd, hi⟩, hle, hne, hlen, hrdv⟩ := id h
  obtain ⟨aB, cB, hvB⟩ := hd.isSl
  apply ca21
  unfold F21
  have hnil : ∀ W, Own W 5 1 (.slice none 0 0) 0 (bv []) := fun W => Own.nil W _ 1
  have hnn : ∀ b, inSl (.slice none 0 0) b → w.heap.size ≤ b := fun b hb => by cases hb
  simp only [rptr, nilK_ptr]
  refine rvS (v := .pointer (some ⟨r, 1, none⟩)) (w' := w) (by simp [go_sem]) ?_
  refine rvS (v := .int .i64 s.e) (w' := w) (by simp [go_sem, hb]) ?_
  by_cases he : s.e ≠ 0
  · refine rvS (v := .bool true) (w' := w) (by simp [go_sem]; omega) ?_
    rw [ifB_bool, if_pos rfl]
    have hr : rsText l most s = ([], s) := by unfold rsText; rw [if_pos he]
    rw [hr] at hK
    exact hK _ _ h (hnil _) (Mod.refl _ _) hnn
  have he0 : s.e = 0 := by omega
  refine rvS (v := .bool false) (w' := w) (by simp [go_sem, he0]) ?_
  rw [ifB_bool, if_neg Bool.false_ne_true]
  have hr : rsText l most s = match rdN (l.drop s.at_) 0 0 with
    | .error e => ([], { s with e := e })
    | .ok (n, k) => if most < n then ([], { s with e := 3 }) else if l.length - (s.at_ + k) < n then ([], { s with e := 4 }) else ((l.drop (s.at_ + k)).take n, { s with at_ := s.at_ + k + n }) := by
      unfold rsText; rw [if_neg he]; cases rdN (l.drop s.at_) 0 0 <;> rfl
  refine ca_natR h ?_
  have bad : ∀ (e : Nat) (v9 v11 : Value), e ≠ 0 → rsText l most s = ([], { s with e := e }) → J21_2 (.pointer (some ⟨r, 0, none⟩)) K v9 v11 (.int .i64 e, ()) w := by
    intro e v9 v11 h0 hc
    rw [hc] at hK
    unfold J21_2
    intro _
    refine rvS (v := .bool true) (w' := w) (by simp [go_sem]; omega) ?_
    rw [ifB_bool, if_pos rfl]
    obtain ⟨hA, hM⟩ := h.fault e
    simp only [nilK_ptr]
    refine rvS (v := .pointer (some ⟨r, 1, none⟩)) (w' := w) (by simp [go_sem]) ?_
    refine ruS (w' := w.setCell ⟨r, 1, none⟩ (.int .i64 e)) (by simp [go_sem, hb]) ?_
    exact hK _ _ hA (hnil _) hM hnn
  -- a fault that was found goes on
  have pass : ∀ (e : Nat) (v9 v11 : Value), e ≠ 0 → rsText l most s = ([], { s with e := e }) → J21_3 (.pointer (some ⟨r, 0, none⟩)) v11 v9 K (.int .i64 e, ()) w := by
    intro e v9 v11 h0 hc
    unfold J21_3
    intro _
    refine JoinW.at (fun st W => st = (.int .i64 e, ()) ∧ W = w) ?_ ?_
    · refine JoinW.at (fun st W => st = (.bool false, ()) ∧ W = w) ?_ ?_
      · refine rvS (v := .bool false) (w' := w) (by simp [go_sem]; omega) ?_
        rw [ifB_bool, if_neg Bool.false_ne_true]
        exact ⟨rfl, rfl⟩
      · rintro _ _ ⟨rfl, rfl⟩
        unfold J21_1
        intro _
        rw [ifB_bool, if_neg Bool.false_ne_true]
        exact ⟨rfl, rfl⟩
    · rintro _ _ ⟨rfl, rfl⟩
      exact bad e _ _ h0 hc
  cases hrd : rdN (l.drop s.at_) 0 0 with
  | error e =>
    have he5 := rdN_err hrd
    unfold natRV
    rw [hrd] at hr ⊢
    simp only at hr ⊢
    refine rvS (v := .int .u64 0) (w' := w) (by simp [go_sem]) ?_
    refine rvS (v := .int .i64 0) (w' := w) (by simp [go_sem]) ?_
    refine rvS (v := .int .i64 e) (w' := w) (by simp [go_sem]) ?_
    refine JoinW.at (fun st W => st = (.int .i64 e, ()) ∧ W = w) ?_ ?_
    · refine JoinW.at (fun st W => st = (.bool false, ()) ∧ W = w) ?_ ?_
      · refine rvS (v := .bool false) (w' := w) (by simp [go_sem]; omega) ?_
        rw [ifB_bool, if_neg Bool.false_ne_true]
        exact ⟨rfl, rfl⟩
      · rintro _ _ ⟨rfl, rfl⟩
        unfold J21_0
        intro _
        rw [ifB_bool, if_neg Bool.false_ne_true]
        exact ⟨rfl, rfl⟩
    · rintro _ _ ⟨rfl, rfl⟩
      exact pass e _ _ (by omega) hr
  | ok p =>
    obtain ⟨n, k⟩ := p
    have hf := rdN_form hrd
    rw [List.length_drop] at hf
    unfold natRV
    rw [hrd] at hr ⊢
    simp only at hr ⊢
    refine rvS (v := .int .u64 n) (w' := w) (by simp [go_sem]) ?_
    refine rvS (v := .int .i64 k) (w' := w) (by simp [go_sem]) ?_
    refine rvS (v := .int .i64 0) (w' := w) (by simp [go_sem]) ?_
    refine JoinW.at (fun st W => st = (.int .i64 (if most < n then 3 else 0 : Nat), ()) ∧ W = w) ?_ ?_
    · refine JoinW.at (fun st W => st = (.bool (decide (most < n)), ()) ∧ W = w) ?_ ?_
      · refine rvS (v := .bool true) (w' := w) (by simp [go_sem]) ?_
        rw [ifB_bool, if_pos rfl]
        refine rvS (v := .bool false) (w' := w) (by simp [go_sem]) ?_
        rw [ifB_bool, if_neg Bool.false_ne_true]
        refine rvS (v := .bool true) (w' := w) (by simp [go_sem]) ?_
        rw [ifB_bool, if_pos rfl]
        refine rvS (v := .int .u64 most) (w' := w) (by simp [go_sem, bits7 hmost]) ?_
        refine rvS (v := .bool (decide (most < n))) (w' := w) (by simp [go_sem]) ?_
        exact ⟨rfl, rfl⟩
      · rintro _ _ ⟨rfl, rfl⟩
        unfold J21_0
        intro _
        by_cases hmn : most < n
        · rw [ifB_bool, if_pos (by simpa using hmn), if_pos hmn]
          simp
        · rw [ifB_bool, if_neg (by simpa using hmn), if_neg hmn]
          simp
    rintro _ w ⟨rfl, rfl⟩
    by_cases hmn : most < n
    · rw [if_pos hmn] at hr ⊢
      exact pass 3 _ _ (by omega) hr
    rw [if_neg hmn] at hr ⊢
    unfold J21_3
    intro _
    refine JoinW.at (fun st W => st = (.int .i64 (if l.length - (s.at_ + k) < n then 4 else 0 : Nat), ()) ∧ W = w) ?_ ?_
    · refine JoinW.at (fun st W => st = (.bool (decide (l.length - (s.at_ + k) < n)), ()) ∧ W = w) ?_ ?_
      · refine rvS (v := .bool true) (w' := w) (by simp [go_sem]) ?_
        rw [ifB_bool, if_pos rfl]
        simp only [nilK_ptr]
        refine rvS (v := .pointer (some ⟨r, 0, none⟩)) (w' := w) (by simp [go_sem]) ?_
        refine rvS (v := vB) (w' := w) (by simp [go_sem, hb]) ?_
        refine rnS (v := .int .i64 (l.length - s.at_ : Nat)) (w' := w) (by rw [hvB]; simp [go_sem]) ?_
        refine rvS (v := .int .i64 (l.length - (s.at_ + k) : Nat)) (w' := w) (by simp only [go_sem]; simp [-Int.natCast_add]; rw [wrapI (by omega) (by omega)]; omega) ?_
        refine rvS (v := .int .u64 (l.length - (s.at_ + k) : Nat)) (w' := w) (by simp [go_sem, bits7 (n := l.length - (s.at_ + k)) (by omega)]) ?_
        refine rvS (v := .bool (decide (l.length - (s.at_ + k) < n))) (w' := w) (by simp [go_sem]) ?_
        exact ⟨rfl, rfl⟩
      · rintro _ _ ⟨rfl, rfl⟩
        unfold J21_1
        intro _
        by_cases hs : l.length - (s.at_ + k) < n
        · rw [ifB_bool, if_pos (by simpa using hs), if_pos hs]
          simp
        · rw [ifB_bool, if_neg (by simpa using hs), if_neg hs]
          simp
    rintro _ w ⟨rfl, rfl⟩
    by_cases hs : l.length - (s.at_ + k) < n
    · rw [if_pos hs] at hr ⊢
      exact bad 4 _ _ (by omega) hr
    rw [if_neg hs] at hr ⊢
    rw [hr] at hK
    unfold J21_2
    intro _
    refine rvS (v := .bool false) (w' := w) (by simp [go_sem]) ?_
    rw [ifB_bool, if_neg Bool.false_ne_true]
    refine litV [] uBs (elemT_of u8E) rfl rfl (by omega) fun v5 w3 o3 m3 n3 => ?_
    have h3 := h.mod m3 id fun _ _ h => h
    have hb3 : hp w3 r = some (.cells #[vB, .int .i64 s.e] 49 (0, 0)) := m3.keep hb id
    simp only [nilK_ptr]
    refine rvS (v := .pointer (some ⟨r, 0, none⟩)) (w' := w3) (by simp [go_sem]) ?_
    refine rvS (v := vB) (w' := w3) (by simp [go_sem, hb3]) ?_
    refine rvS (v := .int .i64 n) (w' := w3) (by simp [go_sem, wrapI (n := (n : Int)) (by omega) (by omega)]) ?_
    refine rvS (v := .int .i64 (k + n : Nat)) (w' := w3) (by simp only [go_sem]; simp; rw [wrapI (by omega) (by omega)]) ?_
    have hd3 := hd.mod m3 fun _ _ h => h
    obtain ⟨v', hrun, hd', hin⟩ := hd3.part (P := Tryz.prog) (lo := k) (hi := k + n) uBs u8C (by omega) (by omega) .i64 .i64
    refine rvS (v := v') (w' := w3) (hrun _) ?_
    simp only [Nat.zero_add, Nat.mul_one] at hd'
    rw [show k + n - k = n by omega, bv_drop, bv_take, List.drop_drop] at hd'
    refine rx_append uBs uBs (elemT_of u8E) o3 hd' (bv_one _) (by omega) fun v6 w4 o4 m4 n4 => ?_
    have hsz := m3.size
    have hlt := lt_of_heap hb
    have nS3 : ∀ b, inSl v5 b → ¬ inRd v b ∧ b ≠ r := fun b hb5 => ⟨fun hin => by
      have h6 := (n3 b hb5).1
      have := hrdv.lt hin
      omega, fun e => by have h6 := (n3 b hb5).1; omega⟩
    have h4 := h3.mod m4 (fun hb => (nS3 _ hb).2 rfl) fun b hb hb' => (nS3 b hb').1 hb
    have hb4 : hp w4 r = some (.cells #[vB, .int .i64 s.e] 49 (0, 0)) := m4.keep hb3 fun hb => (nS3 _ hb).2 rfl
    have hd4 := hd3.mod m4 fun b hb hb' => (nS3 b hb').1 (hi b hb)
    refine rvS (v := .pointer (some ⟨r, 0, none⟩)) (w' := w4) (by simp [go_sem]) ?_
    refine rvS (v := vB) (w' := w4) (by simp [go_sem, hb4]) ?_
    refine rvS (v := .int .i64 n) (w' := w4) (by simp [go_sem, wrapI (n := (n : Int)) (by omega) (by omega)]) ?_
    refine rvS (v := .int .i64 (k + n : Nat)) (w' := w4) (by simp only [go_sem]; simp; rw [wrapI (by omega) (by omega)]) ?_
    obtain ⟨v7, hrun7, hd7, hin7⟩ := hd4.from_ (P := Tryz.prog) (lo := k + n) uBs u8C (by omega) .i64
    refine rvS (v := v7) (w' := w4) (hrun7 _) ?_
    simp only [Nat.zero_add, Nat.mul_one] at hd7
    rw [bv_drop, List.drop_drop, Nat.sub_sub, ← Nat.add_assoc] at hd7
    refine rvS (v := .pointer (some ⟨r, 0, none⟩)) (w' := w4) (by simp [go_sem]) ?_
    obtain ⟨a7, c7, hv7⟩ := hd7.isSl
    refine ruS (w' := w4.setCell ⟨r, 0, none⟩ v7) (by rw [hv7]; simp [go_sem, hb4]) ?_
    obtain ⟨hA, hM⟩ := h4.on (a := s.at_ + k + n) (by omega) hb4 hd7 fun b hb => hi b (hin7 b hb)
    have hnl : ((l.drop (s.at_ + k)).take n).length = n := by rw [List.length_take, List.length_drop]; omega
    have nS4 : ∀ b, inSl v6 b → w.heap.size ≤ b := fun b hb => by
      rcases n4 b hb with h5 | h5
      · exact (n3 b h5).1
      · omega
    refine hK _ _ hA ?_ ?_ nS4
    · simp only
      rw [hnl]
      refine (by simpa using o4 : Own w4 5 1 v6 n (bv ((l.drop (s.at_ + k)).take n))).mod hM fun b hb e => ?_
      have := nS4 b hb
      omega
    · exact (((m3.mono fun _ _ h => h.elim).on m4 fun b hb => .inr (n3 b hb).1).trans hM : Mod (fun b => b = r) w _)

/-! ### The document's forms -/

theorem ca_natF : ∀ (n : Nat) (hn : n < 18446744073709551616) {w : World} {K : Kont}
    (hK : ∀ s' w', Own w' 5 1 s' (natB n).length (bv (natB n)) → Mod (fun _ => False) w w' → (∀ b, inSl s' b → w.heap.size ≤ b) → K s' w'), Ca Tryz.prog 23 #[.int .u64 n] w K := by
  intro n
  induction n using Nat.strongRecOn with
  | _ n ih =>
    intro hn w K hK
    apply ca23
    unfold F23
    by_cases h1 : n < 128
    · have h1' : (n : Int) < 128 := by omega
      refine rvS (v := .bool true) (w' := w) (by simp [go_sem, h1']) ?_
      rw [ifB_bool, if_pos rfl]
      have e1 : IntKind.u8.wrap (n : Int) = ((UInt8.ofNat n).toNat : Int) := by
        rw [u8_of (by omega), IntKind.wrap_u8]; omega
      refine rvS (v := .int .u8 (IntKind.u8.wrap (n : Int))) (w' := w) (by simp [go_sem]) ?_
      rw [e1]
      refine litV [UInt8.ofNat n] uBs (elemT_of u8E) rfl rfl (by omega) fun v W2 o2 m2 n2 => ?_
      rw [natB_lt h1] at hK
      exact hK _ _ o2 m2 fun b hb => (n2 b hb).1
    · have h1' : ¬ (n : Int) < 128 := by omega
      refine rvS (v := .bool false) (w' := w) (by simp [go_sem, h1']) ?_
      rw [ifB_bool, if_neg Bool.false_ne_true]
      refine rvS (v := .int .u64 ((n % 128 : Nat) : Int)) (w' := w) (by simp [go_sem]; try rw [Int.tmod_eq_emod_of_nonneg (by omega)]) ?_
      refine rvS (v := .int .u8 ((n % 128 : Nat) : Int)) (w' := w) (by simp [go_sem]; rw [IntKind.wrap_u8]; omega) ?_
      refine rvS (v := .int .u8 ((UInt8.ofNat (n % 128 + 128)).toNat : Int)) (w' := w) (by rw [u8_of (by omega)]; simp [go_sem]; rw [IntKind.wrap_u8]; omega) ?_
      refine litV [UInt8.ofNat (n % 128 + 128)] uBs (elemT_of u8E) rfl rfl (by omega) fun v W2 o2 m2 n2 => ?_
      refine rvS (v := .int .u64 ((n / 128 : Nat) : Int)) (w' := W2) (by simp [go_sem]; try rw [wrapU (by omega) (by omega)]) ?_
      refine ih (n / 128) (by omega) (by omega) fun s3 w3 o3 m3 n3 => ?_
      have hl := natB_len10 (n := n / 128) (by omega)
      refine rx_append (m := (natB (n / 128)).length) uBs uBs (elemT_of u8E) (o2.mod m3 fun _ _ h => h) o3.rd (bv_one _) (by omega) fun s4 w4 o4 m4 n4 => ?_
      rw [← bv_append] at o4
      rw [natB_ge h1] at hK
      have hs2 := m2.size
      have hs3 := m3.size
      refine hK _ _ ?_ ((m2.trans m3).on m4 fun b hb => .inr (n2 b hb).1) fun b hb => ?_
      · have e : (UInt8.ofNat (n % 128 + 128) :: natB (n / 128)).length = 1 + (natB (n / 128)).length := by simp; omega
        rw [e]; exact o4
      · rcases n4 b hb with h5 | h5
        · exact (n2 b h5).1
        · omega

theorem ca_textF {t : List UInt8} {m : Nat} {x : Value} {w : World} {K : Kont} (hx : Rd w 1 x m (bv t)) (hm : m ≤ 1000000000)
    (hK : ∀ s' w', Own w' 5 1 s' (textB t).length (bv (textB t)) → Mod (fun _ => False) w w' → (∀ b, inSl s' b → w.heap.size ≤ b) → K s' w') : Ca Tryz.prog 24 #[x] w K := by
  have hl := hx.len_eq
  obtain ⟨a, c, rfl⟩ := hx.isSl
  apply ca24
  unfold F24
  refine rnS (v := .int .i64 (m : Int)) (w' := w) (by simp [go_sem]) ?_
  refine rvS (v := .int .u64 (m : Int)) (w' := w) (by simp [go_sem, wrapU (n := (m : Int)) (by omega) (by omega)]) ?_
  refine ca_natF m (by omega) fun s2 w2 o2 m2 n2 => ?_
  have hlen := natB_len10 (n := m) (by omega)
  refine rx_append uBs uBs (elemT_of u8E) o2 (hx.mod m2 fun _ _ h => h) (bv_one _) (by omega) fun s3 w3 o3 m3 n3 => ?_
  rw [← bv_append] at o3
  have hs2 := m2.size
  refine hK _ _ ?_ (m2.on m3 fun b hb => .inr (n2 b hb)) fun b hb => ?_
  · unfold textB
    rw [hl, List.length_append, hl]
    exact o3
  · rcases n3 b hb with h5 | h5
    · exact n2 b h5
    · omega
end Go.Proofs
