/- Part of a proof. -/
import Derived.Test.YtgebhcgmckjbbaaGreatI19
set_option linter.all false
namespace Go.Proofs
open Go Go.Vc
attribute [local congr] Ca_congV
theorem uPosI : Tryz.prog.underlying 46 = some (.slice 112) := by kernel_rfl
theorem ePosI : elemOk Tryz.prog 112 4 24 = true := by kernel_rfl
theorem uSdI : Tryz.prog.underlying 47 = some (.slice 119) := by kernel_rfl
theorem eSdI : elemOk Tryz.prog 119 6 40 = true := by kernel_rfl
theorem poVarI (p : Po) (W : World) : ∃ w1 w2, (Instr.alloc 112 true (.tuple #[])).run Tryz.prog W = .ok (.pointer (some ⟨W.heap.size, 0, none⟩)) w1 ∧ (Instr.storeAt 112 (.pointer (some ⟨W.heap.size, 0, none⟩)) (poV p)).run Tryz.prog w1 = .ok () w2 ∧ hp w2 W.heap.size = some (.cells (cellsPo p).toArray 112 (0, 0)) ∧ Mod (fun _ => False) W w2 := by
  obtain ⟨w1, hw1⟩ : ∃ w1, w1 = W.alloc (.cells (cellsPo ⟨0, 0, 0, 0⟩).toArray 112) := ⟨_, rfl⟩
  have m1 : Mod (fun _ => False) W w1 := by rw [hw1]; exact (Mod.refl _ W).alloc _
  have b1 : hp w1 W.heap.size = some (.cells (cellsPo ⟨0, 0, 0, 0⟩).toArray 112 (0, 0)) := by rw [hw1]; simp [go_sem]
  obtain ⟨w2, e2, b2, m2⟩ := (poVar2 (b := p) b1).2
  exact ⟨w1, w2, by rw [hw1]; simp [go_sem, cellsPo], e2, b2, m1.on m2 fun x hx => .inr (by omega)⟩
theorem sdVarI (x : Int × Od) (W : World) : ∃ w1 w2, (Instr.alloc 119 true (.tuple #[])).run Tryz.prog W = .ok (.pointer (some ⟨W.heap.size, 0, none⟩)) w1 ∧ (Instr.storeAt 119 (.pointer (some ⟨W.heap.size, 0, none⟩)) (sdVI x)).run Tryz.prog w1 = .ok () w2 ∧ SdAt w2 W.heap.size x ∧ Mod (fun _ => False) W w2 := by
  obtain ⟨w1, e1, b1, m1⟩ := newSdI W
  obtain ⟨w2, e2, b2, m2⟩ := sdSI (b := x) b1
  exact ⟨w1, w2, e1, e2, b2, m1.on m2 fun x hx => .inr (by omega)⟩
theorem acLdI {a : Ac} {W : World} {p : Nat} (h : hp W p = some (.cells (cellsAc a).toArray 92 (0, 0))) : (Instr.loadAt 92 (.pointer (some ⟨p, 0, none⟩))).run Tryz.prog W = .ok (acV a) W := (acVar2 (b := ⟨0, 0, false, false⟩) h).1
theorem poLdI {a : Po} {W : World} {p : Nat} (h : hp W p = some (.cells (cellsPo a).toArray 112 (0, 0))) : (Instr.loadAt 112 (.pointer (some ⟨p, 0, none⟩))).run Tryz.prog W = .ok (poV a) W := (poVar2 (b := ⟨0, 0, 0, 0⟩) h).1
theorem sdLdI {a : Int × Od} {W : World} {p : Nat} (h : SdAt W p a) : (Instr.loadAt 119 (.pointer (some ⟨p, 0, none⟩))).run Tryz.prog W = .ok (sdVI a) W := sdLI h
set_option maxRecDepth 10000 in
theorem ca_takenAc {w : World} {K : Kont} {r most : Nat} {v fv : Value} {l : List UInt8} {s : Rs} {f : Rs → Ac × Rs} {Inv : World → Rs → Prop} (hI : Inv w s) (hat : ∀ W t, Inv W t → RdrAt W r v l t) (hto : ∀ W W' t t', Inv W t → RdrAt W' r v l t' → Mod (fun b => b = r) W W' → Inv W' t')
    (hmd : ∀ W W' t (F : Nat → Prop), Inv W t → Mod F W W' → (∀ y, F y → w.heap.size ≤ y) → Inv W' t)
    (hcall : ∀ W t (K' : Kont), Inv W t → (∀ W', Inv W' (f t).2 → Mod (fun b => b = r) W W' → K' (acV (f t).1) W') → callV Tryz.prog fv [] W K') (hmost : most ≤ 100000)
    (hK : ∀ sl w', Own w' 92 4 sl (rsList l f most s).1.length ((rsList l f most s).1.flatMap cellsAc) → Inv w' (rsList l f most s).2 → Mod (fun b => b = r) w w' → (∀ y, inSl sl y → w.heap.size ≤ y) → K sl w') :
    Ca Tryz.prog 63 #[rdV r, .int .u64 most, fv] w K := by
  apply ca63
  unfold F63
  have hrl : r < w.heap.size := (hat _ _ hI).lt
  obtain ⟨w1, e1, b1, m1⟩ := boxRd r w
  obtain ⟨u, hu⟩ : ∃ u, u = w.heap.size := ⟨_, rfl⟩
  rw [← hu] at e1 b1
  refine rvS e1 (rvS (rvF _ _) (rvS (rvL b1) ?_))
  have i1 := hmd _ _ _ _ hI m1 (fun _ h => h.elim)
  refine ca_small (hat _ _ i1) (most := most) (by omega) fun w2 r2 m2 => ?_
  have i2 := hto _ _ _ _ i1 r2 m2
  have b2 : RdVar w2 u r := m2.hpk b1 (by omega)
  have M2 : Mod (fun b => b = r) w w2 := (m1.mono fun _ _ h => h.elim).trans m2
  have hnm : (rsSmall l most s).1 ≤ most := rsSmall_most
  have hlist : rsList l f most s = rsTake l f (rsSmall l most s).1 [] (rsSmall l most s).2 := rfl
  obtain ⟨n, hn⟩ : ∃ n, n = (rsSmall l most s).1 := ⟨_, rfl⟩
  obtain ⟨s1, hs1⟩ : ∃ s1, s1 = (rsSmall l most s).2 := ⟨_, rfl⟩
  rw [← hn] at hnm ⊢
  rw [← hs1] at i2
  rw [← hn, ← hs1] at hlist
  rw [hlist] at hK
  refine loopV (fun st W => ∃ (i : Nat) (acc : List (Ac)) (sl : Value) (t : Rs), i ≤ n ∧ acc.length = i ∧ st = (sl, .int .u64 i, ()) ∧ Inv W t ∧ Own W 92 4 sl acc.length (acc.flatMap cellsAc) ∧ (∀ y, inSl sl y → u < y) ∧ rsTake l f n [] s1 = rsTake l f (n - i) acc t ∧ RdVar W u r ∧ Mod (fun b => b = r) w W)
    (fun st _ => match st.2.1 with | .int _ i => n - i.toNat | _ => 0) ⟨0, [], nilV, s1, by omega, rfl, rfl, i2, Own.nil _ _ _, fun y hy => (by cases hy), rfl, b2, M2⟩ ?_
  rintro ⟨_, _⟩ W ⟨i, acc, sl, t, hi, hal, ⟨⟩, iW, oW, nW, hT, bW, MW⟩ KN hKN
  unfold L63_1
  intro _
  refine rvS (v := .bool (decide (i < n))) (w' := W) (by simp [go_sem]) ?_
  by_cases hlt : i < n
  · rw [ifB_bool, if_pos (by simpa using hlt)]
    refine hcall W t _ iW fun W1 iW1 mW1 => ?_
    have oW1 := oW.mod mW1 fun y hy e => by have := nW y hy; omega
    have bW1 : RdVar W1 u r := mW1.hpk bW (by omega)
    have hu1 := lt_of_heap bW1
    obtain ⟨W2, W3, e2, e3, b3, m3⟩ := acVar (f t).1 W1
    refine rvS e2 (ruS e3 ?_)
    have iW3 := hmd _ _ _ _ iW1 m3 (fun _ h => h.elim)
    have bW3 : RdVar W3 u r := m3.hpk bW1 id
    have oW3 := oW1.mod m3 fun _ _ h => h
    have rt := hat _ _ iW3
    have hle := rt.le
    have hstep : rsTake l f (n - i) acc t = if l.length - (f t).2.at_ = 0 ∧ rsDone l (f t).2 ≠ 0 then ([], (f t).2) else rsTake l f (n - (i + 1)) (acc ++ [(f t).1]) (f t).2 := by
      rw [show n - i = (n - (i + 1)) + 1 by omega]; rfl
    rw [hstep] at hT
    refine JoinW.at (fun st W' => st = (.bool (decide (l.length - (f t).2.at_ = 0 ∧ rsDone l (f t).2 ≠ 0)), ()) ∧ Mod (fun _ => False) W3 W') ?_ ?_
    · refine rvS (rvF _ _) (rvS (rvL bW3) ?_)
      refine ca_rleft rt fun W4 m4 => ?_
      by_cases h0 : l.length - (f t).2.at_ = 0
      · rw [h0]
        refine rvS (v := .bool true) (w' := W4) (by simp [go_sem]) ?_
        rw [ifB_bool, if_pos rfl]
        have bW4 : RdVar W4 u r := m4.hpk bW3 id
        refine rvS (rvF _ _) (rvS (rvL bW4) ?_)
        refine ca_done (rt.mod m4 id fun _ _ h => h) fun W5 m5 => ?_
        refine rvS (v := .bool (decide (rsDone l (f t).2 ≠ 0))) (w' := W5) (by simp [go_sem]; try rw [Bool.eq_iff_iff]; simp) ?_
        exact ⟨by simp, m4.trans m5⟩
      · have h0' : ¬ ((l.length - (f t).2.at_ : Nat) : Int) = 0 := by omega
        refine rvS (v := .bool false) (w' := W4) (by simp [go_sem, h0']; try omega) ?_
        rw [ifB_bool, if_neg Bool.false_ne_true]
        exact ⟨by simp [h0], m4⟩
    rintro _ W6 ⟨rfl, m6⟩
    unfold J63_0
    intro _
    have iW6 := hmd _ _ _ _ iW3 m6 (fun _ h => h.elim)
    have M6 := ((MW.trans mW1).on m3 fun _ h => h.elim).on m6 fun _ h => h.elim
    have bW6 : RdVar W6 u r := m6.hpk bW3 id
    have hu6 := lt_of_heap bW6
    by_cases hd : l.length - (f t).2.at_ = 0 ∧ rsDone l (f t).2 ≠ 0
    · rw [if_pos hd] at hT
      rw [hT] at hK
      rw [ifB_bool, if_pos (by simpa using hd)]
      exact hK nilV W6 (Own.nil _ _ _) iW6 M6 fun y hy => (by cases hy)
    · rw [if_neg hd] at hT
      rw [ifB_bool, if_neg (by simpa using hd)]
      refine rvS (acLdI (m6.hpk b3 id)) ?_
      refine pushV1 (x := (f t).1) (f := cellsAc) uAcs (elemT_of eAcc) (fun _ => rfl) rfl rfl (oW3.mod m6 fun _ _ h => h) (by rw [hal]; omega) (by omega) fun sl' W7 o7 m7 n7 => ?_
      refine rvS (v := .int .u64 ((i + 1 : Nat) : Int)) (w' := W7) (by simp [go_sem]; rw [wrapU (by omega) (by omega)]) ?_
      refine hKN _ _ ⟨i + 1, acc ++ [(f t).1], sl', (f t).2, by omega, by simp [hal], rfl, hmd _ _ _ _ iW6 m7 (fun y hy => by have := nW y hy; omega), o7, fun y hy => ?_, hT, m7.hpk bW6 fun hc => (by have := nW u hc; omega), M6.on m7 fun y hy => .inr (by have := nW y hy; omega)⟩ (by show n - (((i + 1 : Nat) : Int)).toNat < n - ((i : Int)).toNat; omega)
      rcases n7 y hy with h' | h'
      · exact nW y h'
      · omega
  · rw [ifB_bool, if_neg (by simpa using hlt)]
    obtain rfl : i = n := by omega
    rw [Nat.sub_self] at hT
    have hT' : rsTake l f i [] s1 = (acc, t) := hT
    rw [hT'] at hK
    exact hK _ W oW iW MW fun y hy => by have := nW y hy; omega
set_option maxRecDepth 10000 in
theorem ca_takenPo {w : World} {K : Kont} {r most : Nat} {v fv : Value} {l : List UInt8} {s : Rs} {f : Rs → Po × Rs} {Inv : World → Rs → Prop} (hI : Inv w s) (hat : ∀ W t, Inv W t → RdrAt W r v l t) (hto : ∀ W W' t t', Inv W t → RdrAt W' r v l t' → Mod (fun b => b = r) W W' → Inv W' t')
    (hmd : ∀ W W' t (F : Nat → Prop), Inv W t → Mod F W W' → (∀ y, F y → w.heap.size ≤ y) → Inv W' t)
    (hcall : ∀ W t (K' : Kont), Inv W t → (∀ W', Inv W' (f t).2 → Mod (fun b => b = r) W W' → K' (poV (f t).1) W') → callV Tryz.prog fv [] W K') (hmost : most ≤ 100000)
    (hK : ∀ sl w', Own w' 112 4 sl (rsList l f most s).1.length ((rsList l f most s).1.flatMap cellsPo) → Inv w' (rsList l f most s).2 → Mod (fun b => b = r) w w' → (∀ y, inSl sl y → w.heap.size ≤ y) → K sl w') :
    Ca Tryz.prog 70 #[rdV r, .int .u64 most, fv] w K := by
  apply ca70
  unfold F70
  have hrl : r < w.heap.size := (hat _ _ hI).lt
  obtain ⟨w1, e1, b1, m1⟩ := boxRd r w
  obtain ⟨u, hu⟩ : ∃ u, u = w.heap.size := ⟨_, rfl⟩
  rw [← hu] at e1 b1
  refine rvS e1 (rvS (rvF _ _) (rvS (rvL b1) ?_))
  have i1 := hmd _ _ _ _ hI m1 (fun _ h => h.elim)
  refine ca_small (hat _ _ i1) (most := most) (by omega) fun w2 r2 m2 => ?_
  have i2 := hto _ _ _ _ i1 r2 m2
  have b2 : RdVar w2 u r := m2.hpk b1 (by omega)
  have M2 : Mod (fun b => b = r) w w2 := (m1.mono fun _ _ h => h.elim).trans m2
  have hnm : (rsSmall l most s).1 ≤ most := rsSmall_most
  have hlist : rsList l f most s = rsTake l f (rsSmall l most s).1 [] (rsSmall l most s).2 := rfl
  obtain ⟨n, hn⟩ : ∃ n, n = (rsSmall l most s).1 := ⟨_, rfl⟩
  obtain ⟨s1, hs1⟩ : ∃ s1, s1 = (rsSmall l most s).2 := ⟨_, rfl⟩
  rw [← hn] at hnm ⊢
  rw [← hs1] at i2
  rw [← hn, ← hs1] at hlist
  rw [hlist] at hK
  refine loopV (fun st W => ∃ (i : Nat) (acc : List (Po)) (sl : Value) (t : Rs), i ≤ n ∧ acc.length = i ∧ st = (sl, .int .u64 i, ()) ∧ Inv W t ∧ Own W 112 4 sl acc.length (acc.flatMap cellsPo) ∧ (∀ y, inSl sl y → u < y) ∧ rsTake l f n [] s1 = rsTake l f (n - i) acc t ∧ RdVar W u r ∧ Mod (fun b => b = r) w W)
    (fun st _ => match st.2.1 with | .int _ i => n - i.toNat | _ => 0) ⟨0, [], nilV, s1, by omega, rfl, rfl, i2, Own.nil _ _ _, fun y hy => (by cases hy), rfl, b2, M2⟩ ?_
  rintro ⟨_, _⟩ W ⟨i, acc, sl, t, hi, hal, ⟨⟩, iW, oW, nW, hT, bW, MW⟩ KN hKN
  unfold L70_1
  intro _
  refine rvS (v := .bool (decide (i < n))) (w' := W) (by simp [go_sem]) ?_
  by_cases hlt : i < n
  · rw [ifB_bool, if_pos (by simpa using hlt)]
    refine hcall W t _ iW fun W1 iW1 mW1 => ?_
    have oW1 := oW.mod mW1 fun y hy e => by have := nW y hy; omega
    have bW1 : RdVar W1 u r := mW1.hpk bW (by omega)
    have hu1 := lt_of_heap bW1
    obtain ⟨W2, W3, e2, e3, b3, m3⟩ := poVarI (f t).1 W1
    refine rvS e2 (ruS e3 ?_)
    have iW3 := hmd _ _ _ _ iW1 m3 (fun _ h => h.elim)
    have bW3 : RdVar W3 u r := m3.hpk bW1 id
    have oW3 := oW1.mod m3 fun _ _ h => h
    have rt := hat _ _ iW3
    have hle := rt.le
    have hstep : rsTake l f (n - i) acc t = if l.length - (f t).2.at_ = 0 ∧ rsDone l (f t).2 ≠ 0 then ([], (f t).2) else rsTake l f (n - (i + 1)) (acc ++ [(f t).1]) (f t).2 := by
      rw [show n - i = (n - (i + 1)) + 1 by omega]; rfl
    rw [hstep] at hT
    refine JoinW.at (fun st W' => st = (.bool (decide (l.length - (f t).2.at_ = 0 ∧ rsDone l (f t).2 ≠ 0)), ()) ∧ Mod (fun _ => False) W3 W') ?_ ?_
    · refine rvS (rvF _ _) (rvS (rvL bW3) ?_)
      refine ca_rleft rt fun W4 m4 => ?_
      by_cases h0 : l.length - (f t).2.at_ = 0
      · rw [h0]
        refine rvS (v := .bool true) (w' := W4) (by simp [go_sem]) ?_
        rw [ifB_bool, if_pos rfl]
        have bW4 : RdVar W4 u r := m4.hpk bW3 id
        refine rvS (rvF _ _) (rvS (rvL bW4) ?_)
        refine ca_done (rt.mod m4 id fun _ _ h => h) fun W5 m5 => ?_
        refine rvS (v := .bool (decide (rsDone l (f t).2 ≠ 0))) (w' := W5) (by simp [go_sem]; try rw [Bool.eq_iff_iff]; simp) ?_
        exact ⟨by simp, m4.trans m5⟩
      · have h0' : ¬ ((l.length - (f t).2.at_ : Nat) : Int) = 0 := by omega
        refine rvS (v := .bool false) (w' := W4) (by simp [go_sem, h0']; try omega) ?_
        rw [ifB_bool, if_neg Bool.false_ne_true]
        exact ⟨by simp [h0], m4⟩
    rintro _ W6 ⟨rfl, m6⟩
    unfold J70_0
    intro _
    have iW6 := hmd _ _ _ _ iW3 m6 (fun _ h => h.elim)
    have M6 := ((MW.trans mW1).on m3 fun _ h => h.elim).on m6 fun _ h => h.elim
    have bW6 : RdVar W6 u r := m6.hpk bW3 id
    have hu6 := lt_of_heap bW6
    by_cases hd : l.length - (f t).2.at_ = 0 ∧ rsDone l (f t).2 ≠ 0
    · rw [if_pos hd] at hT
      rw [hT] at hK
      rw [ifB_bool, if_pos (by simpa using hd)]
      exact hK nilV W6 (Own.nil _ _ _) iW6 M6 fun y hy => (by cases hy)
    · rw [if_neg hd] at hT
      rw [ifB_bool, if_neg (by simpa using hd)]
      refine rvS (poLdI (m6.hpk b3 id)) ?_
      refine pushV1 (x := (f t).1) (f := cellsPo) uPosI (elemT_of ePosI) (fun _ => rfl) rfl rfl (oW3.mod m6 fun _ _ h => h) (by rw [hal]; omega) (by omega) fun sl' W7 o7 m7 n7 => ?_
      refine rvS (v := .int .u64 ((i + 1 : Nat) : Int)) (w' := W7) (by simp [go_sem]; rw [wrapU (by omega) (by omega)]) ?_
      refine hKN _ _ ⟨i + 1, acc ++ [(f t).1], sl', (f t).2, by omega, by simp [hal], rfl, hmd _ _ _ _ iW6 m7 (fun y hy => by have := nW y hy; omega), o7, fun y hy => ?_, hT, m7.hpk bW6 fun hc => (by have := nW u hc; omega), M6.on m7 fun y hy => .inr (by have := nW y hy; omega)⟩ (by show n - (((i + 1 : Nat) : Int)).toNat < n - ((i : Int)).toNat; omega)
      rcases n7 y hy with h' | h'
      · exact nW y h'
      · omega
  · rw [ifB_bool, if_neg (by simpa using hlt)]
    obtain rfl : i = n := by omega
    rw [Nat.sub_self] at hT
    have hT' : rsTake l f i [] s1 = (acc, t) := hT
    rw [hT'] at hK
    exact hK _ W oW iW MW fun y hy => by have := nW y hy; omega
set_option maxRecDepth 10000 in
theorem ca_takenOd {w : World} {K : Kont} {r most : Nat} {v fv : Value} {l : List UInt8} {s : Rs} {f : Rs → (Int × Od) × Rs} {Inv : World → Rs → Prop} (hI : Inv w s) (hat : ∀ W t, Inv W t → RdrAt W r v l t) (hto : ∀ W W' t t', Inv W t → RdrAt W' r v l t' → Mod (fun b => b = r) W W' → Inv W' t')
    (hmd : ∀ W W' t (F : Nat → Prop), Inv W t → Mod F W W' → (∀ y, F y → w.heap.size ≤ y) → Inv W' t)
    (hcall : ∀ W t (K' : Kont), Inv W t → (∀ W', Inv W' (f t).2 → Mod (fun b => b = r) W W' → K' (sdVI (f t).1) W') → callV Tryz.prog fv [] W K') (hmost : most ≤ 100000)
    (hK : ∀ sl w', Own w' 119 6 sl (rsList l f most s).1.length ((rsList l f most s).1.flatMap sdOC) → Inv w' (rsList l f most s).2 → Mod (fun b => b = r) w w' → (∀ y, inSl sl y → w.heap.size ≤ y) → K sl w') :
    Ca Tryz.prog 72 #[rdV r, .int .u64 most, fv] w K := by
  apply ca72
  unfold F72
  have hrl : r < w.heap.size := (hat _ _ hI).lt
  obtain ⟨w1, e1, b1, m1⟩ := boxRd r w
  obtain ⟨u, hu⟩ : ∃ u, u = w.heap.size := ⟨_, rfl⟩
  rw [← hu] at e1 b1
  refine rvS e1 (rvS (rvF _ _) (rvS (rvL b1) ?_))
  have i1 := hmd _ _ _ _ hI m1 (fun _ h => h.elim)
  refine ca_small (hat _ _ i1) (most := most) (by omega) fun w2 r2 m2 => ?_
  have i2 := hto _ _ _ _ i1 r2 m2
  have b2 : RdVar w2 u r := m2.hpk b1 (by omega)
  have M2 : Mod (fun b => b = r) w w2 := (m1.mono fun _ _ h => h.elim).trans m2
  have hnm : (rsSmall l most s).1 ≤ most := rsSmall_most
  have hlist : rsList l f most s = rsTake l f (rsSmall l most s).1 [] (rsSmall l most s).2 := rfl
  obtain ⟨n, hn⟩ : ∃ n, n = (rsSmall l most s).1 := ⟨_, rfl⟩
  obtain ⟨s1, hs1⟩ : ∃ s1, s1 = (rsSmall l most s).2 := ⟨_, rfl⟩
  rw [← hn] at hnm ⊢
  rw [← hs1] at i2
  rw [← hn, ← hs1] at hlist
  rw [hlist] at hK
  refine loopV (fun st W => ∃ (i : Nat) (acc : List ((Int × Od))) (sl : Value) (t : Rs), i ≤ n ∧ acc.length = i ∧ st = (sl, .int .u64 i, ()) ∧ Inv W t ∧ Own W 119 6 sl acc.length (acc.flatMap sdOC) ∧ (∀ y, inSl sl y → u < y) ∧ rsTake l f n [] s1 = rsTake l f (n - i) acc t ∧ RdVar W u r ∧ Mod (fun b => b = r) w W)
    (fun st _ => match st.2.1 with | .int _ i => n - i.toNat | _ => 0) ⟨0, [], nilV, s1, by omega, rfl, rfl, i2, Own.nil _ _ _, fun y hy => (by cases hy), rfl, b2, M2⟩ ?_
  rintro ⟨_, _⟩ W ⟨i, acc, sl, t, hi, hal, ⟨⟩, iW, oW, nW, hT, bW, MW⟩ KN hKN
  unfold L72_1
  intro _
  refine rvS (v := .bool (decide (i < n))) (w' := W) (by simp [go_sem]) ?_
  by_cases hlt : i < n
  · rw [ifB_bool, if_pos (by simpa using hlt)]
    refine hcall W t _ iW fun W1 iW1 mW1 => ?_
    have oW1 := oW.mod mW1 fun y hy e => by have := nW y hy; omega
    have bW1 : RdVar W1 u r := mW1.hpk bW (by omega)
    have hu1 := lt_of_heap bW1
    obtain ⟨W2, W3, e2, e3, b3, m3⟩ := sdVarI (f t).1 W1
    refine rvS e2 (ruS e3 ?_)
    have iW3 := hmd _ _ _ _ iW1 m3 (fun _ h => h.elim)
    have bW3 : RdVar W3 u r := m3.hpk bW1 id
    have oW3 := oW1.mod m3 fun _ _ h => h
    have rt := hat _ _ iW3
    have hle := rt.le
    have hstep : rsTake l f (n - i) acc t = if l.length - (f t).2.at_ = 0 ∧ rsDone l (f t).2 ≠ 0 then ([], (f t).2) else rsTake l f (n - (i + 1)) (acc ++ [(f t).1]) (f t).2 := by
      rw [show n - i = (n - (i + 1)) + 1 by omega]; rfl
    rw [hstep] at hT
    refine JoinW.at (fun st W' => st = (.bool (decide (l.length - (f t).2.at_ = 0 ∧ rsDone l (f t).2 ≠ 0)), ()) ∧ Mod (fun _ => False) W3 W') ?_ ?_
    · refine rvS (rvF _ _) (rvS (rvL bW3) ?_)
      refine ca_rleft rt fun W4 m4 => ?_
      by_cases h0 : l.length - (f t).2.at_ = 0
      · rw [h0]
        refine rvS (v := .bool true) (w' := W4) (by simp [go_sem]) ?_
        rw [ifB_bool, if_pos rfl]
        have bW4 : RdVar W4 u r := m4.hpk bW3 id
        refine rvS (rvF _ _) (rvS (rvL bW4) ?_)
        refine ca_done (rt.mod m4 id fun _ _ h => h) fun W5 m5 => ?_
        refine rvS (v := .bool (decide (rsDone l (f t).2 ≠ 0))) (w' := W5) (by simp [go_sem]; try rw [Bool.eq_iff_iff]; simp) ?_
        exact ⟨by simp, m4.trans m5⟩
      · have h0' : ¬ ((l.length - (f t).2.at_ : Nat) : Int) = 0 := by omega
        refine rvS (v := .bool false) (w' := W4) (by simp [go_sem, h0']; try omega) ?_
        rw [ifB_bool, if_neg Bool.false_ne_true]
        exact ⟨by simp [h0], m4⟩
    rintro _ W6 ⟨rfl, m6⟩
    unfold J72_0
    intro _
    have iW6 := hmd _ _ _ _ iW3 m6 (fun _ h => h.elim)
    have M6 := ((MW.trans mW1).on m3 fun _ h => h.elim).on m6 fun _ h => h.elim
    have bW6 : RdVar W6 u r := m6.hpk bW3 id
    have hu6 := lt_of_heap bW6
    by_cases hd : l.length - (f t).2.at_ = 0 ∧ rsDone l (f t).2 ≠ 0
    · rw [if_pos hd] at hT
      rw [hT] at hK
      rw [ifB_bool, if_pos (by simpa using hd)]
      exact hK nilV W6 (Own.nil _ _ _) iW6 M6 fun y hy => (by cases hy)
    · rw [if_neg hd] at hT
      rw [ifB_bool, if_neg (by simpa using hd)]
      refine rvS (sdLdI (m6.hpk b3 id)) ?_
      refine pushV1 (x := (f t).1) (f := sdOC) uSdI (elemT_of eSdI) (fun _ => rfl) rfl rfl (oW3.mod m6 fun _ _ h => h) (by rw [hal]; omega) (by omega) fun sl' W7 o7 m7 n7 => ?_
      refine rvS (v := .int .u64 ((i + 1 : Nat) : Int)) (w' := W7) (by simp [go_sem]; rw [wrapU (by omega) (by omega)]) ?_
      refine hKN _ _ ⟨i + 1, acc ++ [(f t).1], sl', (f t).2, by omega, by simp [hal], rfl, hmd _ _ _ _ iW6 m7 (fun y hy => by have := nW y hy; omega), o7, fun y hy => ?_, hT, m7.hpk bW6 fun hc => (by have := nW u hc; omega), M6.on m7 fun y hy => .inr (by have := nW y hy; omega)⟩ (by show n - (((i + 1 : Nat) : Int)).toNat < n - ((i : Int)).toNat; omega)
      rcases n7 y hy with h' | h'
      · exact nW y h'
      · omega
  · rw [ifB_bool, if_neg (by simpa using hlt)]
    obtain rfl : i = n := by omega
    rw [Nat.sub_self] at hT
    have hT' : rsTake l f i [] s1 = (acc, t) := hT
    rw [hT'] at hK
    exact hK _ W oW iW MW fun y hy => by have := nW y hy; omega
set_option maxRecDepth 10000 in
theorem ca_takenCt {w : World} {K : Kont} {r most : Nat} {v fv : Value} {l : List UInt8} {s : Rs} {f : Rs → Ct × Rs} {Inv : World → Rs → Prop} (hI : Inv w s) (hat : ∀ W t, Inv W t → RdrAt W r v l t) (hto : ∀ W W' t t', Inv W t → RdrAt W' r v l t' → Mod (fun b => b = r) W W' → Inv W' t')
    (hmd : ∀ W W' t (F : Nat → Prop), Inv W t → Mod F W W' → (∀ y, F y → w.heap.size ≤ y) → Inv W' t)
    (hcall : ∀ W t (K' : Kont), Inv W t → (∀ W', Inv W' (f t).2 → Mod (fun b => b = r) W W' → K' (.agg (ctC (f t).1).toArray) W') → callV Tryz.prog fv [] W K') (hmost : most ≤ 100000)
    (hK : ∀ sl w', Own w' 108 27 sl (rsList l f most s).1.length ((rsList l f most s).1.flatMap ctC) → Inv w' (rsList l f most s).2 → Mod (fun b => b = r) w w' → (∀ y, inSl sl y → w.heap.size ≤ y) → K sl w') :
    Ca Tryz.prog 66 #[rdV r, .int .u64 most, fv] w K := by
  apply ca66
  unfold F66
  have hrl : r < w.heap.size := (hat _ _ hI).lt
  obtain ⟨w1, e1, b1, m1⟩ := boxRd r w
  obtain ⟨u, hu⟩ : ∃ u, u = w.heap.size := ⟨_, rfl⟩
  rw [← hu] at e1 b1
  refine rvS e1 (rvS (rvF _ _) (rvS (rvL b1) ?_))
  have i1 := hmd _ _ _ _ hI m1 (fun _ h => h.elim)
  refine ca_small (hat _ _ i1) (most := most) (by omega) fun w2 r2 m2 => ?_
  have i2 := hto _ _ _ _ i1 r2 m2
  have b2 : RdVar w2 u r := m2.hpk b1 (by omega)
  have M2 : Mod (fun b => b = r) w w2 := (m1.mono fun _ _ h => h.elim).trans m2
  have hnm : (rsSmall l most s).1 ≤ most := rsSmall_most
  have hlist : rsList l f most s = rsTake l f (rsSmall l most s).1 [] (rsSmall l most s).2 := rfl
  obtain ⟨n, hn⟩ : ∃ n, n = (rsSmall l most s).1 := ⟨_, rfl⟩
  obtain ⟨s1, hs1⟩ : ∃ s1, s1 = (rsSmall l most s).2 := ⟨_, rfl⟩
  rw [← hn] at hnm ⊢
  rw [← hs1] at i2
  rw [← hn, ← hs1] at hlist
  rw [hlist] at hK
  refine loopV (fun st W => ∃ (i : Nat) (acc : List (Ct)) (sl : Value) (t : Rs), i ≤ n ∧ acc.length = i ∧ st = (sl, .int .u64 i, ()) ∧ Inv W t ∧ Own W 108 27 sl acc.length (acc.flatMap ctC) ∧ (∀ y, inSl sl y → u < y) ∧ rsTake l f n [] s1 = rsTake l f (n - i) acc t ∧ RdVar W u r ∧ Mod (fun b => b = r) w W)
    (fun st _ => match st.2.1 with | .int _ i => n - i.toNat | _ => 0) ⟨0, [], nilV, s1, by omega, rfl, rfl, i2, Own.nil _ _ _, fun y hy => (by cases hy), rfl, b2, M2⟩ ?_
  rintro ⟨_, _⟩ W ⟨i, acc, sl, t, hi, hal, ⟨⟩, iW, oW, nW, hT, bW, MW⟩ KN hKN
  unfold L66_1
  intro _
  refine rvS (v := .bool (decide (i < n))) (w' := W) (by simp [go_sem]) ?_
  by_cases hlt : i < n
  · rw [ifB_bool, if_pos (by simpa using hlt)]
    refine hcall W t _ iW fun W1 iW1 mW1 => ?_
    have oW1 := oW.mod mW1 fun y hy e => by have := nW y hy; omega
    have bW1 : RdVar W1 u r := mW1.hpk bW (by omega)
    have hu1 := lt_of_heap bW1
    refine rx_bigA hzCt ?_
    rw [zeroCt]
    have m2' : Mod (fun _ => False) W1 (W1.alloc (.cells (ctC zCt0).toArray tCt)) := (Mod.refl _ W1).alloc _
    have b2' : CtAt (W1.alloc (.cells (ctC zCt0).toArray tCt)) W1.heap.size zCt0 := by show hp _ _ = _; simp [go_sem]
    generalize W1.alloc (.cells (ctC zCt0).toArray tCt) = W2 at m2' b2' ⊢
    refine ctUU (k' := (f t).1) b2' fun W3 b3 m3' => ?_
    have m3 : Mod (fun _ => False) W1 W3 := m2'.on m3' fun y hy => .inr (by omega)
    have iW3 := hmd _ _ _ _ iW1 m3 (fun _ h => h.elim)
    have bW3 : RdVar W3 u r := m3.hpk bW1 id
    have oW3 := oW1.mod m3 fun _ _ h => h
    have rt := hat _ _ iW3
    have hle := rt.le
    have hstep : rsTake l f (n - i) acc t = if l.length - (f t).2.at_ = 0 ∧ rsDone l (f t).2 ≠ 0 then ([], (f t).2) else rsTake l f (n - (i + 1)) (acc ++ [(f t).1]) (f t).2 := by
      rw [show n - i = (n - (i + 1)) + 1 by omega]; rfl
    rw [hstep] at hT
    refine JoinW.at (fun st W' => st = (.bool (decide (l.length - (f t).2.at_ = 0 ∧ rsDone l (f t).2 ≠ 0)), ()) ∧ Mod (fun _ => False) W3 W') ?_ ?_
    · refine rvS (rvF _ _) (rvS (rvL bW3) ?_)
      refine ca_rleft rt fun W4 m4 => ?_
      by_cases h0 : l.length - (f t).2.at_ = 0
      · rw [h0]
        refine rvS (v := .bool true) (w' := W4) (by simp [go_sem]) ?_
        rw [ifB_bool, if_pos rfl]
        have bW4 : RdVar W4 u r := m4.hpk bW3 id
        refine rvS (rvF _ _) (rvS (rvL bW4) ?_)
        refine ca_done (rt.mod m4 id fun _ _ h => h) fun W5 m5 => ?_
        refine rvS (v := .bool (decide (rsDone l (f t).2 ≠ 0))) (w' := W5) (by simp [go_sem]; try rw [Bool.eq_iff_iff]; simp) ?_
        exact ⟨by simp, m4.trans m5⟩
      · have h0' : ¬ ((l.length - (f t).2.at_ : Nat) : Int) = 0 := by omega
        refine rvS (v := .bool false) (w' := W4) (by simp [go_sem, h0']; try omega) ?_
        rw [ifB_bool, if_neg Bool.false_ne_true]
        exact ⟨by simp [h0], m4⟩
    rintro _ W6 ⟨rfl, m6⟩
    unfold J66_0
    intro _
    have iW6 := hmd _ _ _ _ iW3 m6 (fun _ h => h.elim)
    have M6 := ((MW.trans mW1).on m3 fun _ h => h.elim).on m6 fun _ h => h.elim
    have bW6 : RdVar W6 u r := m6.hpk bW3 id
    have hu6 := lt_of_heap bW6
    by_cases hd : l.length - (f t).2.at_ = 0 ∧ rsDone l (f t).2 ≠ 0
    · rw [if_pos hd] at hT
      rw [hT] at hK
      rw [ifB_bool, if_pos (by simpa using hd)]
      exact hK nilV W6 (Own.nil _ _ _) iW6 M6 fun y hy => (by cases hy)
    · rw [if_neg hd] at hT
      rw [ifB_bool, if_neg (by simpa using hd)]
      refine rx_bigS (ctC (f t).1) 26 aCtI nCtI (ctC_lenI _) (At.all (m6.hpk b3 id)) ?_
      refine pushV1 (x := (f t).1) (f := ctC) uCts (elemT_of eCt) (fun _ => ctC_len _) (ctC_oneI _) rfl (oW3.mod m6 fun _ _ h => h) (by rw [hal]; omega) (by omega) fun sl' W7 o7 m7 n7 => ?_
      refine rvS (v := .int .u64 ((i + 1 : Nat) : Int)) (w' := W7) (by simp [go_sem]; rw [wrapU (by omega) (by omega)]) ?_
      refine hKN _ _ ⟨i + 1, acc ++ [(f t).1], sl', (f t).2, by omega, by simp [hal], rfl, hmd _ _ _ _ iW6 m7 (fun y hy => by have := nW y hy; omega), o7, fun y hy => ?_, hT, m7.hpk bW6 fun hc => (by have := nW u hc; omega), M6.on m7 fun y hy => .inr (by have := nW y hy; omega)⟩ (by show n - (((i + 1 : Nat) : Int)).toNat < n - ((i : Int)).toNat; omega)
      rcases n7 y hy with h' | h'
      · exact nW y h'
      · omega
  · rw [ifB_bool, if_neg (by simpa using hlt)]
    obtain rfl : i = n := by omega
    rw [Nat.sub_self] at hT
    have hT' : rsTake l f i [] s1 = (acc, t) := hT
    rw [hT'] at hK
    exact hK _ W oW iW MW fun y hy => by have := nW y hy; omega
end Go.Proofs
namespace Go.Proofs
open Go Go.Vc
attribute [local congr] Ca_congV
def posT (S : Ven) (i : Nat) : List Po := (S.nums.take i).flatMap S.led.holders
def ordT (S : Ven) (i : Nat) : List (Int × Od) := (S.nums.take i).flatMap fun n => (S.bk n).all.map fun o => (n, o)
def bidT (S : Ven) (i : Nat) : List (Int × Od) := (S.nums.take i).flatMap fun n => (S.bd n).map fun o => (n, o)
theorem numT {S : Ven} {i : Nat} (hi : i < S.cal.l.length) : S.nums.take (i + 1) = S.nums.take i ++ [S.cal.l[i].spec.num] := by
  have hl : i < S.nums.length := by unfold Ven.nums; rw [List.length_map]; exact hi
  rw [take_succ' hl]
  simp [Ven.nums]
theorem posT_len {S : Ven} (h : S.led.Ok) (i : Nat) : (posT S i).length ≤ 64 * i := by
  unfold posT
  induction i with
  | zero => simp
  | succ i ih =>
    by_cases hi : i < S.nums.length
    · rw [take_succ' hi, List.flatMap_append, List.length_append]
      have := holders_len h S.nums[i]
      simp only [List.flatMap_cons, List.flatMap_nil, List.append_nil]
      omega
    · rw [List.take_of_length_le (by omega)]
      rw [List.take_of_length_le (by omega)] at ih
      omega
theorem ordT_len {S : Ven} (h : OkO S) (i : Nat) : (ordT S i).length ≤ 200 * i := by
  unfold ordT
  induction i with
  | zero => simp
  | succ i ih =>
    by_cases hi : i < S.nums.length
    · rw [take_succ' hi, List.flatMap_append, List.length_append]
      have h1 := (h.side S.nums[i] true).1
      have h2 := (h.side S.nums[i] false).1
      have h3 : ((S.bk S.nums[i]).all.map fun o => (S.nums[i], o)).length ≤ 200 := by
        rw [List.length_map]; unfold Bk.all; rw [List.length_append]; omega
      simp only [List.flatMap_cons, List.flatMap_nil, List.append_nil]
      omega
    · rw [List.take_of_length_le (by omega)]
      rw [List.take_of_length_le (by omega)] at ih
      omega
theorem bidT_len {S : Ven} (h : OkO S) (i : Nat) : (bidT S i).length ≤ 50 * i := by
  unfold bidT
  induction i with
  | zero => simp
  | succ i ih =>
    by_cases hi : i < S.nums.length
    · rw [take_succ' hi, List.flatMap_append, List.length_append]
      have h1 := h.bdl S.nums[i]
      simp only [List.flatMap_cons, List.flatMap_nil, List.append_nil, List.length_map]
      omega
    · rw [List.take_of_length_le (by omega)]
      rw [List.take_of_length_le (by omega)] at ih
      omega
section
variable {w : World} {K : Kont} {v c l mb md : Nat} {A : List (Int × Nat)} {D : List (Int × Value)} {fp : Pt → Nat → Prop} {S : Ven}
set_option maxRecDepth 10000 in
set_option maxHeartbeats 8000000 in
theorem ca_vstate (h : VenR w v c l mb md A D fp S) (hok : S.Ok)
    (hK : ∀ ss b lo w', SB w' b S.cal.day S.next S.led.fund ss S.led.all S.cal.l (S.nums.flatMap S.led.holders) (S.nums.flatMap fun n => (S.bk n).all.map fun o => (n, o)) (S.nums.flatMap fun n => (S.bd n).map fun o => (n, o)) lo → w.heap.size ≤ lo → Mod (fun _ => False) w w' → w.heap.size ≤ b → K (stV S.cal.day S.next S.led.fund ss) w') :
    Ca Tryz.prog 14 #[vptr v] w K := by
  apply ca14
  unfold F14
  obtain ⟨n0, hn0⟩ : ∃ n0, n0 = w.heap.size := ⟨_, rfl⟩
  have hlay : ∃ w1, w.alloc (.cells #[vptr v] 23) = w1 ∧ w1.heap.size = n0 + 1 ∧ Mod (fun _ => False) w w1 ∧ hp w1 n0 = some (.cells #[vptr v] 23 (0, 0)) := by
    refine ⟨_, rfl, by simp [go_sem, hn0], (Mod.refl _ w).alloc _, ?_⟩
    simp [go_sem, hn0]
  obtain ⟨w1, hw1, hsz1, m1, b1⟩ := hlay
  refine rvS (v := .pointer (some ⟨n0, 0, none⟩)) (w' := w1) (by rw [← hw1, hn0]; rfl) ?_
  clear hw1
  obtain ⟨w2, e2, b2, m2⟩ := newSt w1
  refine rvS e2 ?_
  obtain ⟨p2, hp2⟩ : ∃ p2, p2 = n0 + 1 := ⟨_, rfl⟩
  rw [hsz1, ← hp2] at b2 ⊢
  have hp2l : p2 < w2.heap.size := lt_of_heap b2
  have M2 := m1.trans m2
  have h2 := h.md0 M2
  have g0 := m2.hpk b1 id
  have lv0 : ∀ {W}, hp W n0 = some (.cells #[vptr v] 23 (0, 0)) → (Instr.loadAt 23 (.pointer (some ⟨n0, 0, none⟩))).run Tryz.prog W = .ok (vptr v) W := fun hW => by simp [go_sem, hW, vptr]
  refine rvS (lv0 g0) ?_
  refine ca_vready h2.blk ?_
  refine rvS (v := .bool false) (w' := w2) (by simp [go_sem]) ?_
  rw [ifB_bool, if_neg Bool.false_ne_true]
  refine rvS (lv0 g0) ?_
  simp only [vptr, nilK_ptr]
  refine rvS (fldV 1 (by omega) _) (rvS (ld1 _ h2.blk) ?_)
  refine ca_get h2.led fun w3 m3 => ?_
  have hg0 : S.led.getV 0 = (⟨0, S.led.fund, false, false⟩, 0) := rfl
  rw [hg0]
  refine rvS (by simp [-Int.natCast_add, go_sem] <;> first | exact ⟨rfl, rfl⟩ | exact rfl) ?_
  refine rvS (by simp [-Int.natCast_add, go_sem] <;> first | exact ⟨rfl, rfl⟩ | exact rfl) ?_
  obtain ⟨w4, w5, e4, e5, b5, m5⟩ := acVar ⟨0, S.led.fund, false, false⟩ w3
  obtain ⟨ra, hra⟩ : ∃ ra, ra = w3.heap.size := ⟨_, rfl⟩
  refine rvS e4 (ruS e5 ?_)
  rw [← hra] at b5 ⊢
  have M5 := (M2.trans m3).trans m5
  have h5 := h.md0 M5
  have g5 := m5.hpk (m3.hpk g0 id) id
  have p5 := m5.hpk (m3.hpk b2 id) id
  obtain ⟨lo, hlo⟩ : ∃ lo, lo = w5.heap.size := ⟨_, rfl⟩
  have hra5 : ra < lo := by rw [hlo]; exact lt_of_heap b5
  have hp25 : p2 < lo := by rw [hlo]; exact lt_of_heap p5
  have hledOk : S.led.Ok := hok.led.led
  have hal := hledOk.len
  refine JoinW.at (fun st W => ∃ sb s, st = (.pointer (some ⟨sb, 0, none⟩), ()) ∧ SB W sb S.cal.day S.next S.led.fund (ss0 s) S.led.all [] [] [] [] lo ∧ lo ≤ sb ∧ Mod (fun _ => False) w5 W) ?_ ?_
  · have mdr : Mod (fun _ => False) w5 w5.drew := (Mod.refl _ w5).drew
    have hsu : w5.drew.heap.size = w5.heap.size := rfl
    have hu := h5.md0 mdr
    have gu := mdr.hpk g5 id
    have bu := mdr.hpk b5 id
    generalize w5.drew = u at mdr hsu hu gu bu ⊢
    have fx : ∀ W, Mod (fun _ => False) u W → (Instr.loadAt 2 (.pointer (some ⟨ra, 1, none⟩))).run Tryz.prog W = .ok (.int .i64 S.led.fund) W ∧ (Instr.loadAt 27 (.pointer (some ⟨v, 4, none⟩))).run Tryz.prog W = .ok (.int .u64 S.next) W ∧ (Instr.loadAt 23 (.pointer (some ⟨n0, 0, none⟩))).run Tryz.prog W = .ok (vptr v) W ∧ (Instr.loadAt 62 (.pointer (some ⟨v, 1, none⟩))).run Tryz.prog W = .ok (lptr l) W ∧ (Instr.loadAt 61 (.pointer (some ⟨v, 0, none⟩))).run Tryz.prog W = .ok (cptr c) W := fun W m => by
      have hW := hu.md0 m
      have bW := m.hpk bu id
      exact ⟨by simp [go_sem, bW, cellsAc], ld4 _ hW.blk, lv0 (m.hpk gu id), ld1 _ hW.blk, ld0 _ hW.blk⟩
    
    have fin : ∀ (W : World) (sb : Nat) (s : Value) (K2 : World → Prop), Mod (fun _ => False) u W → hp W sb = some (.cells (stC 0 0 0 (ss0 nilV)).toArray tSt (0, 0)) → lo ≤ sb → Own W 92 4 s S.led.all.length (S.led.all.flatMap cellsAc) → (∀ y, inSl s y → lo ≤ y ∧ y ≠ sb) →
        (∀ W', SB W' sb S.cal.day S.next S.led.fund (ss0 s) S.led.all [] [] [] [] lo → Mod (fun _ => False) w5 W' → K2 W') → ru Tryz.prog (Instr.storeAt tSt (.pointer (some ⟨sb, 0, none⟩)) (stV S.cal.day S.next S.led.fund (ss0 s))) W K2 := by
      intro W sb s K2 m hb hsb ho hs hk
      obtain ⟨sa, sc, hse, -⟩ := ho.isSl
      obtain ⟨W', e', b', m'⟩ := stSt (d := S.cal.day) (n := S.next) (f := S.led.fund) (ss := ss0 s) hb rfl fun i _ _ => by
        unfold ss0
        split
        · exact ⟨_, _, _, hse⟩
        · exact ⟨none, 0, 0, rfl⟩
      refine ruS e' (hk W' ⟨b', fun i hi hj => ?_, fun i j y hi1 hi2 hj1 hj2 h1 h2 => ?_, fun i y hi hj hy => ?_⟩ ((mdr.trans m).on m' fun y hy => .inr (by omega)))
      · have hi' : i = 3 ∨ i = 4 ∨ i = 5 ∨ i = 6 ∨ i = 7 := by omega
        rcases hi' with rfl | rfl | rfl | rfl | rfl
        · exact ho.mod m' fun y hy e => (hs y hy).2 e
        · exact Own.nil _ _ _
        · exact Own.nil _ _ _
        · exact Own.nil _ _ _
        · exact Own.nil _ _ _
      · unfold ss0 at h1 h2
        by_cases hi : i = 3
        · by_cases hj : j = 3
          · rw [hi, hj]
          · rw [if_neg hj] at h2; cases h2
        · rw [if_neg hi] at h1; cases h1
      · unfold ss0 at hy
        by_cases hi3 : i = 3
        · rw [if_pos hi3] at hy; exact hs y hy
        · rw [if_neg hi3] at hy; cases hy
    have rU := fx u (Mod.refl _ _)
    refine rdWS rU.2.2.1 ?_
    simp only [vptr, nilK_ptr]
    refine rdPS (fldV 0 (by omega)) (rdWS rU.2.2.2.2 ?_)
    refine rdWS rU.2.2.1 ?_
    simp only [vptr, nilK_ptr]
    refine rdPS (fldV 4 (by omega)) (rdWS rU.2.1 ?_)
    refine rdPS (v := .pointer (some ⟨ra, 1, none⟩)) (fun _ => by simp [go_sem]) (rdWS rU.1 ?_)
    refine rdWS rU.2.2.1 ?_
    simp only [vptr, nilK_ptr]
    refine rdPS (fldV 1 (by omega)) (rdWS rU.2.2.2.1 ?_)
    refine ⟨?_, ?_⟩
    · refine ca_cday hu.cal ?_
      refine ⟨rU.2.2.2.1, rU.2.2.1, rU.1, rU.2.1, rU.2.2.1, ?_, ?_⟩
      · refine ca_accounts hu.led fun gv u1 ht m1 => ?_
        have r1 := fx u1 m1
        refine ⟨r1.1, r1.2.1, r1.2.2.1, ?_, ?_⟩
        · refine ca_collect ht.m (by omega) fun s u2 o2 m2 n2 => ?_
          have M := m1.trans m2
          have r2 := fx u2 M
          refine ⟨r2.1, r2.2.1, r2.2.2.1, ?_⟩
          obtain ⟨sa, sc, hse, -⟩ := o2.isSl
          refine rdPS (fun W => bldSt _ _ _ _ W ⟨_, _, _, hse⟩) ?_
          obtain ⟨u3, e3, b3, m3'⟩ := newSt u2
          refine rvS e3 ?_
          have r3 := fx u3 (M.trans m3')
          refine ⟨r3.1, r3.2.1, r3.2.2.1, ?_⟩
          have hs2 := m1.size
          have hs3 := m2.size
          exact fin u3 _ s _ (M.trans m3') b3 (by omega) (o2.mod m3' fun _ _ h => h) (fun y hy => ⟨by have := n2 y hy; omega, by have := o2.lt hy; omega⟩) fun W' hW' mW' => ⟨_, s, rfl, hW', by omega, mW'⟩
        · obtain ⟨u2, e2', b2', m2'⟩ := newSt u1
          refine rvS e2' ?_
          have r2 := fx u2 (m1.trans m2')
          refine ⟨r2.1, r2.2.1, r2.2.2.1, ?_⟩
          refine ca_collect (ht.m.mod m2') (by omega) fun s u3 o3 m3' n3 => ?_
          have M := (m1.trans m2').trans m3'
          have r3 := fx u3 M
          refine ⟨r3.1, r3.2.1, r3.2.2.1, ?_⟩
          obtain ⟨sa, sc, hse, -⟩ := o3.isSl
          refine rdPS (fun W => bldSt _ _ _ _ W ⟨_, _, _, hse⟩) ?_
          have hs1 := m1.size
          have hs2 := lt_of_heap b2'
          exact fin u3 _ s _ M (m3'.hpk b2' id) (by omega) o3 (fun y hy => ⟨by have := n3 y hy; omega, by have := n3 y hy; omega⟩) fun W' hW' mW' => ⟨_, s, rfl, hW', by omega, mW'⟩
      · obtain ⟨u2, e2', b2', m2'⟩ := newSt u
        refine rvS e2' ?_
        have r2 := fx u2 m2'
        refine ⟨r2.2.2.2.1, r2.2.2.1, r2.1, r2.2.1, r2.2.2.1, ?_⟩
        refine ca_accounts (hu.md0 m2').led fun gv u1 ht m1 => ?_
        have r1 := fx u1 (m2'.trans m1)
        refine ⟨r1.1, r1.2.1, r1.2.2.1, ?_⟩
        refine ca_collect ht.m (by omega) fun s u3 o3 m3' n3 => ?_
        have M := (m2'.trans m1).trans m3'
        have r3 := fx u3 M
        refine ⟨r3.1, r3.2.1, r3.2.2.1, ?_⟩
        obtain ⟨sa, sc, hse, -⟩ := o3.isSl
        refine rdPS (fun W => bldSt _ _ _ _ W ⟨_, _, _, hse⟩) ?_
        have hs1 := m1.size
        have hs2 := lt_of_heap b2'
        exact fin u3 _ s _ M (m3'.hpk (m1.hpk b2' id) id) (by omega) o3 (fun y hy => ⟨by have := n3 y hy; omega, by have := n3 y hy; omega⟩) fun W' hW' mW' => ⟨_, s, rfl, hW', by omega, mW'⟩
    · obtain ⟨u2, e2', b2', m2'⟩ := newSt u
      refine rvS e2' ?_
      have r2 := fx u2 m2'
      refine ⟨r2.2.2.2.1, r2.2.2.1, r2.1, r2.2.1, r2.2.2.1, r2.2.2.2.2, r2.2.2.1, ?_⟩
      refine ca_cday (hu.md0 m2').cal ?_
      refine ⟨r2.2.2.2.1, r2.2.2.1, r2.1, r2.2.1, r2.2.2.1, ?_⟩
      refine ca_accounts (hu.md0 m2').led fun gv u1 ht m1 => ?_
      have r1 := fx u1 (m2'.trans m1)
      refine ⟨r1.1, r1.2.1, r1.2.2.1, ?_⟩
      refine ca_collect ht.m (by omega) fun s u3 o3 m3' n3 => ?_
      have M := (m2'.trans m1).trans m3'
      have r3 := fx u3 M
      refine ⟨r3.1, r3.2.1, r3.2.2.1, ?_⟩
      obtain ⟨sa, sc, hse, -⟩ := o3.isSl
      refine rdPS (fun W => bldSt _ _ _ _ W ⟨_, _, _, hse⟩) ?_
      have hs1 := m1.size
      have hs2 := lt_of_heap b2'
      exact fin u3 _ s _ M (m3'.hpk (m1.hpk b2' id) id) (by omega) o3 (fun y hy => ⟨by have := n3 y hy; omega, by have := n3 y hy; omega⟩) fun W' hW' mW' => ⟨_, s, rfl, hW', by omega, mW'⟩
  rintro _ w6 ⟨sb, s, rfl, q6, hsb, m6⟩
  unfold J14_12
  intro _
  have hs6 := m6.size
  have h6 := h5.md0 m6
  have g6 := m6.hpk g5 id
  have p6 := m6.hpk p5 id
  have M6 := M5.trans m6
  refine rvS (lv0 g6) ?_
  simp only [vptr, nilK_ptr]
  refine rvS (fldV 0 (by omega) _) (rvS (ld0 _ h6.blk) ?_)
  refine ca_call h6.cal fun gv w7 ht m7 => ?_
  have h7 := h6.md0 m7
  have g7 := m7.hpk g6 id
  have p7 := m7.hpk p6 id
  have q7 := SB.modX q6 m7 fun _ _ h => h
  have M7 := M6.trans m7
  have hfl : ∀ pt y, fp pt y → y < n0 := fun pt y hy => by rw [hn0]; exact h.lt hy
  have hXlo : ∀ {ss : Nat → Value} {W : World} {C : List Ct} {P : List Po} {O B : List (Int × Od)}, SB W sb S.cal.day S.next S.led.fund ss S.led.all C P O B lo → ∀ y, XS ss sb y → lo ≤ y := fun hh y hy => by
    rcases hy with rfl | ⟨i, hi, hj, hy⟩
    · exact hsb
    · exact (hh.nw i y hi hj hy).1
  have hs7 := m7.size
  have hcl : S.cal.l.length ≤ 16 := hok.cal.len
  let I : (Nat → Prop) → Nat → World → Prop := fun X i W => ∃ ss, SB W sb S.cal.day S.next S.led.fund ss S.led.all (S.cal.l.take i) (posT S i) (ordT S i) (bidT S i) lo ∧ ∀ y, X y ↔ XS ss sb y
  delta R14_10
  refine RF_out (X0 := XS (ss0 s) sb) (fv := fun k : Ct => .agg (ctC k).toArray) (asg := fun x W K => rx Tryz.prog (bigA tCt) W fun v w1 => rux Tryz.prog (bigU tCt v x) w1 fun w2 => K v w2) (Pv := PvOf tCt ctC) (xs := S.cal.l) ht hasg_ct hPv_of I (fun _ _ _ => False) ?_ (fun _ _ _ _ _ h => h.elim) (fun y hy => q7.ltX hy) ⟨ss0 s, q7, fun _ => Iff.rfl⟩ ?_ ?_ (fun _ _ _ _ _ h => h.elim)
  · rintro X i W W' H ⟨ss, i1, i2⟩ hm hX
    exact ⟨ss, i1.modX hm fun y hy => hX y ((i2 y).2 hy), i2⟩
  · rintro X i hi W q vv ⟨ss, i1, i2⟩ mW hX hdq hqW ⟨rfl, gq⟩ ⟨rec0, hrec⟩ KN KJ hKN hKJ
    obtain ⟨k, hk⟩ : ∃ k, k = S.cal.l[i] := ⟨_, rfl⟩
    have hk' : k = S.cal.l[i]'hi := hk
    rw [← hk'] at gq
    obtain ⟨n, hn⟩ : ∃ n, n = k.spec.num := ⟨_, rfl⟩
    have hi16 : i < 16 := by have : i < S.cal.l.length := hi; omega
    have hct := take_succ' (l := S.cal.l) hi
    rw [← hk'] at hct
    have hnt := numT (S := S) hi
    have hnk : S.cal.l[i].spec.num = n := by rw [hn, hk']
    rw [hnk] at hnt
    have hX0lo : ∀ y, XS (ss0 s) sb y → lo ≤ y := hXlo q7
    have hW := h7.mod mW fun pt y hy hc => by have := hfl pt y hy; have := hX0lo y hc; omega
    have gW := mW.hpk g7 fun hc => by have := hX0lo _ hc; omega
    have hlX : ∀ y, XS ss sb y → y < q ∧ y ≠ w7.heap.size + 1 ∧ lo ≤ y := fun y hy => by
      have h1 := hX y ((i2 y).2 hy)
      refine ⟨h1.1, ?_, hXlo i1 y hy⟩
      rcases h1.2 with h' | h'
      · have := q7.ltX h'; omega
      · omega
    refine rvS (v := .pointer (some ⟨q, 0, none⟩)) (w' := W) (by simp [go_sem]) (rvS (v := .pointer (some ⟨q, 0, none⟩)) (w' := W) (by simp [go_sem]) ?_)
    refine rvS (v := .int .u32 n) (w' := W) (by simp [go_sem, gq, ctT0, hn]) ?_
    have hlay : ∃ W2, (W.alloc (.cells #[.int .u32 0] 35)).setCell ⟨W.heap.size, 0, none⟩ (.int .u32 n) = W2 ∧ Mod (fun _ => False) W W2 ∧ hp W2 W.heap.size = some (.cells #[.int .u32 n] 35 (0, 0)) :=
      ⟨_, rfl, ((Mod.refl _ W).alloc _).setCell (.inr (Nat.le_refl _)) _ _, by simp [go_sem]⟩
    obtain ⟨W2, hW2, mW2, bn⟩ := hlay
    refine rvS (v := .pointer (some ⟨W.heap.size, 0, none⟩)) (w' := W.alloc (.cells #[.int .u32 0] 35)) (by simp [go_sem]) ?_
    refine ruS (w' := W2) (by rw [← hW2]; simp [go_sem]) ?_
    clear hW2
    obtain ⟨pn, hpn⟩ : ∃ pn, pn = W.heap.size := ⟨_, rfl⟩
    rw [← hpn] at bn ⊢
    have hpnl := lt_of_heap bn
    have i3 := i1.modX mW2 fun _ _ h => h
    have gq2 := mW2.hpk gq id
    have hV2 := hW.md0 mW2
    have g2 := mW2.hpk gW id
    have rc2 := mW2.keep (hrec : hp W _ = _) id
    have hsW2 := mW2.size
    have hn0W : n0 < W.heap.size := lt_of_heap gW
    have hlW : w7.heap.size + 1 < W.heap.size := by omega
    have ln : ∀ {W'}, hp W' pn = some (.cells #[.int .u32 n] 35 (0, 0)) → (Instr.loadAt 35 (.pointer (some ⟨pn, 0, none⟩))).run Tryz.prog W' = .ok (.int .u32 n) W' := fun hh => by simp [go_sem, hh]
    have hnX : ∀ y, XS ss sb y → y ≠ n0 ∧ y ≠ pn ∧ y ≠ w7.heap.size + 1 ∧ ∀ pt, ¬ fp pt y := fun y hy => by
      have h1 := hlX y hy
      have h2 := i1.ltX hy
      exact ⟨by omega, by omega, h1.2.1, fun pt hc => by have := hfl pt y hc; omega⟩
    
    let ST : World → Prop := fun W' => Mod (XS ss sb) W2 W'
    have keep : ∀ {W'}, ST W' → VenR W' v c l mb md A D fp S ∧ hp W' n0 = some (.cells #[vptr v] 23 (0, 0)) ∧ hp W' pn = some (.cells #[.int .u32 n] 35 (0, 0)) ∧ (∃ r, hp W' (w7.heap.size + 1) = some (.loop r)) := fun m => ⟨hV2.mod m fun pt y hy hc => (hnX y hc).2.2.2 pt hy, m.hpk g2 fun hc => (hnX _ hc).1 rfl, m.hpk bn fun hc => (hnX _ hc).2.1 rfl, rec0, m.keep rc2 fun hc => (hnX _ hc).2.2.1 rfl⟩
    have sub : ∀ {ss' : Nat → Value} {W' W'' : World}, W2.heap.size ≤ W'.heap.size → (∀ y, XS ss' sb y → XS ss sb y ∨ W2.heap.size ≤ y) → Mod (XS ss' sb) W' W'' → ST W' → ST W'' := by
      intro ss' W' W'' hle hs m hst
      exact Mod.on (hst : Mod (XS ss sb) W2 W') m fun y hy => hs y hy
    refine rvS (stFld W2 4 (by omega)) (rvS (i3.ld 4 (by omega) (by omega)) ?_)
    refine rx_bigS (ctC k) 26 aCt nCt (ctC_len k) (At.all gq2) ?_
    refine pushX (i := 4) (by omega) (by omega) (c := ctC k) i3 rfl (ctC_len k) (ctC_one k) (by show (S.cal.l.take i).length ≤ _; rw [List.length_take]; omega) (by omega) (LN4 _ _ _ _ _ k) (LC4 _ _ _ _ _ k) fun ss1 W3 q3 m3 n3 => ?_
    have st3 : ST W3 := m3
    have mdr : Mod (fun _ => False) W3 W3.drew := (Mod.refl _ W3).drew
    have q4 := q3.modX mdr fun _ _ h => h
    have st4 : ST W3.drew := st3.trans (mdr.mono fun _ _ h => h.elim)
    have hs4 : W3.drew.heap.size = W3.heap.size := rfl
    generalize W3.drew = W4 at mdr q4 st4 hs4 ⊢
    have hs23 := st4.size
    obtain ⟨hV4, g4, n4, -⟩ := keep st4
    refine rdWS (lv0 g4) ?_
    simp only [vptr, nilK_ptr]
    refine rdPS (fldV 1 (by omega)) (rdWS (ld1 _ hV4.blk) ?_)
    refine rdWS (ln n4) ?_
    refine ca_holders hV4.led (by have := held_len hok.cal hok.led; omega) fun gv5 W5 ht5 m5 => ?_
    have q5 := q4.modX m5 fun _ _ h => h
    have st5 : ST W5 := st4.trans (m5.mono fun _ _ h => h.elim)
    obtain ⟨-, -, -, hrc5⟩ := keep st5
    have hs5 := st5.size
    obtain ⟨H, hH⟩ : ∃ H, H = S.led.holders n := ⟨_, rfl⟩
    rw [← hH] at ht5
    have hHl : H.length ≤ 64 := by rw [hH]; exact holders_len hledOk n
    have hpl := posT_len hledOk i
    delta R14_8
    refine RF_in (l0 := w7.heap.size + 1) (X0 := XS ss1 sb) (fv := poV) (asg := fun x W K => rv Tryz.prog (Instr.alloc 112 true (.tuple #[])) W fun v w1 => ru Tryz.prog (Instr.storeAt 112 v x) w1 fun w2 => K v w2) (Pv := PvOf 112 cellsPo) (xs := H) hrc5 ht5.m (hasg_small VarOk.po) hPv_of
      (fun X j W' => ∃ ss', SB W' sb S.cal.day S.next S.led.fund ss' S.led.all (S.cal.l.take i ++ [k]) (posT S i ++ H.take j) (ordT S i) (bidT S i) lo ∧ ∀ y, X y ↔ XS ss' sb y) (fun _ _ _ => False) ?_ (fun _ _ _ _ _ h => h.elim) (fun y hy => q5.ltX hy) ⟨ss1, by rw [List.take_zero, List.append_nil]; exact q5, fun _ => Iff.rfl⟩ ?_ ?_ (fun _ _ _ h => h.elim)
    · rintro X j W' W'' H' ⟨ss', j1, j2⟩ hm hX'
      exact ⟨ss', j1.modX hm fun y hy => hX' y ((j2 y).2 hy), j2⟩
    · rintro X j hj W6 qv vv ⟨ss', j1, j2⟩ mW6 hX6 hdq6 hqW6 ⟨rfl, gv6⟩ KN2 KJ2 hKN2 hKJ2
      have htk := take_succ' (l := H) hj
      have lo6 : lo ≤ W6.heap.size := by have := mW6.size; omega
      refine rvS (stFld W6 5 (by omega)) (rvS (j1.ld 5 (by omega) (by omega)) ?_)
      have gv6' := gv6
      unfold cellsPo at gv6'
      refine rvS (v := poV H[j]) (w' := W6) (by simp [go_sem, gv6', poV]) ?_
      refine pushX (i := 5) (by omega) (by omega) (c := cellsPo H[j]) j1 rfl rfl rfl (by show (posT S i ++ H.take j).length ≤ _; rw [List.length_append, List.length_take]; omega) lo6 (LN5 _ _ _ _ _ H[j]) (LC5 _ _ _ _ _ H[j]) fun ss2 W7 q7' m7' n7' => ?_
      refine hKN2 (XS ss2 sb) W7 ⟨ss2, by rw [htk, ← List.append_assoc]; exact q7', fun _ => Iff.rfl⟩ (m7'.mono fun y _ hy => (j2 y).2 hy) fun y hy => ⟨(n7' y hy).imp (j2 y).2 id, q7'.ltX hy⟩
    · rintro X W6 ⟨ss2, j1, j2⟩ mW6 hX6
      rw [show H.take H.length = H from List.take_length] at j1
      have s12 : ∀ y, XS ss1 sb y → XS ss sb y ∨ W2.heap.size ≤ y := n3
      have s2 : ∀ y, XS ss2 sb y → XS ss sb y ∨ W2.heap.size ≤ y := fun y hy => by
        rcases (hX6 y ((j2 y).2 hy)).2 with h' | h'
        · exact s12 y h'
        · exact .inr (by omega)
      have st6 : ST W6 := sub hs5 s12 mW6 st5
      unfold A14_9
      simp only [afterK]
      have mdr6 : Mod (fun _ => False) W6 W6.drew := (Mod.refl _ W6).drew
      have q6' := j1.modX mdr6 fun _ _ h => h
      have st7 : ST W6.drew := st6.trans (mdr6.mono fun _ _ h => h.elim)
      generalize W6.drew = W7 at mdr6 q6' st7 ⊢
      obtain ⟨hV7, g7', n7', -⟩ := keep st7
      refine rdWS (lv0 g7') ?_
      simp only [vptr, nilK_ptr]
      have hsome : (calGet S.cal.l n).isSome = true := nums_get.1 (by rw [hn]; exact List.mem_map_of_mem (by rw [hk]; exact List.getElem_mem hi))
      obtain ⟨b, hb, hB⟩ := lkB hV7 (n := n) hsome
      refine rdPS (fldV 2 (by omega)) (rdWS (ld2 _ hV7.blk) ?_)
      refine rdWS (ln n7') ?_
      refine rdX_of (lookBk hV7.mbk hb) ?_
      refine ca_ball hB fun gv8 W8 ht8 m8 => ?_
      have q8 := q6'.modX m8 fun _ _ h => h
      have st8 : ST W8 := st7.trans (m8.mono fun _ _ h => h.elim)
      obtain ⟨-, -, -, hrc8⟩ := keep st8
      have hs8 := st8.size
      obtain ⟨Al, hAl⟩ : ∃ Al, Al = (S.bk n).all := ⟨_, rfl⟩
      have ht8' : TellsM gv8 (Al.map fun o => [odV o]) W8 := by rw [hAl]; exact ht8
      have hAll : Al.length ≤ 200 := by rw [hAl]; exact hB.all.1
      have hol := ordT_len hok.ord i
      delta R14_2
      refine RF_in (l0 := w7.heap.size + 1) (X0 := XS ss2 sb) (fv := odV) (asg := fun x W K => rv Tryz.prog (Instr.alloc tOd true (.tuple #[])) W fun v w1 => ru Tryz.prog (Instr.storeAt tOd v x) w1 fun w2 => K v w2) (Pv := PvOf tOd odC) (xs := Al) hrc8 ht8' (hasg_small VarOk.od) hPv_of
        (fun X j W' => ∃ ss', SB W' sb S.cal.day S.next S.led.fund ss' S.led.all (S.cal.l.take i ++ [k]) (posT S i ++ H) (ordT S i ++ (Al.take j).map fun o => (n, o)) (bidT S i) lo ∧ (∀ y, X y ↔ XS ss' sb y)) (fun _ _ _ => False) ?_ (fun _ _ _ _ _ h => h.elim) (fun y hy => q8.ltX hy) ⟨ss2, by simpa using q8, fun _ => Iff.rfl⟩ ?_ ?_ (fun _ _ _ h => h.elim)
      · rintro X j W' W'' H' ⟨ss', j1, j2⟩ hm hX'
        exact ⟨ss', j1.modX hm fun y hy => hX' y ((j2 y).2 hy), j2⟩
      · rintro X j hj W9 qv vv ⟨ss', j1', j2'⟩ mW9 hX9 hdq9 hqW9 ⟨rfl, gv9⟩ KN2 KJ2 hKN2 hKJ2
        have htk := take_succ' (l := Al) hj
        have lo9 : lo ≤ W9.heap.size := by have := mW9.size; omega
        have n9 := (keep (sub hs8 s2 mW9 st8)).2.2.1
        refine rvS (stFld W9 6 (by omega)) (rvS (j1'.ld 6 (by omega) (by omega)) ?_)
        refine rvS (ln n9) ?_
        refine rvS (ldOd (o := Al[j]) (At.all gv9)) ?_
        refine rvS (bldSd n Al[j] W9) ?_
        refine pushX (i := 6) (by omega) (by omega) (c := sdOC (n, Al[j])) j1' rfl rfl rfl (by show (ordT S i ++ (Al.take j).map _).length ≤ _; rw [List.length_append, List.length_map, List.length_take]; omega) lo9 (LN6 _ _ _ _ _ (n, Al[j])) (LC6 _ _ _ _ _ (n, Al[j])) fun ss3 W10 q10 m10 n10 => ?_
        refine hKN2 (XS ss3 sb) W10 ⟨ss3, by rw [htk, List.map_append, ← List.append_assoc]; exact q10, fun _ => Iff.rfl⟩ (m10.mono fun y _ hy => (j2' y).2 hy) fun y hy => ⟨(n10 y hy).imp (j2' y).2 id, q10.ltX hy⟩
      · rintro X9 W9 ⟨ss3, j1', j2'⟩ mW9 hX9
        rw [show Al.take Al.length = Al from List.take_length] at j1'
        have s3 : ∀ y, XS ss3 sb y → XS ss sb y ∨ W2.heap.size ≤ y := fun y hy => by
          rcases (hX9 y ((j2' y).2 hy)).2 with h' | h'
          · exact s2 y h'
          · exact .inr (by omega)
        have st9 : ST W9 := sub hs8 s2 mW9 st8
        unfold A14_3
        simp only [afterK]
        have mdr9 : Mod (fun _ => False) W9 W9.drew := (Mod.refl _ W9).drew
        have q10 := j1'.modX mdr9 fun _ _ h => h
        have st10 : ST W9.drew := st9.trans (mdr9.mono fun _ _ h => h.elim)
        generalize W9.drew = W10 at mdr9 q10 st10 ⊢
        obtain ⟨hV10, g10, n10, -⟩ := keep st10
        refine rdWS (lv0 g10) ?_
        simp only [vptr, nilK_ptr]
        refine rdPS (fldV 3 (by omega)) (rdWS (ld3 _ hV10.blk) ?_)
        refine rdWS (ln n10) ?_
        refine rdX_of (lookBd hV10.mbd n) ?_
        obtain ⟨Bd, hBd⟩ : ∃ Bd, Bd = S.bd n := ⟨_, rfl⟩
        have hBdl : Bd.length ≤ 50 := by rw [hBd]; exact hok.ord.bdl n
        have hbd10 : OdS W10 (slOf D n) Bd := by rw [hBd]; exact hV10.bd n
        obtain ⟨ba, bc, hbs, -⟩ := hbd10.isSl
        refine rdWS (v := .int .i64 (Bd.length : Int)) (by rw [hbs]; simp [go_sem]) ?_
        have hbl := bidT_len hok.ord i
        have hs10 := st10.size
        refine loopV (fun st W' => ∃ (j : Nat) (ss' : Nat → Value), j ≤ Bd.length ∧ st = (.int .i64 j, ()) ∧ SB W' sb S.cal.day S.next S.led.fund ss' S.led.all (S.cal.l.take i ++ [k]) (posT S i ++ H) (ordT S i ++ Al.map fun o => (n, o)) (bidT S i ++ (Bd.take j).map fun o => (n, o)) lo ∧ (∀ y, XS ss' sb y → XS ss sb y ∨ W2.heap.size ≤ y) ∧ ST W')
          (fun st _ => match st.1 with | .int _ i => Bd.length - i.toNat | _ => 0) ⟨0, ss3, by omega, rfl, by simpa using q10, s3, st10⟩ ?_
        rintro _ W11 ⟨j, ss4, hj, rfl, t1, t2, t3⟩ KM hKM
        unfold L14_0
        intro _
        obtain ⟨hV11, g11, n11, -⟩ := keep t3
        have hbd11 : OdS W11 (slOf D n) Bd := by rw [hBd]; exact hV11.bd n
        have hs11 := t3.size
        by_cases hlt : j < Bd.length
        · have hlt' : (j : Int) < (Bd.length : Int) := by omega
          refine rvS (v := .bool true) (by simp [go_sem, hlt'] <;> first | exact ⟨rfl, rfl⟩ | exact rfl) ?_
          rw [ifB_bool, if_pos rfl]
          obtain ⟨pj, p1, p2'⟩ := odRd hbd11.rd hlt
          refine rvS p1 (rvS p2' ?_)
          obtain ⟨wa, ea, ba', ma⟩ := newOd W11
          refine rvS ea ?_
          obtain ⟨q9, hq9⟩ : ∃ q9, q9 = W11.heap.size := ⟨_, rfl⟩
          rw [← hq9] at ba' ⊢
          obtain ⟨wb, eb, bb, mb'⟩ := setOd (o' := Bd[j]) ba'
          refine ruS eb ?_
          have Mb : Mod (fun _ => False) W11 wb := ma.on mb' fun b hb => .inr (by omega)
          have tb := t1.modX Mb fun _ _ h => h
          have stb : ST wb := t3.trans (Mb.mono fun _ _ h => h.elim)
          have nb := (keep stb).2.2.1
          have hsb' := stb.size
          refine rvS (stFld wb 7 (by omega)) (rvS (tb.ld 7 (by omega) (by omega)) ?_)
          refine rvS (ln nb) ?_
          refine rvS (ldOd (o := Bd[j]) (At.all bb)) ?_
          refine rvS (bldSd n Bd[j] wb) ?_
          refine pushX (i := 7) (by omega) (by omega) (c := sdOC (n, Bd[j])) tb rfl rfl rfl (by show (bidT S i ++ (Bd.take j).map _).length ≤ _; rw [List.length_append, List.length_map, List.length_take]; omega) (by omega) (LN7 _ _ _ _ _ (n, Bd[j])) (LC7 _ _ _ _ _ (n, Bd[j])) fun ss5 wc qc mc nc => ?_
          refine rvS (v := .int .i64 ((j + 1 : Nat) : Int)) (w' := wc) (by simp [go_sem]; rw [wrapI (by omega) (by omega)]) ?_
          refine hKM _ _ ⟨j + 1, ss5, by omega, rfl, by rw [take_succ' hlt, List.map_append, ← List.append_assoc]; exact qc, fun y hy => ?_, sub hsb' t2 mc stb⟩ (by show Bd.length - (((j + 1 : Nat) : Int)).toNat < Bd.length - ((j : Int)).toNat; omega)
          rcases nc y hy with h' | h'
          · exact t2 y h'
          · exact .inr (by omega)
        · obtain rfl : j = Bd.length := by omega
          refine rvS (v := .bool false) (by simp [go_sem] <;> first | exact ⟨rfl, rfl⟩ | exact rfl) ?_
          rw [ifB_bool, if_neg Bool.false_ne_true]
          rw [List.take_length] at t1
          refine hKN (XS ss4 sb) W11 ⟨ss4, ?_, fun _ => Iff.rfl⟩ ((mW2.mono fun _ _ h => h.elim).trans (t3.mono fun y _ hy => (i2 y).2 hy)) fun y hy => ⟨?_, t1.ltX hy⟩
          · have e1 : posT S (i + 1) = posT S i ++ H := by unfold posT; rw [hnt, List.flatMap_append, hH]; simp
            have e2 : ordT S (i + 1) = ordT S i ++ Al.map fun o => (n, o) := by unfold ordT; rw [hnt, List.flatMap_append, hAl]; simp
            have e3 : bidT S (i + 1) = bidT S i ++ Bd.map fun o => (n, o) := by unfold bidT; rw [hnt, List.flatMap_append, hBd]; simp
            rw [hct, e1, e2, e3]
            exact t1
          · rcases t2 y hy with h' | h'
            · exact .inl ((i2 y).2 h')
            · exact .inr (by omega)
  · rintro X W d hd ⟨ss, i1, i2⟩ mW hdef hX
    have i1' : SB W sb S.cal.day S.next S.led.fund ss S.led.all S.cal.l (S.nums.flatMap S.led.holders) (S.nums.flatMap fun n => (S.bk n).all.map fun o => (n, o)) (S.nums.flatMap fun n => (S.bd n).map fun o => (n, o)) lo := by
      have e0 : S.cal.l.length = S.nums.length := by unfold Ven.nums; rw [List.length_map]
      have e1 : posT S S.cal.l.length = S.nums.flatMap S.led.holders := by unfold posT; rw [e0, List.take_length]
      have e2 : ordT S S.cal.l.length = S.nums.flatMap fun n => (S.bk n).all.map fun o => (n, o) := by unfold ordT; rw [e0, List.take_length]
      have e3 : bidT S S.cal.l.length = S.nums.flatMap fun n => (S.bd n).map fun o => (n, o) := by unfold bidT; rw [e0, List.take_length]
      have i1'' : SB W sb S.cal.day S.next S.led.fund ss S.led.all (S.cal.l.take S.cal.l.length) (posT S S.cal.l.length) (ordT S S.cal.l.length) (bidT S S.cal.l.length) lo := i1
      rw [List.take_length, e1, e2, e3] at i1''
      exact i1''
    have hX0lo : ∀ y, XS (ss0 s) sb y → lo ≤ y := hXlo q7
    have pW := mW.hpk p7 fun hc => by have := hX0lo _ hc; omega
    unfold A14_11
    simp only [afterK]
    refine rvS (stLd i1'.at_) ?_
    obtain ⟨W2, e2', b2', m2'⟩ := stSt (d := S.cal.day) (n := S.next) (f := S.led.fund) (ss := ss) pW rfl fun i hi hj => by
      obtain ⟨a, c, hs, -⟩ := (i1'.own i hi hj).isSl
      exact ⟨_, _, _, hs⟩
    refine ruS e2' ?_
    have hdX : ¬ XS ss sb d := fun hc => by
      rcases (hX d ((i2 d).2 hc)).2 with h' | h'
      · have := q7.ltX h'; omega
      · omega
    refine retV1 (m2'.hpk hdef (by omega)) fun W3 m3' => ?_
    refine rdWS (stLd (m3'.hpk b2' (by omega))) ?_
    have hlo5 := M5.size
    refine hK ss sb lo W3 ((i1'.modX m2' fun y hy e => by have := hXlo i1' y hy; omega).modX m3' fun y hy e => hdX (e ▸ hy)) (by omega) ?_ (by omega)
    exact ((M7.on mW fun y hy => .inr (by have := hX0lo y hy; omega)).on m2' fun y hy => .inr (by omega)).on m3' fun y hy => .inr (by omega)
end
end Go.Proofs
namespace Go.Proofs
open Go Go.Vc
def sumQ' (l : List Po) (c : Int) : Int := ((l.filter fun p => decide (p.c = c)).map (·.q)).sum
def sumB' (l : List Po) (c : Int) : Int := ((l.filter fun p => decide (p.c = c)).map (·.b)).sum
theorem sumQ_app (l l' : List Po) (c : Int) : sumQ' (l ++ l') c = sumQ' l c + sumQ' l' c := by simp [sumQ']
theorem sumB_app (l l' : List Po) (c : Int) : sumB' (l ++ l') c = sumB' l c + sumB' l' c := by simp [sumB']
theorem sumQ_one (p : Po) (c : Int) : sumQ' [p] c = if p.c = c then p.q else 0 := by
  unfold sumQ'
  by_cases h : p.c = c
  · rw [if_pos h, List.filter_cons_of_pos (by simpa using h)]; simp
  · rw [if_neg h, List.filter_cons_of_neg (by simpa using h)]; simp
theorem sumB_one (p : Po) (c : Int) : sumB' [p] c = if p.c = c then p.b else 0 := by
  unfold sumB'
  by_cases h : p.c = c
  · rw [if_pos h, List.filter_cons_of_pos (by simpa using h)]; simp
  · rw [if_neg h, List.filter_cons_of_neg (by simpa using h)]; simp
theorem sum_none {l : List Po} {c : Int} (h : ∀ p ∈ l, p.c ≠ c) : sumQ' l c = 0 ∧ sumB' l c = 0 := by
  have : l.filter (fun p => decide (p.c = c)) = [] := List.filter_eq_nil_iff.2 fun p hp => by simpa using h p hp
  simp [sumQ', sumB', this]
structure GoodP (A : List Ac) (p : Po) : Prop where
  c : p.c ≠ 0
  a : p.a ≠ 0
  there : ∃ x ∈ A, x.num = p.a
  some : p.isZ = false
  q : amongB p.q (-MP) MP = true
  b : amongB p.b (-MF) MF = true
structure PA (A : List Ac) : Prop where
  srt : SortA A
  num : ∀ a ∈ A, 0 < a.num ∧ amongB a.cash 0 MF = true
structure FromOk (f : Int) (A : List Ac) (P : List Po) : Prop where
  len : A.length ≤ 64
  fund : amongB f 0 MF = true
  pa : PA A
  tot : f + (A.map (·.cash)).sum ≤ MF
  srt : SortP P
  good : ∀ p ∈ P, GoodP A p
  zero : ∀ c, sumQ' P c = 0 ∧ sumB' P c = 0
theorem amongB_iff' {n lo hi : Int} : amongB n lo hi = true ↔ lo ≤ n ∧ n ≤ hi := by simp [amongB]
theorem FromOk.ok {f : Int} {A : List Ac} {P : List Po} (h : FromOk f A P) (hA : ∀ a ∈ A, 0 ≤ a.num ∧ a.num < 4294967296) (hP : ∀ p ∈ P, 0 ≤ p.c ∧ p.c < 4294967296) : (Led.mk f A P).Ok where
  fund := amongB_iff'.1 h.fund
  sa := h.pa.srt
  sp := h.srt
  len := h.len
  acc := fun a ha => ⟨(h.pa.num a ha).1, (hA a ha).2, amongB_iff'.1 (h.pa.num a ha).2⟩
  pos := fun p hp => by
    have g := h.good p hp
    have u := hP p hp
    have h1 := amongB_iff'.1 g.q
    have h2 := amongB_iff'.1 g.b
    exact ⟨by have := g.c; have := u.1; omega, u.2, g.some, h1.1, h1.2, h2.1, h2.2, g.there⟩
theorem pw_take {α : Type} {R : α → α → Prop} {l : List α} (h : l.Pairwise R) {i : Nat} (hi : i < l.length) {b : α} (hb : b ∈ l.take i) : R b l[i] := by
  obtain ⟨j, hj, rfl⟩ := List.getElem_of_mem hb
  rw [List.length_take] at hj
  rw [List.getElem_take]
  exact List.pairwise_iff_getElem.1 h _ _ _ _ (by omega)
structure AInv (pre : List Ac) (last : Int) : Prop where
  pa : PA pre
  top : ∀ a ∈ pre, a.num ≤ last
  hit : (pre = [] ∧ last = 0) ∨ ∃ a ∈ pre, a.num = last
theorem AInv.nil : AInv [] 0 := ⟨⟨List.Pairwise.nil, by simp⟩, by simp, .inl ⟨rfl, rfl⟩⟩
theorem AInv.pos {pre : List Ac} {last : Int} (h : AInv pre last) : 0 ≤ last := by
  rcases h.hit with ⟨-, rfl⟩ | ⟨a, ha, rfl⟩
  · exact Int.le_refl _
  · have := (h.pa.num a ha).1; omega
theorem AInv.step {pre : List Ac} {last : Int} (h : AInv pre last) {a : Ac} (h1 : last < a.num) (h2 : amongB a.cash 0 MF = true) : AInv (pre ++ [a]) a.num := by
  have h0 := h.pos
  refine ⟨⟨List.pairwise_append.2 ⟨h.pa.srt, List.pairwise_singleton .., fun x hx y hy => ?_⟩, fun x hx => ?_⟩, fun x hx => ?_, .inr ⟨a, by simp, rfl⟩⟩
  · rw [List.mem_singleton] at hy; subst hy
    have := h.top x hx; omega
  · rcases List.mem_append.1 hx with hx | hx
    · exact h.pa.num x hx
    · rw [List.mem_singleton] at hx; subst hx; exact ⟨by omega, h2⟩
  · rcases List.mem_append.1 hx with hx | hx
    · have := h.top x hx; omega
    · rw [List.mem_singleton] at hx; subst hx; omega
theorem AInv.bad {A : List Ac} {i : Nat} (hi : i < A.length) {last : Int} (h : AInv (A.take i) last) (hb : A[i].num ≤ last ∨ amongB A[i].cash 0 MF = false) : ¬ PA A := by
  intro hp
  have hm := hp.num A[i] (List.getElem_mem hi)
  rcases hb with hb | hb
  · rcases h.hit with ⟨-, rfl⟩ | ⟨a, ha, rfl⟩
    · omega
    · have : a.num < A[i].num := pw_take hp.srt hi ha
      omega
  · rw [hm.2] at hb; cases hb
structure PInv (pre : List Po) (lc la q b : Int) : Prop where
  srt : SortP pre
  top : ∀ p ∈ pre, klt (lc, la) p.key = false
  hit : (pre = [] ∧ lc = 0 ∧ la = 0) ∨ ∃ p ∈ pre, p.key = (lc, la)
  q : q = sumQ' pre lc
  b : b = sumB' pre lc
  oth : ∀ c, c ≠ lc → sumQ' pre c = 0 ∧ sumB' pre c = 0
theorem PInv.nil : PInv [] 0 0 0 0 := ⟨List.Pairwise.nil, by simp, .inl ⟨rfl, rfl, rfl⟩, rfl, rfl, fun _ _ => ⟨rfl, rfl⟩⟩
theorem klt_of_le {x y z : Int × Int} (h : klt y x = false) (h' : klt y z = true) : klt x z = true := by
  rcases klt_tri y x with h1 | h1 | h1
  · rw [h1] at h; cases h
  · rw [← h1]; exact h'
  · exact klt_trans h1 h'
theorem PInv.step {pre : List Po} {lc la q b : Int} (h : PInv pre lc la q b) {p : Po} (h1 : klt (lc, la) p.key = true) (h2 : p.c ≠ lc → q = 0 ∧ b = 0) : PInv (pre ++ [p]) p.c p.a (q + p.q) (b + p.b) := by
  have hk : lc ≤ p.c := by rw [klt_iff] at h1; simp only [Po.key] at h1; omega
  have hq : sumQ' pre p.c = q ∧ sumB' pre p.c = b := by
    by_cases e : p.c = lc
    · rw [e]; exact ⟨h.q.symm, h.b.symm⟩
    · obtain ⟨rfl, rfl⟩ := h2 e
      exact h.oth _ e
  refine ⟨List.pairwise_append.2 ⟨h.srt, List.pairwise_singleton .., fun x hx y hy => ?_⟩, fun x hx => ?_, .inr ⟨p, by simp, rfl⟩, ?_, ?_, fun c hc => ?_⟩
  · rw [List.mem_singleton] at hy; subst hy
    exact klt_of_le (h.top x hx) h1
  · rcases List.mem_append.1 hx with hx | hx
    · exact klt_asymm (klt_of_le (h.top x hx) h1)
    · rw [List.mem_singleton] at hx; subst hx; exact klt_irr
  · rw [sumQ_app, sumQ_one, if_pos rfl, hq.1]
  · rw [sumB_app, sumB_one, if_pos rfl, hq.2]
  · rw [sumQ_app, sumB_app, sumQ_one, sumB_one, if_neg (Ne.symm hc), if_neg (Ne.symm hc)]
    by_cases e : c = lc
    · obtain ⟨rfl, rfl⟩ := h2 (fun e' => hc (e.trans e'.symm))
      rw [e, ← h.q, ← h.b]; exact ⟨rfl, rfl⟩
    · have := h.oth c e
      rw [this.1, this.2]; exact ⟨rfl, rfl⟩
theorem PInv.done {P : List Po} {lc la : Int} (h : PInv P lc la 0 0) (c : Int) : sumQ' P c = 0 ∧ sumB' P c = 0 := by
  by_cases e : c = lc
  · rw [e]; exact ⟨h.q.symm, h.b.symm⟩
  · exact h.oth c e
theorem PInv.bad_end {P : List Po} {lc la q b : Int} (h : PInv P lc la q b) (hb : q ≠ 0 ∨ b ≠ 0) : ¬ ∀ c, sumQ' P c = 0 ∧ sumB' P c = 0 := by
  intro hz
  have := hz lc
  rw [← h.q, ← h.b] at this
  omega
theorem PInv.bad_sum {P : List Po} {i : Nat} (hi : i < P.length) {lc la q b : Int} (h : PInv (P.take i) lc la q b) (hc : P[i].c ≠ lc) (hb : q ≠ 0 ∨ b ≠ 0) : ¬ (SortP P ∧ ∀ c, sumQ' P c = 0 ∧ sumB' P c = 0) := by
  rintro ⟨hs, hz⟩
  rcases h.hit with ⟨e, -, -⟩ | ⟨x, hx, ex⟩
  · have h1 := h.q
    have h2 := h.b
    rw [e] at h1 h2
    rcases hb with hb | hb
    · exact hb h1
    · exact hb h2
  · have hlt : klt x.key P[i].key = true := pw_take hs hi hx
    rw [ex, klt_iff] at hlt
    simp only [Po.key] at hlt
    have hd : ∀ p ∈ P.drop i, p.c ≠ lc := by
      intro p hp
      obtain ⟨j, hj, rfl⟩ := List.getElem_of_mem hp
      rw [List.getElem_drop]
      rw [List.length_drop] at hj
      by_cases hj0 : j = 0
      · subst hj0; exact hc
      · have := List.pairwise_iff_getElem.1 hs i (i + j) hi (by omega) (by omega)
        rw [klt_iff] at this
        simp only [Po.key] at this
        omega
    have hn := sum_none hd
    have := hz lc
    rw [← List.take_append_drop i P, sumQ_app, sumB_app, hn.1, hn.2, ← h.q, ← h.b] at this
    omega
theorem PInv.bad_key {A : List Ac} {P : List Po} {i : Nat} (hi : i < P.length) {lc la q b : Int} (h : PInv (P.take i) lc la q b) (hu : 0 ≤ P[i].c ∧ 0 ≤ P[i].a) (hk : klt (lc, la) P[i].key = false) : ¬ (SortP P ∧ ∀ p ∈ P, GoodP A p) := by
  rintro ⟨hs, hg⟩
  have g := hg P[i] (List.getElem_mem hi)
  rcases h.hit with ⟨-, rfl, rfl⟩ | ⟨x, hx, ex⟩
  · rw [Bool.eq_false_iff, Ne, klt_iff] at hk
    simp only [Po.key] at hk
    have := g.c
    omega
  · have hlt : klt x.key P[i].key = true := pw_take hs hi hx
    rw [ex, hk] at hlt; cases hlt
theorem sum_bd2 {l : List Int} {B : Int} (h : ∀ x ∈ l, -B ≤ x ∧ x ≤ B) : -(B * l.length) ≤ l.sum ∧ l.sum ≤ B * l.length := by
  induction l with
  | nil => simp
  | cons x l ih =>
    have h1 := h x List.mem_cons_self
    have h2 := ih fun y hy => h y (List.mem_cons_of_mem _ hy)
    have e : B * ((x :: l).length : Int) = B * l.length + B := by
      simp only [List.length_cons, Int.natCast_add, Int.natCast_one, Int.mul_add, Int.mul_one]
    rw [e]
    simp only [List.sum_cons]
    omega
theorem sum_bdQ {P : List Po} {A : List Ac} (hg : ∀ p ∈ P, GoodP A p) (hl : P.length ≤ 1024) (c : Int) : (-10240000000 ≤ sumQ' P c ∧ sumQ' P c ≤ 10240000000) ∧ (-1024000000000000000 ≤ sumB' P c ∧ sumB' P c ≤ 1024000000000000000) := by
  have hm : ∀ p ∈ P.filter (fun p => decide (p.c = c)), GoodP A p := fun p hp => hg p (List.mem_filter.1 hp).1
  have hl' := List.length_filter_le (fun p : Po => decide (p.c = c)) P
  unfold sumQ' sumB'
  generalize P.filter (fun p => decide (p.c = c)) = L at hm hl'
  have h1 := sum_bd2 (l := L.map (·.q)) (B := 10000000) fun x hx => by
    obtain ⟨p, hp, rfl⟩ := List.mem_map.1 hx
    have := amongB_iff'.1 (hm p hp).q
    simpa [MP] using this
  have h2 := sum_bd2 (l := L.map (·.b)) (B := 1000000000000000) fun x hx => by
    obtain ⟨p, hp, rfl⟩ := List.mem_map.1 hx
    have := amongB_iff'.1 (hm p hp).b
    simpa [MF] using this
  rw [List.length_map] at h1 h2
  omega
end Go.Proofs
