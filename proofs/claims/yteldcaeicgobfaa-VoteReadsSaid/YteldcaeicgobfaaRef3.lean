/-
  The contracts of the document's disk: Sync, Crash, Write.
  Conditions: the memory holds it.
-/
import Derived.Test.YteldcaeicgobfaaRef2
set_option linter.unusedSimpArgs false
set_option linter.unusedVariables false
namespace Go.Proofs
open Go Go.Vc

theorem pE3 : elemOk Try.prog 122 3 32 = true := by kernel_rfl
def DM.rsync (R : DM) : Int × DM :=
  if R.off then (180, R) else if R.step.1 then (0, { R.step.2 with lasts := R.step.2.lasts ++ R.step.2.waits, waits := [] }) else (180, R.step.2)

/-- Into the list of what lasts. -/
theorem RefQ.add {w : World} {r : Nat} {F : Nat → Prop} {R : DM} (h : RefQ w r F R) : ∃ sL sW, hp w r = some (.cells #[sL, sW, .int .i64 R.left, .bool R.armed, .bool R.off] 46 (0, 0)) ∧
    Own w 122 3 sL R.lasts.length (R.lasts.flatMap cellsP) ∧ Own w 122 3 sW R.waits.length (R.waits.flatMap cellsP) ∧
    (∀ b, F b ↔ b = r ∨ inSl sL b ∨ inSl sW b) ∧ ¬ inSl sL r ∧ ¬ inSl sW r ∧ (∀ b, inSl sL b → ¬ inSl sW b) := h.out

set_option maxRecDepth 10000 in
theorem ca_rsync {w : World} {r : Nat} {F : Nat → Prop} {R : DM} {K : Kont} (h : RefQ w r F R) (hn : R.lasts.length + R.waits.length < 4398046511104)
    (hK : ∀ w' F', RefQ w' r F' R.rsync.2 → Stp F w w' F' → K (.int .i64 R.rsync.1) w') : Ca Try.prog 24 #[dptr r] w K := by
  have h0 := h
  obtain ⟨⟨sL, sW, h1, h2, h3, h4, h5, h6, h7⟩, hle⟩ := h
  apply ca24
  unfold F24
  simp [go_sem, dptr, hp_of h1]
  unfold DM.rsync at hK
  cases ho : R.off
  · simp only [ho, Bool.false_eq_true, if_false] at hK ⊢
    refine JoinW.at (fun s W => s = (.bool (!R.step.1), ()) ∧ RefQ W r F R.step.2 ∧ Mod (fun b => b = r) w W) ?_ ?_
    · refine ca_rstep h0 fun w1 q1 m1 => ?_
      simp [go_sem]
      exact ⟨q1, m1⟩
    rintro _ w1 ⟨rfl, q1, m1⟩
    unfold J24_0
    intro _
    have m1' : Mod F w w1 := m1.mono fun b _ e => e ▸ h0.self
    cases hs : R.step.1
    · simp [hs] at hK
      simp [go_sem]
      exact hK _ _ q1 ⟨m1', fun b hb => .inl hb⟩
    · simp [hs] at hK
      obtain ⟨sL, sW, g1, g2, g3, g4, g5, g6, g7⟩ := q1.add
      have e1 := R.step_waits
      have e2 := R.step_lasts
      simp [go_sem, g1]
      refine rx_append (n := R.step.2.lasts.length) (m := R.step.2.waits.length) Try.underlying44 Try.underlying44 (elemT_of pE3) (g2.mod ((Mod.refl (fun _ => False) w1).drew) fun _ _ h => h) (g3.rd.mod ((Mod.refl (fun _ => False) w1).drew) fun _ _ h => h) (cellsP_one _) (by rw [e1, e2]; omega) fun v4 w4 o4 m4 n4 => ?_
      have m4' : Mod (inSl sL) w1 w4 := ((Mod.refl _ w1).drew).trans m4
      have g1' : hp w4 r = some (.cells #[sL, sW, .int .i64 R.step.2.left, .bool R.step.2.armed, .bool R.step.2.off] 46 (0, 0)) := m4'.keep g1 g5
      obtain ⟨va, vc, rfl, hvc⟩ := o4.isSl
      simp [go_sem, g1']
      generalize hv : (Value.slice va (R.step.2.lasts.length + R.step.2.waits.length) vc) = v4 at o4 n4
      have m5 : Mod (fun b => b = r) w4 ((w4.setCell ⟨r, 0, none⟩ v4).setCell ⟨r, 1, none⟩ (.slice none 0 0)) := ((Mod.refl _ w4).setCell (by simp) _ _).setCell (by simp) _ _
      have hrl := q1.lt q1.self
      have hvr : ¬ inSl v4 r := fun hb => by
        rcases n4 r hb with h | h
        · exact g5 h
        · rw [size_drew] at h; omega
      have hfin : Stp F w ((w4.setCell ⟨r, 0, none⟩ v4).setCell ⟨r, 1, none⟩ (.slice none 0 0)) (fun b => b = r ∨ inSl v4 b) := by
        refine ⟨(m1'.on m4' fun b hb => .inl ((g4 b).2 (.inr (.inl hb)))).on m5 fun b hb => .inl (hb ▸ h0.self), fun b hb => ?_⟩
        rcases hb with rfl | hb
        · exact .inl h0.self
        · rcases n4 b hb with h | h
          · exact .inl ((g4 b).2 (.inr (.inl h)))
          · exact .inr (Nat.le_trans m1.size h)
      refine hK _ (fun b => b = r ∨ inSl v4 b) ⟨⟨v4, .slice none 0 0, by show hp _ _ = _; simp [go_sem, g1'], ?_, Own.nil .., fun b => by simp [inSl, slBlk], hvr, by simp [inSl, slBlk], by simp [inSl, slBlk]⟩, q1.left⟩ hfin
      have := o4.mod m5 fun b hb e => hvr (e ▸ hb)
      simpa using this
  · simp [ho] at hK ⊢
    refine JoinW.on ?_
    unfold J24_0
    simp [go_sem]
    exact hK _ _ h0 (Stp.refl _ _)

/-- What a crash leaves, as the document has it. -/
def DM.rcrash (R : DM) (keep : Nat) (torn : List UInt8) : DM :=
  { R with
    lasts := match R.waits[keep]? with
      | some p => if torn = [] then R.lasts ++ R.waits.take keep else R.lasts ++ R.waits.take keep ++ [(p.1, tornSec torn)]
      | none => R.lasts ++ R.waits.take keep
    waits := [], armed := false, off := false }

theorem fill_list (t : List UInt8) (i : Nat) (h1 : i < 128) (h2 : i < t.length) : (t.take i ++ List.replicate (128 - i) 0).set i t[i] = t.take (i + 1) ++ List.replicate (128 - (i + 1)) 0 := by
  have e : List.replicate (128 - i) (0 : UInt8) = 0 :: List.replicate (128 - (i + 1)) 0 := by
    rw [show 128 - i = (128 - (i + 1)) + 1 by omega, List.replicate_succ]
  rw [e, List.set_append_right _ _ (by simp; omega)]
  have e2 : i - (t.take i).length = 0 := by simp; omega
  rw [e2, List.set_cons_zero, List.take_succ_eq_append_getElem h2, List.append_assoc, List.singleton_append]
theorem bv_set (l : List UInt8) (i : Nat) (x : UInt8) : (bv l).set i (.int .u8 x.toNat) = bv (l.set i x) := by simp [bv, List.map_set]
theorem fill_end (t : List UInt8) (i : Nat) (h1 : i ≤ 128) (h2 : i ≤ t.length) (h : ¬ (i < 128 ∧ i < t.length)) : t.take i ++ List.replicate (128 - i) 0 = tornSec t := by
  unfold tornSec
  by_cases h3 : i = 128
  · subst h3
    rw [show 128 - 128 = 128 - t.length by omega]
  · have h4 : i = t.length := by omega
    rw [List.take_of_length_le (by omega), List.take_of_length_le (by omega), h4]

theorem own_take {w : World} {e : TypeId} {sz : Nat} {v : Value} {n : Nat} {cs : List Value} (h : Own w e sz v n cs) {a : Option Addr} {m c k : Nat} (hv : v = .slice a m c) (hk : k ≤ n) : Rd w sz (.slice a k c) k (cs.take (k * sz)) := by
  subst hv
  obtain ⟨hl, ⟨he, rfl⟩ | ⟨b, cap, rest, he, hc, hh, hr⟩⟩ := h
  · have : k = 0 := by omega
    subst this
    exact ⟨by simp, .inl ⟨rfl, _, _, rfl⟩⟩
  · injection he with e1 e2 e3
    subst e1; subst e3
    have hks : k * sz ≤ n * sz := Nat.mul_le_mul_right _ hk
    have hct : (cs.take (k * sz)).length = k * sz := by rw [List.length_take]; omega
    refine ⟨hct, .inr ⟨b, 0, c, rfl, by omega, _, _, _, hh, by rw [hct]; simp; omega, ?_⟩⟩
    simp only [List.drop_zero, List.length_take]
    rw [Nat.min_eq_left (by omega), List.take_append_of_le_length (by omega)]
theorem flat_take {α : Type} (f : α → List Value) (sz : Nat) : ∀ (ws : List α) (k : Nat) (hw : ∀ x ∈ ws, (f x).length = sz), (ws.flatMap f).take (k * sz) = (ws.take k).flatMap f
  | [], k, _ => by simp
  | x :: ws, 0, _ => by simp
  | x :: ws, k + 1, hw => by
    have hx := hw x (by simp)
    rw [List.flatMap_cons, List.take_succ_cons, List.flatMap_cons, ← flat_take f sz ws k fun y hy => hw y (by simp [hy])]
    rw [Nat.succ_mul, Nat.add_comm (k * sz) sz, ← hx, List.take_length_add_append]

set_option maxRecDepth 10000 in
theorem ca_rcrash {w : World} {r : Nat} {F : Nat → Prop} {R : DM} {K : Kont} {keep : Nat} {t : Value} {torn : List UInt8} (h : RefQ w r F R) (hn : R.lasts.length + R.waits.length < 4398046511104) (hk : keep < 9223372036854775808)
    (ht : Rd w 1 t torn.length (bv torn)) (htF : ∀ b, inRd t b → ¬ F b)
    (hK : ∀ w' F', RefQ w' r F' (R.rcrash keep torn) → Stp F w w' F' → K (.int .i64 0) w') : Ca Try.prog 27 #[dptr r, .int .i64 keep, t] w K := by
  have h0 := h
  obtain ⟨sL, sW, h1, h2, h3, h4, h5, h6, h7⟩ := h.add
  obtain ⟨ta, tc, rfl⟩ := ht.isSl
  obtain ⟨wa, wc, rfl, hwc⟩ := h3.isSl
  apply ca27
  unfold F27
  have hk0 : ¬ ((keep : Int) < 0) := by omega
  simp [go_sem, dptr, h1, hk0]
  obtain ⟨N, hN⟩ : ∃ N, min keep R.waits.length = N := ⟨_, rfl⟩
  refine JoinW.at (fun s W => s = (.int .i64 N, ()) ∧ W = w) ?_ ?_
  · split <;> simp <;> omega
  rintro _ W ⟨rfl, rfl⟩
  unfold J27_4
  intro _
  have hNw : N ≤ R.waits.length := by omega
  have hNc : N ≤ wc := by omega
  simp [go_sem, h1, hNc]
  refine rx_append (n := R.lasts.length) (m := N) (news := (R.waits.take N).flatMap cellsP) Try.underlying44 Try.underlying44 (elemT_of pE3) (h2.mod ((Mod.refl (fun _ => False) W).drew) fun _ _ h => h) ?_ (cellsP_one _) (by omega) fun v4 w4 o4 m4 n4 => ?_
  · have := own_take (h3.mod ((Mod.refl (fun _ => False) W).drew) fun _ _ h => h) rfl hNw
    rwa [flat_take cellsP 3 _ _ (cellsP_len _)] at this
  obtain ⟨va, vc, rfl, hvc⟩ := o4.isSl
  have m4' : Mod (inSl sL) W w4 := ((Mod.refl _ W).drew).trans m4
  have g1 : hp w4 r = some (.cells #[sL, .slice wa R.waits.length wc, .int .i64 R.left, .bool R.armed, .bool R.off] 46 (0, 0)) := m4'.keep h1 h5
  have g3 := h3.mod m4' fun b hb hL => h7 b hL hb
  simp [go_sem, g1]
  generalize hv : (Value.slice va (R.lasts.length + N) vc) = v4 at o4 n4
  have hrl := h0.lt h0.self
  have hvr : ¬ inSl v4 r := fun hb => by
    rcases n4 r hb with h | h
    · exact h5 h
    · rw [size_drew] at h; omega
  have m5 : Mod (fun b => b = r) w4 (w4.setCell ⟨r, 0, none⟩ v4) := (Mod.refl (fun b => b = r) w4).setCell (b := r) (.inl (by simp)) _ _
  have k1 : hp (w4.setCell ⟨r, 0, none⟩ v4) r = some (.cells #[v4, .slice wa R.waits.length wc, .int .i64 R.left, .bool R.armed, .bool R.off] 46 (0, 0)) := by simp [go_sem, g1]
  have o5 := o4.mod m5 fun b hb e => hvr (e ▸ hb)
  have k3 := g3.mod m5 fun b hb e => h6 (e ▸ hb)
  have mF : Mod F W (w4.setCell ⟨r, 0, none⟩ v4) := (m4'.mono fun b _ hb => (h4 b).2 (.inr (.inl hb))).on m5 fun b hb => .inl (hb ▸ h0.self)
  have nF : ∀ b, inSl v4 b → F b ∨ W.heap.size ≤ b := fun b hb => (n4 b hb).imp (fun h => (h4 b).2 (.inr (.inl h))) id
  have nW : ∀ b, inSl v4 b → ¬ inSl (.slice wa R.waits.length wc) b := fun b hb hw => by
    rcases n4 b hb with h | h
    · exact h7 b h hw
    · have := h3.lt hw
      rw [size_drew] at h; omega
  generalize w4.setCell ⟨r, 0, none⟩ v4 = w5 at k1 o5 k3 mF
  clear hv g1 g3 m4 m4' m5 o4 n4
  refine joinK (fun s W' => s = () ∧ ∃ v, hp W' r = some (.cells #[v, .slice wa R.waits.length wc, .int .i64 R.left, .bool R.armed, .bool R.off] 46 (0, 0)) ∧
    Own W' 122 3 v (R.rcrash keep torn).lasts.length ((R.rcrash keep torn).lasts.flatMap cellsP) ∧ Mod F W W' ∧ (∀ b, inSl v b → F b ∨ W.heap.size ≤ b) ∧ ¬ inSl v r) (fun JJ hJJ => ?_) ?_
  · refine JoinW.at (fun s W' => s = (.bool (decide (N < R.waits.length ∧ 0 < torn.length)), ()) ∧ W' = w5) ?_ ?_
    · by_cases hc : N < R.waits.length
      · by_cases hc2 : 0 < torn.length
        · simp [go_sem, k1, hc, hc2]
        · simp [go_sem, k1, hc, hc2]
      · simp [go_sem, k1, hc]
    rintro _ W' ⟨rfl, rfl⟩
    unfold J27_2
    intro _
    by_cases hc : N < R.waits.length ∧ 0 < torn.length
    · obtain ⟨hc1, hc2⟩ := hc
      have hNk : N = keep := by omega
      subst hNk
      have htn : torn ≠ [] := fun e => by rw [e] at hc2; simp at hc2
      have hL : (R.rcrash N torn).lasts = R.lasts ++ R.waits.take N ++ [(R.waits[N].1, tornSec torn)] := by
        simp [DM.rcrash, List.getElem?_eq_getElem hc1, htn]
      simp [go_sem, hc1, hc2]
      refine rx_make Try.underlying23 (elemT_of uT1) (by omega) (by omega) (by omega) uT2 ?_
      have e3 : (madeCells (Value.int .u8 0).cells (Int.toNat 128 * 1)) = (bv (torn.take 0 ++ List.replicate (128 - 0) 0)).toArray := by
        apply Array.ext'
        rw [show (Value.int .u8 0).cells = #[.int .u8 0] from rfl, toList_madeCells_one, List.take_zero, List.nil_append, bv_replicate]
        rfl
      rw [e3, show Int.toNat 128 = 128 from rfl]
      have hA : hp (W'.alloc (.cells (bv (torn.take 0 ++ List.replicate (128 - 0) 0)).toArray 5)) W'.heap.size = some (.cells (bv (torn.take 0 ++ List.replicate (128 - 0) 0)).toArray 5 (0, 0)) := by simp only [hp_alloc, if_pos]
      have mA : Mod (fun _ => False) W' (W'.alloc (.cells (bv (torn.take 0 ++ List.replicate (128 - 0) 0)).toArray 5)) := (Mod.refl _ W').alloc _
      generalize (W'.alloc (.cells (bv (torn.take 0 ++ List.replicate (128 - 0) 0)).toArray 5)) = WA at hA mA
      obtain ⟨p, hp'⟩ : ∃ p, W'.heap.size = p := ⟨_, rfl⟩
      rw [hp'] at hA ⊢
      unfold L27_1
      refine loopK (fun s W2 => ∃ i : Nat, i ≤ 128 ∧ i ≤ torn.length ∧ s = (.int .i64 i, ()) ∧ Mod (fun _ => False) W' W2 ∧ hp W2 p = some (.cells (bv (torn.take i ++ List.replicate (128 - i) 0)).toArray 5 (0, 0)))
        (fun s _ => match s.1 with | .int _ i => 128 - i.toNat | _ => 0) ⟨0, by omega, by omega, rfl, mA, hA⟩ ?_
      clear hA mA
      rintro ⟨_, _⟩ W2 ⟨i, hi1, hi2, ⟨⟩, m2, h2p⟩ KN hKN _
      refine JoinW.at (fun s W3 => s = (.bool (decide (i < 128 ∧ i < torn.length)), ()) ∧ W3 = W2) ?_ ?_
      · by_cases hc : (i : Int) < 128
        · have hc' : i < 128 := by omega
          simp [go_sem, hc, hc']
        · have hc' : ¬ i < 128 := by omega
          simp [go_sem, hc, hc']
      rintro _ W3 ⟨rfl, rfl⟩
      unfold J27_0
      intro _
      by_cases hc : i < 128 ∧ i < torn.length
      · obtain ⟨hc1', hc2'⟩ := hc
        obtain ⟨b, off, cap, C, e, fz, hv, hC, hCi⟩ := rd_at ht hc2'
        have hw1 : IntKind.i64.wrap ((i : Int) + 1) = ((i + 1 : Nat) : Int) := by rw [IntKind.wrap_i64]; omega
        have htb : ¬ F b := htF b ⟨_, _, _, hv, by omega, rfl⟩
        have hC2 : hp W3 b = some (.cells C e fz) := m2.keep (mF.keep hC htb) id
        have hCi' : C[off + i]? = some (.int .u8 torn[i].toNat) := by rw [hCi]; simp [bv, hc2']
        rw [hv]
        have hil : (i : Int) < 128 := by omega
        simp [-Int.natCast_add, go_sem, hc1', hc2', hC2, hCi', h2p, hil, hw1, show i ≤ torn.length by omega, show i + (128 - i) = 128 by omega]
        refine hKN _ _ ⟨i + 1, by omega, by omega, rfl, m2.setCell (.inr (by omega)) _ _, ?_⟩ (by simp; omega)
        have e1 : (bv (torn.take i ++ List.replicate (128 - i) 0)).toArray.setIfInBounds i (.int .u8 torn[i].toNat) = (bv (torn.take (i + 1) ++ List.replicate (128 - (i + 1)) 0)).toArray := by
          apply Array.ext'
          rw [Array.toList_setIfInBounds]
          show (bv (torn.take i ++ List.replicate (128 - i) 0)).set i _ = bv _
          rw [bv_set, fill_list _ _ hc1' hc2']
        rw [hp_setCell, if_pos rfl, h2p, setObj1_cells, e1]
      · rw [fill_end torn i hi1 hi2 hc] at h2p
        have n1 : hp W3 r = some (.cells #[v4, .slice wa R.waits.length wc, .int .i64 R.left, .bool R.armed, .bool R.off] 46 (0, 0)) := m2.keep k1 id
        have n3 := k3.mod m2 fun _ _ h => h
        have n5 := o5.mod m2 fun _ _ h => h
        obtain ⟨b, cap, hsl, hAt⟩ := Own.elem n3 hc1
        obtain ⟨rfl, -, rfl⟩ : wa = some ⟨b, 0, none⟩ ∧ True ∧ wc = cap := by injection hsl with e1 e2 e3; exact ⟨e1, trivial, e3⟩
        rw [flat_get cellsP 3 _ _ (cellsP_len _) hc1] at hAt
        obtain ⟨C, e, fz, hC, hCg⟩ := hAt.get
        have hC0 : C[N * 3]? = some (.int .i64 R.waits[N].1.1) := hCg 0 _ rfl
        have hC1 : C[N * 3 + 1]? = some (.int .i64 R.waits[N].1.2) := hCg 1 _ rfl
        simp [go_sem, hc, n1, hc1, hC, hC0, hC1]
        refine rdX_toStr (n := 128) (l := tornSec torn) Try.underlying23 Try.underlying5 Try.underlying9 ⟨by simp [tornSec_length], .inr ⟨_, _, _, rfl, Nat.le_refl _, ⟨_, _, _, show W3.drew.heap[p]? = _ from h2p, by simp, by simp; exact List.take_of_length_le (by simp)⟩⟩⟩ ?_
        simp [go_sem]
        refine rx_lit [.agg (cellsP (R.waits[N].1, tornSec torn)).toArray] Try.underlying44 (elemT_of pE3) rfl rfl (by simp [Value.cells, cellsP]) (by decide) ?_
        have e8 : [Value.agg (cellsP (R.waits[N].1, tornSec torn)).toArray].flatMap (·.cells.toList) = cellsP (R.waits[N].1, tornSec torn) := by simp [Value.cells]
        rw [e8]
        have m8 : Mod (fun _ => False) W3 (W3.drew.alloc (.cells (cellsP (R.waits[N].1, tornSec torn)).toArray 122)) := ((Mod.refl _ W3).drew).alloc _
        have h8 : hp (W3.drew.alloc (.cells (cellsP (R.waits[N].1, tornSec torn)).toArray 122)) W3.heap.size = some (.cells (cellsP (R.waits[N].1, tornSec torn)).toArray 122 (0, 0)) := by simp [go_sem]
        rw [size_drew]
        generalize (W3.drew.alloc (.cells (cellsP (R.waits[N].1, tornSec torn)).toArray 122)) = W8 at m8 h8
        have n8 : hp W8 r = _ := m8.keep n1 id
        simp only [n8]
        refine ⟨rfl, rx_append (n := R.lasts.length + N) (m := 1) (news := cellsP (R.waits[N].1, tornSec torn)) Try.underlying44 Try.underlying44 (elemT_of pE3) (n5.mod m8 fun _ _ h => h)
          ⟨rfl, .inr ⟨_, 0, 1, rfl, Nat.le_refl _, ⟨_, _, _, h8, by simp [cellsP], by simp⟩⟩⟩ (by simp [cellsP, Value.oneCell']) (by omega) fun v9 W9 o9 m9 n9 => ?_⟩
        have n9' : hp W9 r = _ := m9.keep n8 hvr
        obtain ⟨va9, vc9, rfl, -⟩ := o9.isSl
        simp [go_sem, n9']
        generalize hv9 : (Value.slice va9 (R.lasts.length + N + 1) vc9) = v9 at o9 n9
        have m10 : Mod (fun b => b = r) W9 (W9.setCell ⟨r, 0, none⟩ v9) := (Mod.refl (fun b => b = r) W9).setCell (b := r) (.inl (by simp)) _ _
        have t8 : Mod F W W8 := (mF.on m2 fun b hb => hb.elim).on m8 fun b hb => hb.elim
        have l8 := t8.size
        have hv9r : ¬ inSl v9 r := fun hb => by
          rcases n9 r hb with h | h
          · exact hvr h
          · omega
        refine hJJ _ _ ⟨rfl, v9, by simp [go_sem, n9'], ?_, (t8.on m9 nF).on m10 fun b hb => .inl (hb ▸ h0.self), fun b hb => ?_, hv9r⟩
        · have := o9.mod m10 fun b hb e => hv9r (e ▸ hb)
          rw [hL]
          have e : (R.lasts ++ R.waits.take N ++ [(R.waits[N].1, tornSec torn)]).length = R.lasts.length + N + 1 := by simp; omega
          rw [e, List.flatMap_append, List.flatMap_append]
          simpa using this
        · rcases n9 b hb with h | h
          · exact nF b h
          · exact .inr (by omega)
    · simp [go_sem, hc]
      have hL : (R.rcrash keep torn).lasts = R.lasts ++ R.waits.take N := by
        have e1 : R.waits.take keep = R.waits.take N := by
          by_cases h : keep ≤ R.waits.length
          · rw [show N = keep by omega]
          · rw [List.take_of_length_le (by omega), List.take_of_length_le (by omega)]
        unfold DM.rcrash
        simp only [e1]
        split
        · rename_i p hp
          have hlt := (List.getElem?_eq_some_iff.1 hp).1
          have ht0 : torn = [] := List.length_eq_zero_iff.1 (by omega)
          rw [if_pos ht0]
        · rfl
      refine hJJ _ _ ⟨rfl, v4, k1, ?_, mF, nF, hvr⟩
      rw [hL]
      have e : (R.lasts ++ R.waits.take N).length = R.lasts.length + N := by simp; omega
      rw [e, List.flatMap_append]
      exact o5
  rintro _ W' ⟨rfl, v, q1, q2, q3, q4, q5⟩
  unfold J27_3
  intro _
  simp [go_sem, q1]
  have m6 : Mod (fun b => b = r) W' (((W'.setCell ⟨r, 1, none⟩ (.slice none 0 0)).setCell ⟨r, 4, none⟩ (.bool false)).setCell ⟨r, 3, none⟩ (.bool false)) := (((Mod.refl _ W').setCell (by simp) _ _).setCell (by simp) _ _).setCell (by simp) _ _
  refine hK _ (fun b => b = r ∨ inSl v b) ⟨⟨v, .slice none 0 0, by show hp _ _ = _; simp [go_sem, q1, DM.rcrash], q2.mod m6 fun b hb e => q5 (e ▸ hb), Own.nil .., fun b => by simp [inSl, slBlk], q5, by simp [inSl, slBlk], by simp [inSl, slBlk]⟩, by simp [DM.rcrash]⟩
    ⟨q3.on m6 fun b hb => .inl (hb ▸ h0.self), fun b hb => ?_⟩
  rcases hb with rfl | hb
  · exact .inl h0.self
  · exact q4 b hb
end Go.Proofs
