/-
  The document's ledger: Trade, Mark.
  Conditions: where they ask for any, each theorem names them.
-/
import Derived.Test.YtanjfianhnhhmaaRfE
set_option linter.unusedVariables false
set_option linter.unusedSimpArgs false
namespace Go.Proofs
open Go Go.Vc

set_option maxRecDepth 10000 in
set_option maxHeartbeats 1000000 in
theorem ca_rtrade {w : World} {r : Nat} {F : Nat → Prop} {R : Led} {K : Kont} {c b s p n : Int} (h : RfQ w r F R) (hok : R.Ok) (hl : R.held.length < 4294967000) (hc : 0 ≤ c ∧ c < 4294967296)
    (hK : ∀ w' F', RfQ w' r F' (R.trade c b s p n).2 → RStp F r w w' F' → K (.int .i64 (R.trade c b s p n).1) w') : Ca Try.prog 27 #[lptr r, .int .u32 c, .int .u32 b, .int .u32 s, .int .i64 p, .int .i64 n] w K := by
  have hlen := hok.len
  apply ca27
  unfold F27
  unfold Led.trade at hK
  have hMp : ∀ x : Int, amongB x 1 10000000 = amongB x 1 MP := fun _ => rfl
  generalize hcd : (decide (c = 0 ∨ b = 0 ∨ s = 0 ∨ b = s ∨ amongB p 1 MP = false ∨ amongB n 1 MP = false)) = cd
  refine JoinW.at (fun st W => st = (.bool cd, ()) ∧ W = w) ?_ ?_
  · subst hcd
    by_cases e1 : c = 0
    · simp [go_sem, e1]
    · by_cases e2 : b = 0
      · simp [go_sem, e1, e2]
      · by_cases e3 : s = 0
        · simp [go_sem, e1, e2, e3]
        · by_cases e4 : b = s
          · simp [go_sem, e1, e2, e3, e4]
          · simp [go_sem, e1, e2, e3, e4]
            refine ca_ramong ?_
            rw [hMp]
            cases amongB p 1 MP
            · simp [go_sem]
            · simp [go_sem]
              refine ca_ramong ?_
              rw [hMp]
              simp [go_sem]
  rintro _ w ⟨rfl, rfl⟩
  unfold J27_2
  intro _
  cases cd with
  | true =>
    rw [if_pos (of_decide_eq_true hcd)] at hK
    simp
    exact hK _ _ h (RStp.refl ..)
  | false =>
    have hcn := of_decide_eq_false hcd
    rw [if_neg hcn] at hK
    simp only [ifB_bool, Bool.false_eq_true, if_false]
    obtain ⟨e1, e2, e3, e4, e5, e6⟩ : c ≠ 0 ∧ b ≠ 0 ∧ s ≠ 0 ∧ b ≠ s ∧ amongB p 1 MP = true ∧ amongB n 1 MP = true := by
      refine ⟨fun e => hcn (.inl e), fun e => hcn (.inr (.inl e)), fun e => hcn (.inr (.inr (.inl e))), fun e => hcn (.inr (.inr (.inr (.inl e)))), ?_, ?_⟩
      · cases h : amongB p 1 MP with | true => rfl | false => exact absurd (.inr (.inr (.inr (.inr (.inl h))))) hcn
      · cases h : amongB n 1 MP with | true => rfl | false => exact absurd (.inr (.inr (.inr (.inr (.inr h))))) hcn
    refine JoinW.at (fun st W => st = (.bool (decide (R.find b = none ∨ R.find s = none)), ()) ∧ W = w) ?_ ?_
    · refine ca_rat h (by omega) fun i hi0 hi1 => ?_
      cases hb : R.find b with
      | none =>
        obtain rfl := hi0 hb
        simp [go_sem]
      | some a =>
        obtain ⟨k, rfl, -⟩ := hi1 a hb
        simp [go_sem, show ¬ (k : Int) < 0 by omega]
        refine ca_rat h (by omega) fun i' hi0' hi1' => ?_
        cases hs : R.find s with
        | none =>
          obtain rfl := hi0' hs
          simp [go_sem]
        | some a' =>
          obtain ⟨k', rfl, -⟩ := hi1' a' hs
          simp [go_sem, show ¬ (k' : Int) < 0 by omega]
    rintro _ w ⟨rfl, rfl⟩
    unfold J27_1
    intro _
    by_cases hno : R.find b = none ∨ R.find s = none
    · rw [if_pos hno] at hK
      simp only [decide_eq_true hno, ifB_bool, if_true]
      exact hK _ _ h (RStp.refl ..)
    · rw [if_neg hno] at hK
      simp only [decide_eq_false hno, ifB_bool, Bool.false_eq_true, if_false]
      refine ca_rposition h (by omega) fun w3 m3 => ?_
      have q3 := h.modF m3
      obtain ⟨x1, x2, x3, x4, x5, x6⟩ := hok.position c b
      obtain ⟨y1, y2, y3, y4, y5, y6⟩ := hok.position c s
      have hs0 := hok.sp
      generalize hxe : R.position c b = x at *
      generalize hye : R.position c s = y at *
      simp only at hK
      obtain ⟨p1, p2⟩ := amongB_iff.1 e5
      obtain ⟨n1, n2⟩ := amongB_iff.1 e6
      have hpn := mul_bd (x := p) (y := n) (m := MP) (n := MP) ⟨by simp only [MP] at *; omega, p2⟩ ⟨by omega, n2⟩
      have hpn0 : 0 ≤ p * n := Int.mul_nonneg (by omega) (by omega)
      generalize hpnv : p * n = pn at *
      simp only [MP, MF] at x3 x4 x5 x6 y3 y4 y5 y6 p2 n2 hpn
      have wr1 : IntKind.i64.wrap (x.q + n) = x.q + n := by rw [IntKind.wrap_i64]; omega
      have wr2 : IntKind.i64.wrap pn = pn := by rw [IntKind.wrap_i64]; omega
      have wr3 : IntKind.i64.wrap (x.b + pn) = x.b + pn := by rw [IntKind.wrap_i64]; omega
      have wr4 : IntKind.i64.wrap (y.q - n) = y.q - n := by rw [IntKind.wrap_i64]; omega
      have wr5 : IntKind.i64.wrap (y.b - pn) = y.b - pn := by rw [IntKind.wrap_i64]; omega
      simp [go_sem, poV]
      generalize hw4 : World.alloc _ _ = w4
      have m4 : Mod (fun _ => False) w3 w4 := by subst hw4; exact (Mod.refl _ w3).alloc _
      have hX : hp w4 w3.heap.size = some (.cells #[.int .u32 x.c, .int .u32 x.a, .int .i64 x.q, .int .i64 x.b] 31 (0, 0)) := by subst hw4; simp [go_sem]
      have q4 := q3.modF m4
      refine ca_rposition q4 (by omega) fun w5 m5 => ?_
      rw [hye]
      have hX5 := m5.keep hX id
      have hl5 := lt_of_heap hX5
      have hne : w3.heap.size ≠ w5.heap.size := by omega
      have hMP : MP = 10000000 := rfl
      have hMF : MF = 1000000000000000 := rfl
      simp [go_sem, poV, hp_of hX5, hne, Ne.symm hne, hpnv, wr1, wr2, wr3, wr4, wr5]
      let X : Po := ⟨c, b, x.q + n, x.b + pn⟩
      let Y : Po := ⟨c, s, y.q - n, y.b - pn⟩
      generalize hw6 : World.setCell _ _ _ = w6
      have m6 : Mod (fun b => b = w3.heap.size) w5 w6 := by
        subst hw6
        exact (((((Mod.refl (fun b => b = w3.heap.size) w5).alloc _).setCell (b := w3.heap.size) (.inl rfl) _ _).setCell (b := w5.heap.size) (.inr (Nat.le_refl _)) _ _).setCell (b := w3.heap.size) (.inl rfl) _ _).setCell (b := w5.heap.size) (.inr (Nat.le_refl _)) _ _
      have hX6 : hp w6 w3.heap.size = some (.cells #[.int .u32 x.c, .int .u32 x.a, .int .i64 (x.q + n), .int .i64 (x.b + pn)] 31 (0, 0)) := by
        subst hw6; simp [go_sem, hp_of hX5, hne, Ne.symm hne]
      have hY6 : hp w6 w5.heap.size = some (.cells #[.int .u32 y.c, .int .u32 y.a, .int .i64 (y.q - n), .int .i64 (y.b - pn)] 31 (0, 0)) := by
        subst hw6; simp [go_sem, hne, Ne.symm hne]
      have hr3 := q3.lt'
      have m36 : Mod (fun _ => False) w w6 := ((m3.trans m4).trans m5).on m6 fun b hb => .inr (by have := m3.size; omega)
      have q6 := h.modF m36
      refine JoinW.at (fun st W => st = (.bool (decide (MP < X.q ∨ Y.q < -MP ∨ MF < X.b ∨ Y.b < -MF)), ()) ∧ W = w6) ?_ ?_
      · simp only [X, Y, hMP, hMF]
        by_cases g1 : 10000000 < x.q + n
        · simp [g1]
        · by_cases g2 : y.q - n < -10000000
          · simp [g1, g2]
          · by_cases g3 : 1000000000000000 < x.b + pn
            · simp [g1, g2, g3]
            · simp [g1, g2, g3]
      rintro _ w6' ⟨rfl, rfl⟩
      unfold J27_0
      intro _
      by_cases hov : MP < X.q ∨ Y.q < -MP ∨ MF < X.b ∨ Y.b < -MF
      · rw [if_pos hov] at hK
        simp only [decide_eq_true hov, ifB_bool, if_true]
        exact hK _ _ q6 (RStp.of m36)
      · rw [if_neg hov] at hK
        simp only [decide_eq_false hov, ifB_bool, Bool.false_eq_true, if_false]
        simp [go_sem, hp_of hX6]
        have lX := length_insP_le R.held X
        have eX : (Value.agg #[.int .u32 x.c, .int .u32 x.a, .int .i64 (x.q + n), .int .i64 (x.b + pn)]) = poV X := by rw [x1, x2]; rfl
        have eY : (Value.agg #[.int .u32 y.c, .int .u32 y.a, .int .i64 (y.q - n), .int .i64 (y.b - pn)]) = poV Y := by rw [y1, y2]; rfl
        rw [eX]
        refine ca_rhold (p := X) q6 hs0 (by omega) fun w7 q7 m7 => ?_
        have hY7 := m7.keep hY6 (by have := m4.size; have := m5.size; have := m3.size; have := h.lt'; omega)
        simp [go_sem, hp_of hY7]
        rw [eY]
        refine ca_rhold (p := Y) q7 (insP_sort hs0 X) (by show (insP R.held X).length < _; omega) fun w8 q8 m8 => ?_
        refine hK w8 _ q8 ⟨((m36.mono fun _ _ h => h.elim).trans m7).trans m8, fun b hb => ?_⟩
        rcases hb with (hb | hb) | hb
        · exact .inl hb
        · exact .inr (Nat.le_trans m36.size hb.1)
        · exact .inr (Nat.le_trans m36.size (Nat.le_trans m7.size hb.1))

set_option maxRecDepth 10000 in
set_option maxHeartbeats 1000000 in
theorem ca_rmark {w : World} {r : Nat} {F : Nat → Prop} {R : Led} {K : Kont} {c price : Int} {cl : Bool} (h : RfQ w r F R) (hok : R.Ok) (hl : R.held.length < 4294967000)
    (hK : ∀ w' F' v, RfQ w' r F' (R.mark c price cl).2.2 → Own w' 45 2 v (R.mark c price cl).2.1.length ((R.mark c price cl).2.1.flatMap cellsVa) → RStp F r w w' F' → (∀ b, inSl v b → w.heap.size ≤ b) → K (.tuple #[v, .int .i64 (R.mark c price cl).1]) w') :
    Ca Try.prog 28 #[lptr r, .int .u32 c, .int .i64 price, .bool cl] w K := by
  apply ca28
  unfold F28
  unfold Led.mark at hK
  have hMp : amongB price 1 10000000 = amongB price 1 MP := rfl
  refine JoinW.at (fun s W => s = (.bool (decide (c = 0 ∨ amongB price 1 MP = false)), ()) ∧ W = w) ?_ ?_
  · by_cases hc0 : c = 0
    · simp [go_sem, hc0]
    · simp [hc0, go_sem]
      refine ca_ramong ?_
      rw [hMp]
      simp [go_sem]
  rintro _ w ⟨rfl, rfl⟩
  unfold J28_2
  intro _
  by_cases hc : c = 0 ∨ amongB price 1 MP = false
  · rw [if_pos hc] at hK
    simp only [decide_eq_true hc, ifB_bool, if_true]
    exact hK _ _ _ h (Own.nil ..) (RStp.refl ..) fun b hb => by cases hb
  · rw [if_neg hc] at hK
    simp only [decide_eq_false hc, ifB_bool, Bool.false_eq_true, if_false]
    have hpr : 1 ≤ price ∧ price ≤ MP := amongB_iff.1 (by cases h : amongB price 1 MP with | true => rfl | false => exact absurd (.inr h) hc)
    refine ca_rholders h (by omega) fun w1 vH oH fH m1 => ?_
    have hH : ∀ p ∈ R.holders c, p ∈ R.held := fun p hp => (List.mem_filter.1 hp).1
    have hHs := holders_sort hok.sp c
    have hHl : (R.holders c).length ≤ R.held.length := List.length_filter_le ..
    have hHself : ∀ p ∈ R.holders c, R.position p.c p.a = p ∧ p.isZ = false := fun p hp => ⟨(Led.holders_self hok.sp hp).1, (hok.pos p (hH p hp)).2.2.1⟩
    have hHc : ∀ p ∈ R.holders c, p.c = c := fun p hp => (Led.holders_self hok.sp hp).2
    generalize R.holders c = H at *
    obtain ⟨ha, hcc, hvH, -⟩ := oH.isSl
    subst hvH
    have hr0 := h.lt'
    refine loopK (fun s W => ∃ (v : Value) (i : Nat) (F' : Nat → Prop), i ≤ H.length ∧ s = (v, .int .i64 i, ()) ∧ RfQ W r F' (R.marked (H.take i) price cl) ∧ RStp F r w W F' ∧ Own W 45 2 v ((H.take i).map (Po.won price)).length (((H.take i).map (Po.won price)).flatMap cellsVa) ∧
        (∀ b, inSl v b → w.heap.size ≤ b) ∧ Own W 31 4 (.slice ha H.length hcc) H.length (H.flatMap cellsPo) ∧ (∀ b, F' b → ¬ inSl v b) ∧ (∀ b, inSl v b → ¬ inSl (.slice ha H.length hcc) b))
      (fun s _ => match s.2.1 with | .int _ i => H.length - i.toNat | _ => 0) ⟨_, 0, F, by omega, rfl, h.modF m1, RStp.of m1, (show Own w1 _ 2 (.slice none 0 0) 0 [] from Own.nil ..), (fun b hb => by cases hb), oH, (fun b _ hb => by cases hb), (fun b hb => by cases hb)⟩ ?_
    rintro ⟨sv, _⟩ W ⟨v, i, F', hi, ⟨⟩, qW, stp, oV, fV, oHW, hFv, hvH⟩ KN hKN
    unfold L28_1
    intro _
    have hw := wr_add1 (i := i) (by omega)
    have hok' : (R.marked (H.take i) price cl).Ok := marked_ok hok hpr cl _ R (fun p hp => hH p (List.mem_of_mem_take hp)) hok rfl
    have hlen' : (R.marked (H.take i) price cl).held.length ≤ R.held.length := marked_len hok.sp (hHs.take) fun p hp => hHself p (List.mem_of_mem_take hp)
    by_cases hlt : i < H.length
    · obtain ⟨b, off, cap, C, e, fz, hsl, hC, c0, c1, c2, c3⟩ := rdPo oHW.rd hlt
      cases hsl
      have hpi : H[i]? = some H[i] := List.getElem?_eq_getElem hlt
      have hpm := hH H[i] (List.getElem_mem hlt)
      have hpc := hHc H[i] (List.getElem_mem hlt)
      have hmk := marked_take (S := R) (l := H) (price := price) (cl := cl) hpi
      have htk : (H.take i).map (Po.won price) ++ [H[i].won price] = (H.take (i + 1)).map (Po.won price) := by
        rw [List.take_add_one, hpi, List.map_append]; rfl
      obtain ⟨p1, p2, p3, p4, p5, p6, p7, p8⟩ := hok.pos H[i] hpm
      generalize H[i] = p at *
      have hb := mul_bd (x := p.q) (y := price) (m := MP) (n := MP) ⟨p4, p5⟩ ⟨by omega, hpr.2⟩
      simp only [MP, MF] at hb p4 p5 p6 p7
      have wr1 : IntKind.i64.wrap (p.q * price) = p.q * price := by rw [IntKind.wrap_i64]; omega
      have wr2 : IntKind.i64.wrap (p.q * price - p.b) = p.q * price - p.b := by rw [IntKind.wrap_i64]; omega
      simp [-Int.natCast_add, go_sem, hlt, hC, c0, c1, c2, c3, wr1, wr2]
      generalize hw2 : World.alloc _ _ = W2
      have m2 : Mod (fun _ => False) W W2 := by subst hw2; exact (Mod.refl _ W).alloc _
      have hloc : hp W2 W.heap.size = some (.cells #[.int .u32 p.c, .int .u32 p.a, .int .i64 p.q, .int .i64 p.b] 31 (0, 0)) := by subst hw2; simp [go_sem]
      have hlv : ((H.take i).map (Po.won price)).length ≤ R.held.length := by rw [List.length_map, List.length_take]; omega
      refine push1 (d := (H.take i).map (Po.won price)) (enc := cellsVa) (x := p.won price) (k := 1) tSlV vaE rfl rfl (by omega) (by omega) (oV.mod m2 fun _ _ h => h) (by omega) fun v' W3 o3 m3 n3 => ?_
      rw [htk] at o3
      have hloc3 := m3.keep hloc (fun hb => by have := oV.lt hb; omega)
      simp [go_sem, hp_of hloc3]
      let p' := p.mark price cl
      have hWr : w.heap.size ≤ W.heap.size := stp.mod.size
      have mW3 : Mod (fun b => inSl sv b) W W3 := (m2.mono fun _ _ h => h.elim).trans (m3.mono fun b _ h => h)
      have hnr : ¬ inSl sv r := fun hb => by have := fV r hb; omega
      have q3 : RfQ W3 r F' (R.marked (H.take i) price cl) := qW.mod mW3 hFv
      have oH3 := oHW.mod mW3 fun b hb hb' => hvH b hb' hb
      have hn3 : ∀ b, inSl v' b → inSl sv b ∨ W.heap.size < b := fun b hb => (n3 b hb).elim .inl fun h2 => .inr (by have := lt_of_heap hloc; omega)
      generalize hw4 : W3.setCell ⟨W.heap.size, 3, none⟩ (.int .i64 (p.q * price)) = W4
      have m4 : Mod (fun b => b = W.heap.size) W3 W4 := by subst hw4; exact (Mod.refl (fun b => b = W.heap.size) W3).setCell (b := W.heap.size) (.inl rfl) _ _
      have hloc4 : hp W4 W.heap.size = some (.cells #[.int .u32 p.c, .int .u32 p.a, .int .i64 p.q, .int .i64 (p.q * price)] 31 (0, 0)) := by subst hw4; simp [go_sem, hp_of hloc3]
      refine JoinW.at (fun _ W' => ∃ m : Mod (fun b => b = W.heap.size) W4 W', hp W' W.heap.size = some (.cells (cellsPo p').toArray 31 (0, 0))) ?_ ?_
      · cases cl with
        | true =>
          simp [go_sem, hp_of hloc4]
          exact ⟨(((Mod.refl (fun b => b = W.heap.size) W4).setCell (b := W.heap.size) (.inl rfl) _ _).setCell (b := W.heap.size) (.inl rfl) _ _).setCell (b := W.heap.size) (.inl rfl) _ _ |>.setCell (b := W.heap.size) (.inl rfl) _ _, by simp [p', Po.mark, cellsPo, hpc]⟩
        | false =>
          simp [go_sem]
          exact ⟨Mod.refl _ _, by simp [hloc4, p', Po.mark, cellsPo]⟩
      rintro _ W5 ⟨m5, hloc5⟩
      unfold J28_0
      intro _
      simp [go_sem, hp_of hloc5, cellsPo]
      have m35 : Mod (fun b => b = W.heap.size) W3 W5 := m4.trans m5
      have m05 : Mod (fun b => inSl sv b) W W5 := mW3.on m35 fun b hb => .inr (by omega)
      have q5 : RfQ W5 r F' (R.marked (H.take i) price cl) := qW.mod m05 hFv
      have oH5 := oHW.mod m05 fun b hb hb' => hvH b hb' hb
      have o5 := o3.mod m35 fun b hb e => by
        rcases hn3 b hb with h | h
        · have := oV.lt h; omega
        · omega
      refine ca_rhold (p := p') q5 hok'.sp (by omega) fun W6 q6 m6 => ?_
      simp [-Int.natCast_add, go_sem, hw]
      have hrW := qW.lt'
      refine hKN _ _ ⟨v', i + 1, _, by omega, rfl, by rw [hmk]; exact q6, ⟨?_, fun b hb => ?_⟩, o5.mod m6 fun b hb e => ?_, fun b hb => ?_, oH5.mod m6 fun b hb e => ?_, fun b hb hb' => ?_, fun b hb hb' => ?_⟩ (by simp; omega)
      · exact (stp.mod.on m05 fun b hb => .inr (fV b hb)).trans m6
      · rcases hb with hb | hb
        · exact stp.fresh b hb
        · exact .inr (Nat.le_trans hWr (Nat.le_trans m05.size hb.1))
      · subst e
        rcases hn3 b hb with h | h
        · exact hnr h
        · omega
      · rcases hn3 b hb with h | h
        · exact fV b h
        · omega
      · subst e
        have := fH b hb; omega
      · rcases hn3 b hb' with h | h
        · rcases hb with hb | hb
          · exact hFv b hb h
          · have := oV.lt h; have := m05.size; omega
        · rcases hb with hb | hb
          · have := qW.lt b hb; omega
          · have := o5.lt hb'; omega
      · rcases hn3 b hb with h | h
        · exact hvH b h hb'
        · have := oHW.lt hb'; omega
    · obtain rfl : i = H.length := by omega
      rw [List.take_of_length_le (Nat.le_refl _)] at qW oV
      simp [-Int.natCast_add, go_sem]
      exact hK _ _ _ qW oV stp fV
end Go.Proofs
