/-
  The contracts of the document's Both and Clean of snapshots, and of law21's whole and laid.
  Conditions: where they ask for any, each theorem names them.
-/
import Derived.Test.YteldcaeicgobfaaShotY
set_option linter.unusedVariables false
set_option linter.unusedSimpArgs false
namespace Go.Proofs
open Go Go.Vc

def optS (o : Option ShotM) : ShotM := o.getD shot0
theorem ca_file21o {w : World} {K : Kont} {v : Value} {B : List UInt8} (h : Rd w 1 v B.length (bv B)) (hB : B.length ≤ 50000)
    (hK : ∀ w' sl', ShR w' (optS (fileL B)) sl' → Mod (fun _ => False) w w' → (∀ y, inSl sl' y → w.heap.size ≤ y) → K (.tuple #[.agg (shotC (optS (fileL B)) sl').toArray, .bool (fileL B).isSome]) w') : Ca Try.prog 79 #[v] w K := by
  refine ca_file21 h hB (fun hf w' m => ?_) fun x hf w' sl' hr m fr => ?_
  · rw [hf] at hK
    exact hK w' _ ⟨by simp [optS, shot0], .inl ⟨rfl, _, _, rfl⟩⟩ m fun y hy => by cases hy
  · rw [hf] at hK
    exact hK w' sl' hr m fr
def bothL (A B : List UInt8) : ShotM × Int :=
  if (fileL A).isSome = false ∧ (fileL B).isSome = false then (shot0, -1) else if (fileL A).isSome = false ∨ ((fileL B).isSome = true ∧ (optS (fileL A)).idx < (optS (fileL B)).idx) then (optS (fileL B), 1) else (optS (fileL A), 0)

set_option maxRecDepth 10000 in
theorem ca_both21 {w : World} {K : Kont} {a b : Value} {A B : List UInt8} (hA : Rd w 1 a A.length (bv A)) (hB : Rd w 1 b B.length (bv B)) (lA : A.length ≤ 50000) (lB : B.length ≤ 50000)
    (hK : ∀ w' sl', ShR w' (bothL A B).1 sl' → Mod (fun _ => False) w w' → (∀ y, inSl sl' y → w.heap.size ≤ y) → K (.tuple #[.agg (shotC (bothL A B).1 sl').toArray, .int .i64 (bothL A B).2]) w') : Ca Try.prog 50 #[a, b] w K := by
  apply ca50
  unfold F50
  refine rv_shvar fun w1 q m1 hq1 h1 z1 => ?_
  refine ca_file21o (hA.mod m1 fun _ _ h => h) lA fun w2 sa ra m2 fa => ?_
  obtain ⟨x, hx⟩ : ∃ x, optS (fileL A) = x := ⟨_, rfl⟩
  obtain ⟨y, hy⟩ : ∃ y, optS (fileL B) = y := ⟨_, rfl⟩
  obtain ⟨i, hi⟩ : ∃ i, (fileL A).isSome = i := ⟨_, rfl⟩
  obtain ⟨j, hj⟩ : ∃ j, (fileL B).isSome = j := ⟨_, rfl⟩
  have hbo : bothL A B = if i = false ∧ j = false then (shot0, -1) else if i = false ∨ (j = true ∧ x.idx < y.idx) then (y, 1) else (x, 0) := by unfold bothL; rw [hx, hy, hi, hj]
  generalize bothL A B = bo at hbo hK
  rw [hx] at ra ⊢
  rw [hi]
  obtain ⟨a1, c1, rfl⟩ := ra.isSl
  refine rv_of (v := .agg (shotC x (.slice a1 x.data.length c1)).toArray) (w' := w2) (by simp [go_sem]) ?_
  refine rv_of (v := .bool i) (w' := w2) (by simp [go_sem]) ?_
  refine rv_shvar fun w3 qx m3 hqx h3 z3 => ?_
  refine ru_shot h3 ⟨_, _, _, rfl⟩ fun w4 m4 h4 => ?_
  have t2 := m1.trans m2
  have l1 := lt_of_heap h1
  have s2 := m2.size
  have t4 : Mod (fun _ => False) w w4 := (t2.trans m3).on m4 fun b hb => .inr (by omega)
  have t14 : Mod (fun _ => False) w1 w4 := (m2.trans m3).on m4 fun b hb => .inr (by omega)
  refine ca_file21o (hB.mod t4 fun _ _ h => h) lB fun w5 sb rb m5 fb => ?_
  rw [hy] at rb ⊢
  rw [hj]
  obtain ⟨a2, c2, rfl⟩ := rb.isSl
  refine rv_of (v := .agg (shotC y (.slice a2 y.data.length c2)).toArray) (w' := w5) (by simp [go_sem]) ?_
  refine rv_of (v := .bool j) (w' := w5) (by simp [go_sem]) ?_
  refine rv_shvar fun w6 qy m6 hqy h6 z6 => ?_
  refine ru_shot h6 ⟨_, _, _, rfl⟩ fun w7 m7 h7 => ?_
  have l4 := lt_of_heap h4
  have s5 := m5.size
  have t46 := m5.trans m6
  have t47 : Mod (fun _ => False) w4 w7 := t46.on m7 fun b hb => .inr (by omega)
  have t7 := t4.trans t47
  have t17 := t14.trans t47
  have hQ := t17.keep h1 id
  have hX := t47.keep h4 id
  have rx7 : ShR w7 x (.slice a1 x.data.length c1) := ((ra.mod m3 fun _ _ h => h).mod m4 fun u hu e => by have := ra.lt hu; omega).mod t47 fun _ _ h => h
  have ry7 : ShR w7 y (.slice a2 y.data.length c2) := (rb.mod m6 fun _ _ h => h).mod m7 fun u hu e => by have := rb.lt hu; omega
  have out : ∀ (z : ShotM) (s : Value) (n : Int), bo = (z, n) → ShR w7 z s → (∀ u, inSl s u → w.heap.size ≤ u ∧ u ≠ q) → ru Try.prog (Instr.storeAt 83 (.pointer (some ⟨q, 0, none⟩)) (.agg (shotC z s).toArray)) w7 fun w48 => rdW Try.prog (Instr.loadAt 83 (.pointer (some ⟨q, 0, none⟩))) w48 fun v49 => K (.tuple #[v49, (.int .i64 n)]) w48 := by
    intro z s n e rz fz
    obtain ⟨sa', sc', rfl⟩ := rz.isSl
    refine ru_shot hQ ⟨_, _, _, rfl⟩ fun w8 m8 h8 => ?_
    refine rdW_of (sload h8).2.2.2 ?_
    rw [e] at hK
    exact hK w8 _ (rz.mod m8 fun u hu e => (fz u hu.sl).2 e) (t7.on m8 fun b hb => .inr (by have := hb ▸ hq1; omega)) fun u hu => (fz u hu).1
  have fx : ∀ u, inSl (.slice a1 x.data.length c1) u → w.heap.size ≤ u ∧ u ≠ q := fun u hu => by have := fa u hu; omega
  have fy : ∀ u, inSl (.slice a2 y.data.length c2) u → w.heap.size ≤ u ∧ u ≠ q := fun u hu => by have := fb u hu; have := t14.size; omega
  refine joinK (fun s W => W = w7 ∧ s = (.bool (decide (i = false ∧ j = false)), ())) (fun JJ hJJ => ?_) ?_
  · refine rv_of (v := .bool (!i)) (w' := w7) (by simp [go_sem]) ?_
    cases i
    · rw [Bool.not_false, ifB_bool, if_pos rfl]
      refine rv_of (v := .bool (!j)) (w' := w7) (by simp [go_sem]) ?_
      exact hJJ _ _ ⟨rfl, by cases j <;> rfl⟩
    · rw [Bool.not_true, ifB_bool, if_neg (by simp)]
      exact hJJ _ _ ⟨rfl, by simp⟩
  rintro _ W ⟨hW, rfl⟩
  subst hW
  unfold J50_1
  intro _
  by_cases hn : i = false ∧ j = false
  · rw [decide_eq_true hn, ifB_bool, if_pos rfl]
    rw [if_pos hn] at hbo
    refine rv_of (shot_zero W) ?_
    exact out shot0 (.slice none 0 0) (-1) hbo ⟨by simp [shot0], .inl ⟨rfl, _, _, rfl⟩⟩ fun u hu => by cases hu
  rw [decide_eq_false hn, ifB_bool, if_neg (by simp)]
  rw [if_neg hn] at hbo
  refine joinK (fun s W' => W' = W ∧ s = (.bool (decide (i = false ∨ (j = true ∧ x.idx < y.idx))), ())) (fun JJ hJJ => ?_) ?_
  · refine rv_of (v := .bool (!i)) (w' := W) (by simp [go_sem]) ?_
    cases i
    · rw [Bool.not_false, ifB_bool, if_pos rfl]
      exact hJJ _ _ ⟨rfl, by simp⟩
    · rw [Bool.not_true, ifB_bool, if_neg (by simp)]
      cases j
      · rw [ifB_bool, if_neg (by simp)]
        exact hJJ _ _ ⟨rfl, by simp⟩
      · rw [ifB_bool, if_pos rfl]
        obtain ⟨f0, -⟩ := sfield (q := qy) (o := 0)
        obtain ⟨g0, -⟩ := sfield (q := qx) (o := 0)
        refine rv_of (f0 _) (rv_of (sload h7).1 ?_)
        refine rv_of (g0 _) (rv_of (sload hX).1 ?_)
        refine rv_of (v := .bool (decide (x.idx < y.idx))) (w' := W) (by simp [go_sem]) ?_
        exact hJJ _ _ ⟨rfl, by simp⟩
  rintro _ W' ⟨hW', rfl⟩
  subst hW'
  unfold J50_0
  intro _
  by_cases hc : i = false ∨ (j = true ∧ x.idx < y.idx)
  · rw [decide_eq_true hc, ifB_bool, if_pos rfl]
    rw [if_pos hc] at hbo
    refine rv_of (sload h7).2.2.2 ?_
    exact out y _ 1 hbo ry7 fy
  · rw [decide_eq_false hc, ifB_bool, if_neg (by simp)]
    rw [if_neg hc] at hbo
    refine rv_of (sload hX).2.2.2 ?_
    exact out x _ 0 hbo rx7 fx

/-- What an opening leaves of a row. -/
def cleanB (B : List UInt8) : List UInt8 := if (fileL (B ++ List.replicate 25600 0)).isSome = true then B else zl B 0 384
set_option maxRecDepth 10000 in
theorem ca_clean21 {w : World} {K : Kont} {v : Value} {B : List UInt8} (h : Rd w 1 v B.length (bv B)) (h0 : 384 ≤ B.length) (hB : B.length ≤ 24000) (hK : ∀ v w', Nw w w' v B.length (cleanB B) → K v w') : Ca Try.prog 51 #[v] w K := by
  obtain ⟨va, vc, rfl⟩ := h.isSl
  apply ca51
  unfold F51
  refine lit0 fun v0 W0 o0 m0 n0 => ?_
  have A0 : Nw w W0 v0 0 [] := ⟨o0, m0, n0⟩
  refine nw_append (l' := B) A0 (h.mod m0 fun _ _ h => h) (by omega) fun v2 W2 A2 m2 => ?_
  simp only [Nat.zero_add, List.nil_append] at A2
  refine lit0 fun v4 W4 o4 m4 n4 => ?_
  have A4 : Nw W2 W4 v4 0 [] := ⟨o4, m4, n4⟩
  refine nw_append (l' := B) A4 (h.mod (A2.mod.trans m4) fun _ _ h => h) (by omega) fun v6 W6 A6 m6 => ?_
  simp only [Nat.zero_add, List.nil_append] at A6
  refine rx_appendZ (m := 25600) (z := .int .u8 0) Try.underlying23 Try.underlying3 (elemT_of uT1) uT2 rfl rfl A6.own (by omega) fun v8 W8 o8 m8 n8 => ?_
  have e8 : bv B ++ List.replicate 25600 (.int .u8 0) = bv (B ++ List.replicate 25600 0) := by rw [bv_append, bv_replicate]; rfl
  rw [e8] at o8
  have hl8 : (B ++ List.replicate 25600 (0 : UInt8)).length = B.length + 25600 := by rw [List.length_append, List.length_replicate]
  have t8 : Mod (fun _ => False) W2 W8 := A6.mod.on m8 fun b hb => .inr (A6.new b hb)
  have r8 : Rd W8 1 v8 (B ++ List.replicate 25600 (0 : UInt8)).length (bv (B ++ List.replicate 25600 0)) := by rw [hl8]; exact o8.rd
  refine ca_file21o r8 (by rw [hl8]; omega) fun W9 sl r9 m9 f9 => ?_
  obtain ⟨i, hi⟩ : ∃ i, (fileL (B ++ List.replicate 25600 0)).isSome = i := ⟨_, rfl⟩
  generalize optS (fileL (B ++ List.replicate 25600 0)) = x at r9 ⊢
  have hcl : cleanB B = if i = true then B else zl B 0 384 := by unfold cleanB; rw [hi]
  generalize cleanB B = CB at hcl hK
  rw [hi]
  obtain ⟨sa, sc, rfl⟩ := r9.isSl
  refine rv_of (v := .agg (shotC x (.slice sa x.data.length sc)).toArray) (w' := W9) (by simp [go_sem]) ?_
  refine rv_of (v := .bool i) (w' := W9) (by simp [go_sem]) ?_
  refine rv_shvar fun W10 q m10 hq h10 z10 => ?_
  refine ru_shot h10 ⟨_, _, _, rfl⟩ fun W11 m11 h11 => ?_
  have t11 : Mod (fun _ => False) W2 W11 := ((t8.trans m9).trans m10).on m11 fun b hb => .inr (by have := t8.size; have := m9.size; omega)
  have A11 := A2.on t11
  clear h10 z10 h11 m11 m10 r9 f9 m9 r8 t8 e8 o8 m8 n8 A6 m6 A4 n4 m4 o4
  unfold L51_1
  refine loopK (fun s W' => ∃ k : Nat, k ≤ 384 ∧ (i = true → k = 0) ∧ s = (.int .i64 (k : Int), ()) ∧ Nw w W' v2 B.length (zl B 0 k)) (fun s _ => match s.1 with | .int _ i => 384 - i.toNat | _ => 0) ⟨0, by omega, fun _ => rfl, rfl, by rw [zl_zero]; exact A11⟩ ?_
  rintro ⟨_, _⟩ W4 ⟨k, hk, hk0, ⟨⟩, A4⟩ KN2 hKN2 _
  refine joinK (fun s W' => W' = W4 ∧ s = (.bool (decide (k < 384 ∧ i = false)), ())) (fun JJ hJJ => ?_) ?_
  · by_cases h1 : k < 384
    · have h1' : (k : Int) < 384 := by omega
      refine rv_of (v := .bool true) (w' := W4) (by simp [go_sem, h1']) ?_
      rw [ifB_bool, if_pos rfl]
      refine rv_of (v := .bool (!i)) (w' := W4) (by simp [go_sem]) (hJJ _ _ ⟨rfl, by cases i <;> simp [h1]⟩)
    · have h1' : ¬ (k : Int) < 384 := by omega
      refine rv_of (v := .bool false) (w' := W4) (by simp [go_sem]; omega) ?_
      rw [ifB_bool, if_neg (by simp)]
      exact hJJ _ _ ⟨rfl, by simp [h1]⟩
  rintro _ W5 ⟨hW5, rfl⟩
  subst hW5
  unfold J51_0
  intro _
  by_cases hc : k < 384 ∧ i = false
  · rw [decide_eq_true hc, ifB_bool, if_pos rfl]
    have e7 : IntKind.i64.wrap ((k : Int) + 1) = ((k + 1 : Nat) : Int) := by rw [IntKind.wrap_i64]; omega
    obtain ⟨b, c, hv, hvc, hst, hO, hM⟩ := own_put A4.own (i := k) (by omega) 0
    have e9 : k < B.length := by omega
    refine rv_of (v := .pointer (some ⟨b, k, none⟩)) (w' := W5) (by rw [hv, index8 e9, Nat.zero_add]) ?_
    refine ru_of hst ?_
    refine rv_of (v := .int .i64 ((k + 1 : Nat) : Int)) (w' := W5.setCell ⟨b, k, none⟩ (.int .u8 ((0 : UInt8).toNat : Int))) (by simp [-Int.natCast_add, go_sem, e7]) ?_
    have ez := zl_set (l := B) (a := 0) (k := k) (by omega)
    rw [Nat.zero_add] at ez
    rw [ez] at hO
    exact hKN2 _ _ ⟨k + 1, by omega, fun h => by rw [h] at hc; exact absurd hc.2 (by decide), rfl, hO, A4.mod.on hM fun y hy => .inr (A4.new y hy), A4.new⟩ (by simp; omega)
  · rw [decide_eq_false hc, ifB_bool, if_neg (by simp)]
    have e : zl B 0 k = CB := by
      rw [hcl]
      cases i
      · have : k = 384 := by
          have : ¬ k < 384 := fun h => hc ⟨h, rfl⟩
          omega
        rw [this, if_neg (by simp)]
      · rw [if_pos rfl, hk0 rfl, zl_zero]
    rw [e] at A4
    exact hK _ _ A4

/-- Filled to whole sectors, to three at least. -/
def wholeN (n : Nat) : Nat := if n < 384 then 384 else (n + 127) / 128 * 128
def wholeL (B : List UInt8) : List UInt8 := B ++ List.replicate (wholeN B.length - B.length) 0
theorem wholeN_le (n : Nat) : n ≤ wholeN n ∧ 384 ≤ wholeN n ∧ wholeN n ≤ n + 384 ∧ wholeN n % 128 = 0 := by
  unfold wholeN
  split <;> omega
theorem wholeN_stop {b n : Nat} (h1 : b ≤ n) (h2 : n ≤ wholeN b) (h : ¬ (n < 384 ∨ n % 128 ≠ 0)) : n = wholeN b := by
  by_cases hb : b < 384
  · simp only [wholeN, if_pos hb] at *
    omega
  · simp only [wholeN, if_neg hb] at *
    omega
theorem wholeL_len (B : List UInt8) : (wholeL B).length = wholeN B.length := by
  have := wholeN_le B.length
  unfold wholeL
  rw [List.length_append, List.length_replicate]
  omega
set_option maxRecDepth 10000 in
theorem ca_whole21 {w : World} {K : Kont} {v : Value} {B : List UInt8} (h : Rd w 1 v B.length (bv B)) (hB : B.length ≤ 24000) (hK : ∀ v w', Nw w w' v (wholeN B.length) (wholeL B) → K v w') : Ca Try.prog 48 #[v] w K := by
  apply ca48
  unfold F48
  have hwn := wholeN_le B.length
  refine lit0 fun v0 W0 o0 m0 n0 => ?_
  have A0 : Nw w W0 v0 0 [] := ⟨o0, m0, n0⟩
  refine nw_append (l' := B) A0 (h.mod m0 fun _ _ h => h) (by omega) fun v2 W2 A2 m2 => ?_
  simp only [Nat.zero_add, List.nil_append] at A2
  unfold L48_1
  refine loopK (fun s W' => ∃ (j : Nat) (v : Value), B.length + j ≤ wholeN B.length ∧ s = (v, ()) ∧ Nw w W' v (B.length + j) (B ++ List.replicate j 0)) (fun s _ => match s.1 with | .slice _ n _ => 30000 - n | _ => 0) ⟨0, v2, by omega, rfl, by simpa using A2⟩ ?_
  rintro ⟨_, _⟩ W4 ⟨j, v, hj, ⟨⟩, A4⟩ KN hKN _
  obtain ⟨sa, sc, rfl, hsc⟩ := A4.own.isSl
  obtain ⟨n, hn⟩ : ∃ n, B.length + j = n := ⟨_, rfl⟩
  rw [hn] at A4 hj hsc ⊢
  refine joinK (fun s W' => W' = W4 ∧ s = (.bool (decide (n < 384 ∨ n % 128 ≠ 0)), ())) (fun JJ hJJ => ?_) ?_
  · refine rn_len23 ?_
    refine rv_of (v := .bool (decide (n < 384))) (w' := W4) (by simp [go_sem]; omega) ?_
    by_cases h1 : n < 384
    · rw [decide_eq_true h1, ifB_bool, if_pos rfl]
      exact hJJ _ _ ⟨rfl, by simp [h1]⟩
    · rw [decide_eq_false h1, ifB_bool, if_neg (by simp)]
      refine rn_len23 ?_
      have e1 : (n : Int).tmod 128 = ((n % 128 : Nat) : Int) := by rw [Int.tmod_eq_emod_of_nonneg (by omega)]; omega
      refine rv_of (v := .int .i64 ((n % 128 : Nat) : Int)) (w' := W4) (by simp [-Int.natCast_emod, go_sem, e1]) ?_
      refine rv_of (v := .bool (decide (n % 128 ≠ 0))) (w' := W4) ?_ (hJJ _ _ ⟨rfl, by simp [h1]⟩)
      simp [-Int.natCast_emod, go_sem]
      rw [Bool.eq_iff_iff]
      simp
      omega
  rintro _ W5 ⟨hW5, rfl⟩
  subst hW5
  unfold J48_0
  intro _
  by_cases hc : n < 384 ∨ n % 128 ≠ 0
  · rw [decide_eq_true hc, ifB_bool, if_pos rfl]
    refine litL [0] rfl rfl (by omega) fun v6 W6 o6 m6 n6 => ?_
    refine nw_append (A4.on m6) o6.rd (by omega) fun v7 W7 A7 m7 => ?_
    have e : (B ++ List.replicate j (0 : UInt8)) ++ [0] = B ++ List.replicate (j + 1) 0 := by rw [List.append_assoc, List.replicate_succ']
    rw [e] at A7
    have hle : B.length + (j + 1) ≤ wholeN B.length := by
      by_cases hh : n = wholeN B.length
      · have := hwn.2.1; have := hwn.2.2.2; omega
      · omega
    obtain ⟨sb, sd, rfl, hsd⟩ := A7.own.isSl
    exact hKN _ _ ⟨j + 1, _, hle, rfl, by rw [show B.length + (j + 1) = n + 1 by omega]; exact A7⟩ (by simp; omega)
  · rw [decide_eq_false hc, ifB_bool, if_neg (by simp)]
    have he : n = wholeN B.length := wholeN_stop (by omega) hj hc
    have hjj : j = wholeN B.length - B.length := by omega
    rw [he, hjj] at A4
    rw [he]
    exact hK _ _ A4
end Go.Proofs
