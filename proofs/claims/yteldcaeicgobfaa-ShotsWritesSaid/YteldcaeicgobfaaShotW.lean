/-
  The contract of the document's File of snapshots.
  Conditions: where they ask for any, each theorem names them.
-/
import Derived.Test.YteldcaeicgobfaaShotV
set_option linter.unusedVariables false
set_option linter.unusedSimpArgs false
namespace Go.Proofs
open Go Go.Vc

def datL (B : List UInt8) (n : Nat) : List UInt8 := (List.range n).map fun i => B.getD ((3 + i / 127) * 128 + 1 + i % 127) 0
theorem datL_length (B : List UInt8) (n : Nat) : (datL B n).length = n := by simp [datL]
theorem datL_succ (B : List UInt8) (n : Nat) : datL B (n + 1) = datL B n ++ [B.getD ((3 + n / 127) * 128 + 1 + n % 127) 0] := by simp [datL, List.range_succ]
def numL (B : List UInt8) : Nat := ofB ((B.drop 17).take 8)
def rawL (B : List UInt8) : ShotM := ⟨ofB ((B.drop 1).take 8), ofB ((B.drop 9).take 8), datL B (numL B)⟩
/-- The snapshot of a file's sectors. -/
def fileL (B : List UInt8) : Option ShotM :=
  if B.length < 384 then none else if 524288 < numL B ∨ B.length < 384 + 128 * secN (numL B) then none else
    if (rawL B).may = false ∨ formS (rawL B) ≠ B.take (384 + 128 * secN (numL B)) then none else some (rawL B)
theorem formS_length (x : ShotM) : (formS x).length = 384 + 128 * secN x.data.length := by
  unfold formS formP
  simp only [List.length_append, markS_length, List.length_flatMap, partS_length]
  have : ∀ n : Nat, ((List.range n).map fun _ => 128).sum = 128 * n := fun n => by
    rw [List.map_const', List.sum_replicate_nat, List.length_range, Nat.mul_comm]
  rw [this]
theorem slice_hi {b off n cap hi : Nat} (hn : hi ≤ cap) (hc : 0 < cap) (W : World) : (Instr.sliceAt 23 (.slice (some ⟨b, off, none⟩) n cap) none (some (.int .i64 (hi : Int))) none).run Try.prog W = .ok (.slice (some ⟨b, off, none⟩) hi cap) W := by
  have e1 : ¬ (cap = 0) := by omega
  have e2 : ¬ (0 = cap) := by omega
  simp [go_sem, hn, e1, e2]

set_option maxRecDepth 10000 in
theorem ca_file21 {w : World} {K : Kont} {v : Value} {B : List UInt8} (h : Rd w 1 v B.length (bv B)) (hB : B.length ≤ 50000)
    (hK0 : fileL B = none → ∀ w', Mod (fun _ => False) w w' → K (.tuple #[.agg (shotC shot0 (.slice none 0 0)).toArray, .bool false]) w')
    (hK1 : ∀ x, fileL B = some x → ∀ w' sl', ShR w' x sl' → Mod (fun _ => False) w w' → (∀ y, inSl sl' y → w.heap.size ≤ y) → K (.tuple #[.agg (shotC x sl').toArray, .bool true]) w') : Ca Try.prog 79 #[v] w K := by
  apply ca79
  unfold F79
  refine rv_shvar fun W q mA hq hA zA => ?_
  have lq : w.heap.size ≤ q := by omega
  have none_ : fileL B = none → ∀ W', Mod (fun _ => False) W W' → rv Try.prog (Instr.build 83 #[]) W' fun v6 w7 => ru Try.prog (Instr.storeAt 83 (.pointer (some ⟨q, 0, none⟩)) v6) w7 fun w8 => rdW Try.prog (Instr.loadAt 83 (.pointer (some ⟨q, 0, none⟩))) w8 fun v9 => K (.tuple #[v9, (.bool false)]) w8 := fun hf W' m => by
    refine rv_of (shot_zero W') ?_
    refine ru_shot (m.keep hA id) ⟨_, _, _, rfl⟩ fun W2 m2 h2 => ?_
    refine rdW_of (sload h2).2.2.2 ?_
    exact hK0 hf _ ((mA.trans m).on m2 fun b hb => .inr (by omega))
  have hsl : ∃ a c, v = .slice a B.length c := h.isSl
  obtain ⟨a, c, rfl⟩ := hsl
  refine rn_len23 ?_
  refine rv_of (v := .bool (decide (B.length < 384))) (w' := W) (by simp [go_sem]; omega) ?_
  by_cases h384 : B.length < 384
  · rw [decide_eq_true h384, ifB_bool, if_pos rfl]
    exact none_ (by unfold fileL; rw [if_pos h384]) W (Mod.refl _ _)
  rw [decide_eq_false h384, ifB_bool, if_neg (by simp)]
  obtain ⟨b0, off, cap, hcap, he⟩ := rd_block h (by omega)
  injection he with e1 e2 e3
  subst e1 e3
  have hW := h.mod mA fun _ _ h => h
  have hrd : ∀ W', Mod (fun _ => False) W W' → ∀ i n : Nat, i + n ≤ B.length → 0 < n → ∀ cap, n ≤ cap → Rd W' 1 (.slice (some ⟨b0, off + i, none⟩) n cap) n (bv ((B.drop i).take n)) := fun W' m i n h h0 cap hc => rd_part (hW.mod m fun _ _ h => h) i n cap h h0 hc
  have tk : ∀ i n : Nat, 8 ≤ n → ((B.drop i).take n).take 8 = (B.drop i).take 8 := fun i n h => by rw [List.take_take, Nat.min_eq_left h]
  have g : ∀ i : Nat, i + 8 ≤ B.length → ∀ W', Mod (fun _ => False) W W' → ∀ K : Kont, K (.int .u64 (ofB ((B.drop i).take 8))) W' → Ca Try.prog 96 #[.slice (some ⟨b0, off + i, none⟩) (B.length - i) (c - i)] W' K := fun i hi W' m K h => ca_of21 (hrd W' m i (B.length - i) (by omega) (by omega) _ (by omega)) (by omega) (by rw [tk i (B.length - i) (by omega)]; exact h)
  have g1 := g 1 (by omega)
  have g2 := g 9 (by omega)
  have g3 := g 17 (by omega)
  obtain ⟨ix, hix⟩ : ∃ ix, ofB ((B.drop 1).take 8) = ix := ⟨_, rfl⟩
  obtain ⟨tm, htm⟩ : ∃ tm, ofB ((B.drop 9).take 8) = tm := ⟨_, rfl⟩
  have ixl : ix < 18446744073709551616 := by rw [← hix]; exact ofB8_lt _
  have tml : tm < 18446744073709551616 := by rw [← htm]; exact ofB8_lt _
  have hnl : numL B < 18446744073709551616 := ofB8_lt _
  rw [hix] at g1
  rw [htm] at g2
  refine joinK (fun s W' => ∃ mb, s = (.pointer (some ⟨mb, 0, none⟩), ()) ∧ Mod (fun _ => False) W W' ∧ hp W' mb = some (.cells (shotC ⟨ix, tm, []⟩ (.slice none 0 0)).toArray 83 (0, 0)) ∧ W.heap.size ≤ mb) (fun JJ hJJ => ?_) ?_
  · have md : Mod (fun _ => False) W W.drew := (Mod.refl _ W).drew
    refine rdP_of (slice_lo (lo := 1) (by omega) hcap (by omega)) ?_
    refine rdP_of (slice_lo (lo := 9) (by omega) hcap (by omega)) ?_
    have bld : ∀ w, (Instr.build 83 #[(0, .int .u64 (ix : Int)), (1, .int .u64 (tm : Int))]).run Try.prog w = .ok (.agg (shotC ⟨ix, tm, []⟩ (.slice none 0 0)).toArray) w := fun w => by simp [go_sem, shotC]
    have fin : ∀ W' mb, Mod (fun _ => False) W W' → hp W' mb = some (.cells (shotC shot0 (.slice none 0 0)).toArray 83 (0, 0)) → W.heap.size ≤ mb → ru Try.prog (Instr.storeAt 83 (.pointer (some ⟨mb, 0, none⟩)) (.agg (shotC ⟨ix, tm, []⟩ (.slice none 0 0)).toArray)) W' fun w => JJ (.pointer (some ⟨mb, 0, none⟩), ()) w :=
      fun W' mb m hm hmb => ru_shot hm ⟨_, _, _, rfl⟩ fun W2 m2 h2 => hJJ _ _ ⟨mb, rfl, m.on m2 fun b hb => .inr (by omega), h2, hmb⟩
    refine ⟨g1 _ md _ ⟨?_, ?_⟩, ?_⟩
    · refine g2 _ md _ ?_
      refine rdP_of bld ?_
      exact rv_shvar fun W2 mb m2 hmb h2 z2 => fin W2 mb (md.trans m2) h2 (by rw [hmb]; exact md.size)
    · refine rv_shvar fun W2 mb m2 hmb h2 z2 => ?_
      exact g2 _ (md.trans m2) _ (rdP_of bld (fin W2 mb (md.trans m2) h2 (by rw [hmb]; exact md.size)))
    · refine rv_shvar fun W2 mb m2 hmb h2 z2 => ?_
      exact g1 _ (md.trans m2) _ (g2 _ (md.trans m2) _ (rdP_of bld (fin W2 mb (md.trans m2) h2 (by rw [hmb]; exact md.size))))
  rintro _ W2 ⟨mb, rfl, m2, hmb, lmb⟩
  unfold J79_3
  intro _
  refine rv_of (slice_lo (lo := 17) (by omega) hcap (by omega) W2) ?_
  refine g3 _ m2 _ ?_
  rw [show ofB ((B.drop 17).take 8) = numL B from rfl]
  obtain ⟨n, hn⟩ : ∃ n, numL B = n := ⟨_, rfl⟩
  rw [hn] at hnl ⊢
  refine joinK (fun s W' => W' = W2 ∧ s = (.bool (decide (524288 < n ∨ B.length < 384 + 128 * secN n)), ())) (fun JJ hJJ => ?_) ?_
  · refine rv_of (v := .bool (decide (524288 < n))) (w' := W2) (by simp [go_sem]; omega) ?_
    by_cases h5 : 524288 < n
    · rw [decide_eq_true h5, ifB_bool, if_pos rfl]
      exact hJJ _ _ ⟨rfl, by simp [h5]⟩
    · rw [decide_eq_false h5, ifB_bool, if_neg (by simp)]
      have c0 : IntKind.i64.wrap (n : Int) = (n : Int) := by rw [IntKind.wrap_i64]; omega
      have c1 : IntKind.i64.wrap ((n : Int) + 127) = ((n + 127 : Nat) : Int) := by rw [IntKind.wrap_i64]; omega
      have c2 : IntKind.i64.wrap (((n + 127 : Nat) : Int) - 1) = ((n + 126 : Nat) : Int) := by rw [IntKind.wrap_i64]; omega
      have c3 : IntKind.i64.wrap (((n + 126 : Nat) : Int) / 127) = ((secN n : Nat) : Int) := by unfold secN; rw [IntKind.wrap_i64]; omega
      have hsn : secN n ≤ 5000 := by unfold secN; omega
      have c4 : IntKind.i64.wrap (((secN n : Nat) : Int) * 128) = ((128 * secN n : Nat) : Int) := by rw [IntKind.wrap_i64]; omega
      have c5 : IntKind.i64.wrap (384 + ((128 * secN n : Nat) : Int)) = ((384 + 128 * secN n : Nat) : Int) := by rw [IntKind.wrap_i64]; omega
      refine rv_of (v := .int .i64 (n : Int)) (w' := W2) (by simp [go_sem, c0]) ?_
      refine rv_of (v := .int .i64 ((n + 127 : Nat) : Int)) (w' := W2) (by simp [-Int.natCast_add, go_sem, c1]) ?_
      refine rv_of (v := .int .i64 ((n + 126 : Nat) : Int)) (w' := W2) (by simp [-Int.natCast_add, go_sem, c2]) ?_
      refine rv_of (v := .int .i64 ((secN n : Nat) : Int)) (w' := W2) (by simp [-Int.natCast_add, -Int.natCast_ediv, go_sem, c3]) ?_
      refine rv_of (v := .int .i64 ((128 * secN n : Nat) : Int)) (w' := W2) (by simp [-Int.natCast_mul, go_sem, c4]) ?_
      refine rv_of (v := .int .i64 ((384 + 128 * secN n : Nat) : Int)) (w' := W2) (by simp [-Int.natCast_mul, -Int.natCast_add, go_sem, c5]) ?_
      refine rn_len23 ?_
      refine rv_of (v := .bool (decide (B.length < 384 + 128 * secN n))) (w' := W2) (by simp [-Int.natCast_mul, -Int.natCast_add, go_sem]) ?_
      exact hJJ _ _ ⟨rfl, by simp [h5]⟩
  rintro _ W3 ⟨hW3, rfl⟩
  subst hW3
  unfold J79_2
  intro _
  by_cases hbig : 524288 < n ∨ B.length < 384 + 128 * secN n
  · rw [decide_eq_true hbig, ifB_bool, if_pos rfl]
    exact none_ (by unfold fileL; rw [if_neg h384, hn, if_pos hbig]) _ m2
  rw [decide_eq_false hbig, ifB_bool, if_neg (by simp)]
  have hsn : 384 + 128 * secN n ≤ B.length := by omega
  have hn6 : n ≤ 60000 := by unfold secN at hsn; omega
  have q2 := lt_of_heap hA
  have mq : mb ≠ q := by omega
  unfold L79_1
  refine loopK (fun s W' => ∃ (k : Nat) (sl : Value), k ≤ n ∧ s = (.int .i64 (k : Int), ()) ∧ Mod (fun _ => False) W W' ∧ hp W' mb = some (.cells (shotC ⟨ix, tm, datL B k⟩ sl).toArray 83 (0, 0)) ∧ Own W' 5 1 sl k (bv (datL B k)) ∧ (∀ y, inSl sl y → W.heap.size ≤ y ∧ y ≠ mb))
    (fun s _ => match s.1 with | .int _ i => n - i.toNat | _ => 0) ⟨0, .slice none 0 0, by omega, rfl, m2, hmb, Own.nil .., fun y hy => by cases hy⟩ ?_
  rintro ⟨_, _⟩ W4 ⟨k, sl, hk, ⟨⟩, m4, hm4, o4, f4⟩ KN hKN _
  have c0 : IntKind.i64.wrap (n : Int) = (n : Int) := by rw [IntKind.wrap_i64]; omega
  obtain ⟨sa, sc, rfl, hsc⟩ := o4.isSl
  obtain ⟨-, -, f2⟩ := sfield (q := mb) (o := 0)
  refine rv_of (v := .int .i64 (n : Int)) (w' := W4) (by simp [go_sem, c0]) ?_
  refine rv_of (v := .bool (decide (k < n))) (w' := W4) (by simp [go_sem]) ?_
  by_cases hlt : k < n
  · rw [decide_eq_true hlt, ifB_bool, if_pos rfl]
    have md : Mod (fun _ => False) W4 W4.drew := (Mod.refl _ W4).drew
    have i1 : k / 127 < secN n := by unfold secN; omega
    have i2 := Nat.mod_lt k (show 0 < 127 by omega)
    obtain ⟨j, hj⟩ : ∃ j, (3 + k / 127) * 128 + 1 + k % 127 = j := ⟨_, rfl⟩
    have hjB : j < B.length := by omega
    have c1 : IntKind.i64.wrap ((k : Int) / 127) = ((k / 127 : Nat) : Int) := by rw [IntKind.wrap_i64]; omega
    have c2 : IntKind.i64.wrap (3 + ((k / 127 : Nat) : Int)) = ((3 + k / 127 : Nat) : Int) := by rw [IntKind.wrap_i64]; omega
    have c3 : IntKind.i64.wrap (((3 + k / 127 : Nat) : Int) * 128) = (((3 + k / 127) * 128 : Nat) : Int) := by rw [IntKind.wrap_i64]; omega
    have c4 : IntKind.i64.wrap ((((3 + k / 127) * 128 : Nat) : Int) + 1) = (((3 + k / 127) * 128 + 1 : Nat) : Int) := by rw [IntKind.wrap_i64]; omega
    have c5 : IntKind.i64.wrap ((((3 + k / 127) * 128 + 1 : Nat) : Int) + ((k % 127 : Nat) : Int)) = (j : Int) := by rw [IntKind.wrap_i64]; omega
    have c6 : IntKind.i64.wrap ((k : Int) % 127) = ((k % 127 : Nat) : Int) := by rw [IntKind.wrap_i64]; omega
    have c7 : (k : Int).tmod 127 = ((k % 127 : Nat) : Int) := by rw [Int.tmod_eq_emod_of_nonneg (by omega)]; omega
    have c8 : IntKind.i64.wrap ((k : Int) + 1) = ((k + 1 : Nat) : Int) := by rw [IntKind.wrap_i64]; omega
    obtain ⟨b', off', cap', C, e, fz, hv, hC, hCj⟩ := rd_at (hW.mod (m4.trans md) fun _ _ h => h) (i := j) hjB
    injection hv with e1 e2 e3
    injection e1 with e1
    injection e1 with e1 e4 e5
    subst e1 e4
    have hcj : C[off + j]? = some (.int .u8 (B.getD j 0).toNat) := by
      rw [hCj, bv, List.getElem?_map, List.getElem?_eq_getElem hjB]
      simp [List.getD, hjB]
    refine rdP_of f2 ?_
    refine rdW_of (sload (md.keep hm4 id)).2.2.1 ?_
    refine rdP_of (v := .int .i64 ((k / 127 : Nat) : Int)) (fun w => by simp [-Int.natCast_ediv, go_sem, c1]) ?_
    refine rdP_of (v := .int .i64 ((3 + k / 127 : Nat) : Int)) (fun w => by simp [-Int.natCast_ediv, -Int.natCast_add, go_sem, c2]) ?_
    refine rdP_of (v := .int .i64 (((3 + k / 127) * 128 : Nat) : Int)) (fun w => by simp [-Int.natCast_ediv, -Int.natCast_add, -Int.natCast_mul, go_sem, c3]) ?_
    refine rdP_of (v := .int .i64 (((3 + k / 127) * 128 + 1 : Nat) : Int)) (fun w => by simp [-Int.natCast_ediv, -Int.natCast_add, -Int.natCast_mul, go_sem, c4]) ?_
    refine rdP_of (v := .int .i64 ((k % 127 : Nat) : Int)) (fun w => by simp [-Int.natCast_emod, go_sem, c6, c7]) ?_
    refine rdP_of (v := .int .i64 (j : Int)) (fun w => by simp [-Int.natCast_ediv, -Int.natCast_emod, -Int.natCast_add, -Int.natCast_mul, go_sem, c5]) ?_
    refine rdP_of (index8 hjB) ?_
    refine rdW_of (v := .int .u8 (B.getD j 0).toNat) (by simp [go_sem, hC, hcj]) ?_
    refine litL [B.getD j 0] rfl rfl (by omega) fun v83 W5 o5 m5 n5 => ?_
    have m45 := md.trans m5
    have h5 := m45.keep hm4 id
    refine ⟨(sload h5).2.2.1, ?_⟩
    refine rx_append Try.underlying23 Try.underlying23 (elemT_of uT1) (o4.mod m45 fun _ _ h => h) o5.rd (bv_one _) (by omega) fun v6 W6 o6 m6 n6 => ?_
    have ed : bv (datL B k) ++ bv [B.getD j 0] = bv (datL B (k + 1)) := by rw [datL_succ, hj, bv_append]
    rw [ed] at o6
    have m46 : Mod (fun _ => False) W W6 := (m4.trans m45).on m6 fun b hb => .inr (f4 b hb).1
    have h6 := m6.keep h5 fun hb => (f4 mb hb).2 rfl
    have f6 : ∀ y, inSl v6 y → W.heap.size ≤ y ∧ y ≠ mb := fun y hy => by
      rcases n6 y hy with h | h
      · exact f4 y h
      · have := m4.size; have := m45.size; have := lt_of_heap h5; omega
    obtain ⟨a6, c6', e6, -⟩ := o6.isSl
    refine rdP_of f2 ?_
    refine ru_data h6 ⟨_, _, _, e6⟩ fun W7 m7 h7 => ?_
    refine rv_of (v := .int .i64 ((k + 1 : Nat) : Int)) (w' := W7) (by simp [-Int.natCast_add, go_sem, c8]) ?_
    exact hKN _ _ ⟨k + 1, v6, hlt, rfl, m46.on m7 fun b hb => .inr (by omega), h7 _, o6.mod m7 fun y hy e => (f6 y hy).2 e, f6⟩ (by simp; omega)
  · rw [decide_eq_false hlt, ifB_bool, if_neg (by simp)]
    have : k = n := by omega
    subst this
    have hraw : rawL B = ⟨ix, tm, datL B k⟩ := by unfold rawL; rw [hix, htm, hn]
    have hdl := datL_length B k
    have hR4 : ShR W4 ⟨ix, tm, datL B k⟩ (.slice sa k sc) := by
      have := o4.rd
      unfold ShR
      rw [show (ShotM.mk ix tm (datL B k)).data.length = k from hdl]
      exact this
    refine rv_of (sload hm4).2.2.2 ?_
    have hl2 : secN (ShotM.mk ix tm (datL B k)).data.length = secN k := by rw [show (ShotM.mk ix tm (datL B k)).data.length = k from hdl]
    refine ca_form21 (x := ⟨ix, tm, datL B k⟩) ⟨ixl, tml, by rw [show (ShotM.mk ix tm (datL B k)).data.length = k from hdl]; omega⟩ (by rw [show (ShotM.mk ix tm (datL B k)).data.length = k from hdl]; exact hn6) hR4 fun v5 W5 A5 => ?_
    rw [hl2] at A5
    have h5 := A5.mod.keep hm4 id
    have R5 : ∀ W', Mod (fun _ => False) W5 W' → ShR W' ⟨ix, tm, datL B k⟩ (.slice sa k sc) := fun W' m => hR4.mod (A5.mod.trans m) fun _ _ h => h
    obtain ⟨y, hy⟩ : ∃ y : ShotM, (⟨ix, tm, datL B k⟩ : ShotM) = y := ⟨_, rfl⟩
    rw [hy] at hR4 R5 h5 A5 hraw
    have hyl : y.data.length = k := by rw [← hy]; exact hdl
    refine joinK (fun s W' => Mod (fun _ => False) W5 W' ∧ s = (.bool (decide (y.may = false ∨ formS y ≠ B.take (384 + 128 * secN k))), ())) (fun JJ hJJ => ?_) ?_
    · have md : Mod (fun _ => False) W5 W5.drew := (Mod.refl _ W5).drew
      refine rdW_of (sload (md.keep h5 id)).2.2.2 ?_
      refine ca_may21 (R5 _ md) (by omega) fun W6 m6 => ?_
      have m56 := md.trans m6
      refine rdP_of (v := .bool (!y.may)) (fun w => by simp [go_sem]) ?_
      cases hmay : y.may
      · rw [Bool.not_false, ifB_bool, if_pos rfl]
        exact hJJ _ _ ⟨m56, by simp [hmay]⟩
      · rw [Bool.not_true, ifB_bool, if_neg (by simp)]
        have A6 := A5.on m56
        obtain ⟨pa, pc, rfl, hpc⟩ := A6.own.isSl
        refine rdX_toStr Try.underlying23 Try.underlying5 Try.underlying9 A6.own.rd ?_
        refine rdW_of (v := .int .i64 ((384 + 128 * secN k : Nat) : Int)) (by simp [-Int.natCast_add, -Int.natCast_mul, go_sem]) ?_
        refine rdP_of (slice_hi (by omega) (by omega)) ?_
        have rB : Rd W6 1 (.slice (some ⟨b0, off, none⟩) (384 + 128 * secN k) c) (384 + 128 * secN k) (bv (B.take (384 + 128 * secN k))) := by
          have := hrd W6 (m4.trans (A5.mod.trans m56)) 0 (384 + 128 * secN k) (by omega) (by omega) c (by omega)
          rwa [Nat.add_zero, List.drop_zero] at this
        refine rdX_toStr Try.underlying23 Try.underlying5 Try.underlying9 rB ?_
        refine rdP_of (neq_str _ _) ?_
        exact hJJ _ _ ⟨m56, by simp [hmay]⟩
    rintro _ W6 ⟨m6, rfl⟩
    have m66 : Mod (fun _ => False) W W6 := m4.trans (A5.mod.trans m6)
    unfold J79_0
    intro _
    by_cases hc : y.may = false ∨ formS y ≠ B.take (384 + 128 * secN k)
    · rw [decide_eq_true hc, ifB_bool, if_pos rfl]
      refine none_ ?_ _ m66
      unfold fileL
      rw [if_neg h384, hn, if_neg hbig, hraw, if_pos hc]
    · rw [decide_eq_false hc, ifB_bool, if_neg (by simp)]
      have hf : fileL B = some y := by
        unfold fileL
        rw [if_neg h384, hn, if_neg hbig, hraw, if_neg hc]
      refine rv_of (sload (m6.keep h5 id)).2.2.2 ?_
      refine ru_shot (m66.keep hA id) ⟨_, _, _, rfl⟩ fun W7 m7 h7 => ?_
      refine rdW_of (sload h7).2.2.2 ?_
      refine hK1 y hf W7 _ ((R5 _ m6).mod m7 fun u hu e => ?_) ((mA.trans m66).on m7 fun b hb => .inr (by omega)) fun u hu => by have := (f4 u hu).1; have := mA.size; omega
      have := (f4 u hu.sl).1
      omega
end Go.Proofs
