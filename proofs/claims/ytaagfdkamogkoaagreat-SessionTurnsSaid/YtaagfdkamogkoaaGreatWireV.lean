/-
  The law on turns, walked.
  Conditions: where they ask for any, each theorem names them.
-/
import Derived.Test.YtaagfdkamogkoaaGreatWireU
set_option linter.unusedVariables false
set_option linter.unusedSimpArgs false
namespace Go.Proofs
open Go Go.Vc
attribute [local congr] Ca_congV

theorem fldT (p i : Nat) (W : World) (h : i < 3) : (Instr.fieldAt 25 (.pointer (some ⟨p, 0, none⟩)) i).run Tryz.prog W = .ok (.pointer (some ⟨p, i, none⟩)) W := by
  match i, h with
  | 0, _ => simp [go_sem]
  | 1, _ => simp [go_sem]
  | 2, _ => simp [go_sem]

theorem rdT_of {o : Tn} (h : o.May) (hq : o.q < 18446744073709551616) : rdT (turnB o) = (o, 0) := by
  unfold rdT; rw [turnR_of h hq]
theorem rdT_len (l : List UInt8) : (rdT l).1.b.length ≤ 2000 ∧ (rdT l).1.c < 18446744073709551616 ∧ (rdT l).1.q < 18446744073709551616 := by
  unfold rdT
  cases h : turnR l with
  | none => exact ⟨Nat.zero_le _, by decide, by decide⟩
  | some o =>
    have hlt := turnO_lt l
    unfold turnR at h
    split at h
    · cases h; exact ⟨hlt.2.2, hlt.1, hlt.2.1⟩
    · cases h

set_option maxRecDepth 10000 in
theorem ca_turns {w : World} {K : Kont} {o : Tn} {v vb : Value} {lb : List UInt8} (hv : Rd w 1 v o.b.length (bv o.b)) (hb : Rd w 1 vb lb.length (bv lb)) (hc : o.c < 18446744073709551616) (hq : o.q < 18446744073709551616)
    (hK : ∀ w', Mod (fun _ => False) w w' → K (.bool true) w') : Ca Tryz.prog 3 #[tnV o.c o.q v, vb] w K := by
  apply ca3
  unfold F3
  obtain ⟨va, vc, hve⟩ := hv.isSl
  obtain ⟨ba, bc, hbe⟩ := hb.isSl
  have m1 : Mod (fun _ => False) w (w.alloc (.cells #[.int .u64 o.c, .int .u64 o.q, v] 25)) := (Mod.refl _ w).alloc _
  refine rvS (v := .pointer (some ⟨w.heap.size, 0, none⟩)) (w' := w.alloc (.cells #[.int .u64 o.c, .int .u64 o.q, v] 25)) (by simp [go_sem, tnV]) ?_
  obtain ⟨p, hp0⟩ : ∃ p, p = w.heap.size := ⟨_, rfl⟩
  have b1 : hp (w.alloc (.cells #[.int .u64 o.c, .int .u64 o.q, v] 25)) p = some (.cells #[.int .u64 o.c, .int .u64 o.q, v] 25 (0, 0)) := by rw [hp0]; simp [go_sem]
  rw [← hp0]
  generalize w.alloc (.cells #[.int .u64 o.c, .int .u64 o.q, v] 25) = w1 at m1 b1 ⊢
  have hv1 := hv.mod m1 fun _ _ h => h
  have hb1 := hb.mod m1 fun _ _ h => h
  refine JoinW.at (fun st W => st = (.bool (decide (5000 < o.b.length ∨ 5000 < lb.length)), ()) ∧ W = w1) ?_ ?_
  · refine rvS (fldT p 2 w1 (by decide)) ?_
    refine rvS (v := v) (w' := w1) (by simp [go_sem, b1]) ?_
    refine rnS (v := .int .i64 o.b.length) (w' := w1) (by rw [hve]; simp [go_sem]) ?_
    by_cases h1 : 5000 < o.b.length
    · have h1' : (5000 : Int) < (o.b.length : Int) := by omega
      refine rvS (v := .bool true) (w' := w1) (by simp [go_sem, h1']) ?_
      rw [ifB_bool, if_pos rfl]
      simp [h1]
    · have h1' : ¬ (5000 : Int) < (o.b.length : Int) := by omega
      refine rvS (v := .bool false) (w' := w1) (by simp [go_sem, h1']) ?_
      rw [ifB_bool, if_neg Bool.false_ne_true]
      refine rnS (v := .int .i64 lb.length) (w' := w1) (by rw [hbe]; simp [go_sem]) ?_
      refine rvS (v := .bool (decide ((5000 : Int) < (lb.length : Int)))) (w' := w1) (by simp [go_sem]) ?_
      refine ⟨?_, rfl⟩
      have e : decide ((5000 : Int) < (lb.length : Int)) = decide (5000 < o.b.length ∨ 5000 < lb.length) := by rw [decide_eq_decide]; omega
      rw [e]
  rintro _ w1 ⟨rfl, rfl⟩
  unfold J3_1
  intro _
  by_cases hlong : 5000 < o.b.length ∨ 5000 < lb.length
  · rw [ifB_bool, if_pos (by simpa using hlong)]
    exact ca_sknown fun w2 m2 => hK _ (m1.trans m2)
  rw [ifB_bool, if_neg (by simpa using hlong)]
  have hlo : o.b.length ≤ 5000 := by omega
  have hlb : lb.length ≤ 5000 := by omega
  refine litV [] uBs (elemT_of u8E) rfl rfl (by omega) fun v2 w2 o2 m2 n2 => ?_
  have M2 := m1.trans m2
  have b2 := m2.hpk b1 id
  refine rvS (fldT p 2 w2 (by decide)) ?_
  refine rvS (v := v) (w' := w2) (by simp [go_sem, b2]) ?_
  refine rx_append uBs uBs (elemT_of u8E) o2 (hv.mod M2 fun _ _ h => h) (bv_one _) (by omega) fun vi w3 o3 m3 n3 => ?_
  have hpw : w.heap.size ≤ p := by omega
  have n2p : ∀ b, inSl v2 b → b ≠ p := fun b hb' => by have h1 := (n2 b hb').1; have h2 := lt_of_heap b1; omega
  have M3 : Mod (fun _ => False) w w3 := M2.on m3 fun b hb' => .inr (Nat.le_trans m1.size (n2 b hb').1)
  have b3 := m3.hpk b2 fun hb' => n2p _ hb' rfl
  have oi : Own w3 5 1 vi o.b.length (bv o.b) := by simpa using o3
  refine rvS (fldT p 0 w3 (by decide)) ?_
  refine rvS (v := .int .u64 o.c) (w' := w3) (by simp [go_sem, b3]) ?_
  refine rvS (fldT p 1 w3 (by decide)) ?_
  refine rvS (v := .int .u64 o.q) (w' := w3) (by simp [go_sem, b3]) ?_
  obtain ⟨ia, ic, hvi, -⟩ := oi.isSl
  refine rvS (v := tnV o.c o.q vi) (w' := w3) (by rw [hvi]; simp [go_sem, tnV]) ?_
  refine ca_sbytes oi.rd (by omega) hc hq fun s ls es w4 hle o4 m4 n4 => ?_
  have M4 := M3.trans m4
  have b4 := m4.hpk b3 id
  have hls : ls.length ≤ 10000 := by
    by_cases hm : o.May
    · rw [if_pos hm] at hle
      have h1 := natB_len10 hc
      have h2 := natB_len10 hq
      have h3 := natB_len10 (n := o.b.length) (by omega)
      rw [hle.1, turnB, textB, List.length_append, List.length_append, List.length_append]
      omega
    · rw [if_neg hm] at hle
      rw [hle.1]; simp
  refine rvS (v := s) (w' := w4) (by simp [go_sem]) ?_
  refine rvS (v := .int .i64 es) (w' := w4) (by simp [go_sem]) ?_
  refine ca_sread (hb.mod M4 fun _ _ h => h) (by omega) fun vy w5 o5 m5 n5 => ?_
  have M5 := M4.trans m5
  have b5 := m5.hpk b4 id
  have hRl := rdT_len lb
  obtain ⟨R, hR⟩ : ∃ R, R = rdT lb := ⟨_, rfl⟩
  rw [← hR] at o5 hRl ⊢
  refine rvS (v := tnV R.1.c R.1.q vy) (w' := w5) (by simp [go_sem]) ?_
  refine rvS (v := .int .i64 R.2) (w' := w5) (by simp [go_sem]) ?_
  -- a variable for what was read
  have mka : ∀ (W : World) (K' : Kont) (x : Tn) (vx : Value), (∃ a n c, vx = .slice a n c) → (∀ q W', Mod (fun _ => False) W W' → W.heap.size ≤ q → hp W' q = some (.cells #[.int .u64 x.c, .int .u64 x.q, vx] 25 (0, 0)) → K' (.pointer (some ⟨q, 0, none⟩)) W') →
      rv Tryz.prog (Instr.alloc 25 true (.tuple #[])) W fun v49 w50 => ru Tryz.prog (Instr.storeAt 25 v49 (tnV x.c x.q vx)) w50 fun w51 => K' v49 w51 := by
    intro W K' x vx hsl hk
    have mA : Mod (fun _ => False) W (W.alloc (.cells #[.int .u64 0, .int .u64 0, .slice none 0 0] 25)) := (Mod.refl _ W).alloc _
    refine rvS (v := .pointer (some ⟨W.heap.size, 0, none⟩)) (w' := W.alloc (.cells #[.int .u64 0, .int .u64 0, .slice none 0 0] 25)) (by simp [go_sem]) ?_
    have hbA : hp (W.alloc (.cells #[.int .u64 0, .int .u64 0, .slice none 0 0] 25)) W.heap.size = some (.cells #[.int .u64 0, .int .u64 0, .slice none 0 0] 25 (0, 0)) := by simp [go_sem]
    obtain ⟨w8, hs8, b8, m8⟩ := stTn (x := x.c) (y := x.q) (v := vx) hbA hsl
    exact ruS hs8 (hk _ _ (mA.on m8 fun b hb => .inr (by rw [hb]; exact Nat.le_refl _)) (Nat.le_refl _) b8)
  obtain ⟨ya, yc, hvy, -⟩ := o5.isSl
  refine mka w5 _ R.1 vy ⟨_, _, _, hvy⟩ fun q w6 m6 hq6 b6 => ?_
  have M6 := M5.trans m6
  have p6 := m6.hpk b5 id
  refine ca_rread (hb.mod M6 fun _ _ h => h) (by omega) fun vz w7 o7 m7 n7 => ?_
  have M7 := M6.trans m7
  have p7 := m7.hpk p6 id
  have q7 := m7.hpk b6 id
  rw [← hR] at o7 ⊢
  refine rvS (v := tnV R.1.c R.1.q vz) (w' := w7) (by simp [go_sem]) ?_
  refine rvS (v := .int .i64 R.2) (w' := w7) (by simp [go_sem]) ?_
  obtain ⟨za, zc, hvz, -⟩ := o7.isSl
  refine mka w7 _ R.1 vz ⟨_, _, _, hvz⟩ fun z w8 m8 hz8 z8 => ?_
  have M8 := M7.trans m8
  have p8 := m8.hpk p7 id
  have q8 := m8.hpk q7 id
  have oy8 := ((o5.mod m6 fun _ _ h => h).mod m7 fun _ _ h => h).mod m8 fun _ _ h => h
  have oz8 := o7.mod m8 fun _ _ h => h
  have oi8 := ((((oi.mod m4 fun _ _ h => h).mod m5 fun _ _ h => h).mod m6 fun _ _ h => h).mod m7 fun _ _ h => h).mod m8 fun _ _ h => h
  have os8 := (((o4.mod m5 fun _ _ h => h).mod m6 fun _ _ h => h).mod m7 fun _ _ h => h).mod m8 fun _ _ h => h
  have hv8 := hv.mod M8 fun _ _ h => h
  refine JoinW.at (fun st W => st = (.bool false, ()) ∧ W = w8) ?_ ?_
  · refine rvS (fldT q 0 w8 (by decide)) ?_
    refine rvS (v := .int .u64 R.1.c) (w' := w8) (by simp [go_sem, q8]) ?_
    refine rvS (fldT z 0 w8 (by decide)) ?_
    refine rvS (v := .int .u64 R.1.c) (w' := w8) (by simp [go_sem, z8]) ?_
    refine rvS (v := .bool false) (w' := w8) (by simp [go_sem]) ?_
    rw [ifB_bool, if_neg Bool.false_ne_true]
    refine rvS (fldT q 1 w8 (by decide)) ?_
    refine rvS (v := .int .u64 R.1.q) (w' := w8) (by simp [go_sem, q8]) ?_
    refine rvS (fldT z 1 w8 (by decide)) ?_
    refine rvS (v := .int .u64 R.1.q) (w' := w8) (by simp [go_sem, z8]) ?_
    refine rvS (v := .bool false) (w' := w8) (by simp [go_sem]) ?_
    rw [ifB_bool, if_neg Bool.false_ne_true]
    refine rvS (fldT q 2 w8 (by decide)) ?_
    refine rvS (v := vy) (w' := w8) (by simp [go_sem, q8]) ?_
    refine rx_toStr uBs uU8 uStr oy8.rd ?_
    refine rvS (fldT z 2 w8 (by decide)) ?_
    refine rvS (v := vz) (w' := w8) (by simp [go_sem, z8]) ?_
    refine rx_toStr uBs uU8 uStr oz8.rd ?_
    refine rvS (neqStr _ _ _) ?_
    rw [ifB_bool, if_neg (by simp)]
    refine rvS (v := .bool false) (w' := w8) (by simp [go_sem]) ?_
    rw [ifB_bool, if_neg Bool.false_ne_true]
    refine rx_toStr uBs uU8 uStr oi8.rd ?_
    refine rvS (fldT p 2 w8 (by decide)) ?_
    refine rvS (v := v) (w' := w8) (by simp [go_sem, p8]) ?_
    refine rx_toStr uBs uU8 uStr hv8 ?_
    refine rvS (neqStr _ _ _) ?_
    simp
  rintro _ w8 ⟨rfl, rfl⟩
  unfold J3_0
  intro _
  rw [ifB_bool, if_neg Bool.false_ne_true]
  refine rvS (v := tnV o.c o.q v) (w' := w8) (by simp [go_sem, p8, tnV]) ?_
  refine ca_rmay hv8 (by omega) fun w9 m9 => ?_
  have M9 := M8.trans m9
  have p9 := m9.hpk p8 id
  refine rvS (v := .bool (!decide o.May)) (w' := w9) (by simp [go_sem]) ?_
  by_cases hmay : o.May
  · rw [ifB_bool, if_neg (by simp [hmay])]
    rw [if_pos hmay] at hle
    obtain ⟨rfl, rfl⟩ := hle
    have os9 := os8.mod m9 fun _ _ h => h
    refine ca_sread os9.rd (by omega) fun vw wa oa ma na => ?_
    rw [rdT_of hmay hq] at oa ⊢
    have MA := M9.trans ma
    have pa := ma.hpk p9 id
    refine rvS (v := tnV o.c o.q vw) (w' := wa) (by simp [go_sem]) ?_
    refine rvS (v := .int .i64 0) (w' := wa) (by simp [go_sem]) ?_
    obtain ⟨xa, xc, hvw, -⟩ := oa.isSl
    refine mka wa _ o vw ⟨_, _, _, hvw⟩ fun r wb mb hrb rb => ?_
    have MB := MA.trans mb
    have pb := mb.hpk pa id
    refine rdPS (v := .bool true) (fun W => by simp [go_sem]) ?_
    rw [ifB_bool, if_pos rfl]
    refine rdPS (v := .bool true) (fun W => by simp [go_sem]) ?_
    rw [ifB_bool, if_pos rfl]
    have md : Mod (fun _ => False) wb wb.drew := (Mod.refl _ wb).drew
    have sd : ∀ W', Mod (fun _ => False) wb W' → Rd W' 1 s (turnB o).length (bv (turnB o)) := fun W' m => (((os9.mod ma fun _ _ h => h).mod mb fun _ _ h => h).mod m fun _ _ h => h).rd
    refine rdX_toStr uBs uU8 uStr (sd _ md) ?_
    have pd := md.hpk pb id
    refine rdWS (v := tnV o.c o.q v) (by simp [go_sem, pd, tnV]) ?_
    refine ca_rbytes (hv.mod (MB.trans md) fun _ _ h => h) (by omega) hc hq fun sB wc oc mc nc => ?_
    have Mc := md.trans mc
    refine ⟨run_toStr uBs uU8 uStr (sd _ Mc), ?_⟩
    refine rdX_toStr uBs uU8 uStr oc.rd ?_
    refine rdPS (v := .bool true) (fun W => by rw [eqlStr]; simp) ?_
    rw [ifB_bool, if_pos rfl]
    have rc := Mc.hpk rb id
    have pc := Mc.hpk pb id
    refine rdPS (fun W => fldT r 0 W (by decide)) ?_
    refine rdWS (v := .int .u64 o.c) (by simp [go_sem, rc]) ?_
    refine rdPS (fun W => fldT p 0 W (by decide)) ?_
    refine rdWS (v := .int .u64 o.c) (by simp [go_sem, pc]) ?_
    refine rdPS (v := .bool true) (fun W => by simp [go_sem]) ?_
    rw [ifB_bool, if_pos rfl]
    refine rdPS (fun W => fldT r 1 W (by decide)) ?_
    refine rdWS (v := .int .u64 o.q) (by simp [go_sem, rc]) ?_
    refine rdPS (fun W => fldT p 1 W (by decide)) ?_
    refine rdWS (v := .int .u64 o.q) (by simp [go_sem, pc]) ?_
    refine rdPS (v := .bool true) (fun W => by simp [go_sem]) ?_
    rw [ifB_bool, if_pos rfl]
    refine rdPS (fun W => fldT r 2 W (by decide)) ?_
    refine rdWS (v := vw) (by simp [go_sem, rc]) ?_
    refine rdX_toStr uBs uU8 uStr ((oa.mod mb fun _ _ h => h).mod Mc fun _ _ h => h).rd ?_
    refine rdPS (fun W => fldT p 2 W (by decide)) ?_
    refine rdWS (v := v) (by simp [go_sem, pc]) ?_
    refine rdX_toStr uBs uU8 uStr (hv.mod (MB.trans Mc) fun _ _ h => h) ?_
    refine rdPS (v := .bool true) (fun W => by rw [eqlStr]; simp) ?_
    rw [ifB_bool, if_pos rfl]
    exact ca_sknown fun wd md' => hK _ ((MB.trans Mc).trans md')
  · rw [ifB_bool, if_pos (by simp [hmay])]
    rw [if_neg hmay] at hle
    obtain ⟨rfl, rfl⟩ := hle
    refine rvS (v := .bool true) (w' := w9) (by simp [go_sem]) ?_
    rw [ifB_bool, if_pos rfl]
    obtain ⟨sa, sc, hse, -⟩ := os8.isSl
    refine rnS (v := .int .i64 0) (w' := w9) (by rw [hse]; simp [go_sem]) ?_
    refine rvS (v := .bool true) (w' := w9) (by simp [go_sem]) ?_
    rw [ifB_bool, if_pos rfl]
    exact ca_sknown fun wd md' => hK _ (M9.trans md')
end Go.Proofs
