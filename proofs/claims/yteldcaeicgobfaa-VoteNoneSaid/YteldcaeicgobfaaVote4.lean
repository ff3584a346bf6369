/-
  The contract of vote.read.
  Conditions: none.
-/
import Derived.Test.YteldcaeicgobfaaVote3
set_option linter.unusedSimpArgs false
set_option linter.unusedVariables false
namespace Go.Proofs
open Go Go.Vc

theorem joinW_congr {S : Type} {A : (S → World → Prop) → Prop} {B : S → World → Prop} : JoinW A B = JoinW A B := rfl
attribute [local congr] joinW_congr
def i8F (c : UInt8) : Int := IntKind.i8.wrap (IntKind.i8.wrap (c.toNat : Int) - 1)
def rawNum (p : List UInt8) : Nat := ofB ((p.drop 1).take 8)
def rawMark (p : List UInt8) : MarkM := ⟨ofB ((p.drop 9).take 8), i8F (p.getD 17 0), p.getD 18 0, ofB ((p.drop 19).take 8), ofB ((p.drop 27).take 8)⟩
def readP (p : List UInt8) : Nat × MarkM := if rawNum p = 0 ∨ (rawMark p).may = false ∨ p ≠ wr (rawNum p) (rawMark p) then (0, mark0) else (rawNum p, rawMark p)
theorem i8w (n : Int) : IntKind.i8.wrap n = (n + 128) % 256 - 128 := by
  simp [IntKind.wrap, IntKind.bits, IntKind.signed]; try omega
theorem i8F_range (c : UInt8) : -128 ≤ i8F c ∧ i8F c < 128 := by
  unfold i8F
  rw [i8w]
  omega
theorem ofB8_lt (l : List UInt8) : ofB (l.take 8) < 18446744073709551616 := by
  have h1 := ofB_lt (l.take 8)
  have h2 : 256 ^ (l.take 8).length ≤ 256 ^ 8 := Nat.pow_le_pow_right (by omega) (by simp; omega)
  omega
theorem rawMark_ok (p : List UInt8) : (rawMark p).ok := ⟨ofB8_lt _, (i8F_range _).1, (i8F_range _).2, ofB8_lt _, ofB8_lt _⟩

theorem eq_place {x y : List UInt8} (hx : x.length = 384) (hy : y.length = 384) (w : World) : (Op.equalIn 10000 127 (.agg (bv x).toArray) (.agg (bv y).toArray)).run Try.prog w = .ok (decide (x = y)) w := by
  obtain ⟨i1, h1, -⟩ := info_of_cells (P := Try.prog) (t := 125) (n := 127) (by kernel_rfl)
  obtain ⟨i2, h2, -⟩ := info_of_cells (P := Try.prog) (t := 5) (n := 0) (by kernel_rfl)
  exact eq_rows (m := 127) Try.underlying127 h1 Try.underlying125 h2 Try.underlying5 cu8 (by kernel_rfl) 9997 x y (by omega) (by omega) w
theorem eq_sector {x y : List UInt8} (hx : x.length = 128) (hy : y.length = 128) (w : World) : (Op.equalIn 10000 125 (.agg (bv x).toArray) (.agg (bv y).toArray)).run Try.prog w = .ok (decide (x = y)) w := by
  obtain ⟨i2, h2, -⟩ := info_of_cells (P := Try.prog) (t := 5) (n := 0) (by kernel_rfl)
  exact eq_bytes Try.underlying125 h2 Try.underlying5 cu8 9998 x y hx hy w

theorem neq_place {x y : List UInt8} (hx : x.length = 384) (hy : y.length = 384) (w : World) : (bin .neq 127 false (.agg (bv x).toArray) (.agg (bv y).toArray)).run Try.prog w = .ok (.bool (decide (x ≠ y))) w := by
  have := eq_place hx hy w
  generalize (bv x).toArray = A at this
  generalize (bv y).toArray = B at this
  simp [go_sem, this, Result.andThen]
theorem eql_sector {x y : List UInt8} (hx : x.length = 128) (hy : y.length = 128) (w : World) : (bin .eql 125 false (.agg (bv x).toArray) (.agg (bv y).toArray)).run Try.prog w = .ok (.bool (decide (x = y))) w := by
  have := eq_sector hx hy w
  generalize (bv x).toArray = A at this
  generalize (bv y).toArray = B at this
  simp [go_sem, this, Result.andThen]
theorem rd_sub {W : World} {p : Nat} {T : TypeId} {fz : Nat × Nat} {l : List UInt8} (h : hp W p = some (.cells (bv l).toArray T fz)) (i n cap : Nat) (hi : i + n ≤ l.length) (hc : n ≤ cap) : Rd W 1 (.slice (some ⟨p, i, none⟩) n cap) n (bv ((l.drop i).take n)) := by
  refine ⟨by simp; omega, .inr ⟨p, i, cap, rfl, hc, _, _, _, h, by simp; omega, ?_⟩⟩
  show ((bv l).drop i).take _ = _
  rw [bv_drop, bv_take, bv_length]
  congr 2
  simp; omega

theorem rv_of {P : Program} {s : Sem Value} {w w' : World} {K : Kont} {v : Value} (h : s.run P w = .ok v w') (hK : K v w') : rv P s w K := by
  rw [rv_iff]
  unfold rvD
  rw [h]
  exact hK
theorem rdP_of {P : Program} {s : Sem Value} {K : Value → Prop} {v : Value} (h : ∀ w, s.run P w = .ok v w) (hK : K v) : rdP P s K := ⟨⟨v, h, hK⟩⟩
/-- An aggregate in a box of its own. -/
theorem rv_box {P : Program} {t : TypeId} {cs : Array Value} {w : World} {K : Kont} (hK : K (.pointer (some ⟨w.heap.size, 0, none⟩)) (w.alloc (.cells cs t))) : rv P (Instr.box t (.agg cs)) w K := rv_of (v := .pointer (some ⟨w.heap.size, 0, none⟩)) (w' := w.alloc (.cells cs t)) rfl hK

theorem mod5 {w W : World} {b : Nat} (h : Mod (fun _ => False) w W) (lb : w.heap.size ≤ b) (v0 v1 v2 v3 v4 : Value) : Mod (fun _ => False) w (((((W.setCell ⟨b, 0, none⟩ v0).setCell ⟨b, 1, none⟩ v1).setCell ⟨b, 2, none⟩ v2).setCell ⟨b, 3, none⟩ v3).setCell ⟨b, 4, none⟩ v4) :=
  ((((h.setCell (.inr lb) _ _).setCell (.inr lb) _ _).setCell (.inr lb) _ _).setCell (.inr lb) _ _).setCell (.inr lb) _ _
set_option maxRecDepth 10000 in
theorem ca_vread {w : World} {K : Kont} {p : List UInt8} (hp384 : p.length = 384) (hK : ∀ w', Mod (fun _ => False) w w' → K (.tuple #[.int .u64 ((readP p).1 : Int), .agg (markV (readP p).2).toArray]) w') : Ca Try.prog 64 #[.agg (bv p).toArray] w K := by
  apply ca64
  unfold F64
  refine rv_box ?_
  have mA : Mod (fun _ => False) w (w.alloc (.cells (bv p).toArray 127)) := (Mod.refl _ w).alloc _
  have hA : hp (w.alloc (.cells (bv p).toArray 127)) w.heap.size = some (.cells (bv p).toArray 127 (0, 0)) := by simp only [hp_alloc, if_pos]
  generalize (w.alloc (.cells (bv p).toArray 127)) = W0 at mA hA
  obtain ⟨q, hq⟩ : ∃ q, w.heap.size = q := ⟨_, rfl⟩
  rw [hq] at hA ⊢
  have hql := lt_of_heap hA
  have hal : ∀ W, (Instr.alloc 59 true (.tuple #[])).run Try.prog W = .ok (.pointer (some ⟨W.heap.size, 0, none⟩)) (W.alloc (.cells (markV mark0).toArray 59)) := fun W => by simp [go_sem, markV, mark0]
  refine rv_of (hal W0) ?_
  have mW : Mod (fun _ => False) w (W0.alloc (.cells (markV mark0).toArray 59)) := mA.alloc _
  have hB : hp (W0.alloc (.cells (markV mark0).toArray 59)) W0.heap.size = some (.cells (markV mark0).toArray 59 (0, 0)) := by simp only [hp_alloc, if_pos]
  have hA : hp (W0.alloc (.cells (markV mark0).toArray 59)) q = some (.cells (bv p).toArray 127 (0, 0)) := by rw [hp_alloc, if_neg (by omega)]; exact hA
  generalize (W0.alloc (.cells (markV mark0).toArray 59)) = W at mW hB hA
  obtain ⟨b, hb⟩ : ∃ b, W0.heap.size = b := ⟨_, rfl⟩
  rw [hb] at hB hql ⊢
  have hbW := lt_of_heap hB
  have hrd : ∀ W', Mod (fun _ => False) W W' → ∀ i n : Nat, i + n ≤ 384 → ∀ cap, n ≤ cap → Rd W' 1 (.slice (some ⟨q, i, none⟩) n cap) n (bv ((p.drop i).take n)) := fun W' m i n h cap hc => rd_sub (m.keep hA id) i n cap (by omega) hc
  have tk : ∀ i n : Nat, 8 ≤ n → ((p.drop i).take n).take 8 = (p.drop i).take 8 := fun i n h => by rw [List.take_take, Nat.min_eq_left h]
  refine rv_of (v := .pointer (some ⟨q, 0, none⟩)) (w' := W) (by simp [go_sem]) ?_
  refine rv_of (v := .slice (some ⟨q, 1, none⟩) 127 127) (w' := W) (by simp [go_sem]) ?_
  refine ca_get64 (hrd W (Mod.refl _ _) 1 127 (by omega) 127 (by omega)) (by omega) ?_
  rw [tk 1 127 (by omega), show ofB ((p.drop 1).take 8) = rawNum p from rfl]
  refine joinK (fun s W' => ∃ mb, s = (.pointer (some ⟨mb, 0, none⟩), ()) ∧ Mod (fun _ => False) W W' ∧ hp W' mb = some (.cells (markV (rawMark p)).toArray 59 (0, 0)) ∧ W.heap.size ≤ mb) (fun JJ hJJ => ?_) ?_
  · refine rdP_of (v := .slice (some ⟨q, 9, none⟩) 119 119) (fun w => by simp [go_sem]) ?_
    refine rdP_of (v := .pointer (some ⟨q, 17, none⟩)) (fun w => by simp [go_sem]) ?_
    obtain ⟨C, hC⟩ : ∃ C, (bv p).toArray = C := ⟨_, rfl⟩
    have hq17 : C[17]? = some (.int .u8 (p.getD 17 0).toNat) := by rw [← hC, List.getElem?_toArray, bv, List.getElem?_map, List.getElem?_eq_getElem (by omega)]; simp [List.getD, show 17 < p.length by omega]
    have hq18 : C[18]? = some (.int .u8 (p.getD 18 0).toNat) := by rw [← hC, List.getElem?_toArray, bv, List.getElem?_map, List.getElem?_eq_getElem (by omega)]; simp [List.getD, show 18 < p.length by omega]
    have hAC : ∀ W', Mod (fun _ => False) W W' → hp W' q = some (.cells C 127 (0, 0)) := fun W' m => by rw [← hC]; exact m.keep hA id
    have ld17 : ∀ W', Mod (fun _ => False) W W' → (Instr.loadAt 5 (.pointer (some ⟨q, 17, none⟩))).run Try.prog W' = .ok (.int .u8 (p.getD 17 0).toNat) W' := fun W' m => by simp [go_sem, hAC W' m, hq17]
    have ld18 : ∀ W', Mod (fun _ => False) W W' → (Instr.loadAt 5 (.pointer (some ⟨q, 18, none⟩))).run Try.prog W' = .ok (.int .u8 (p.getD 18 0).toNat) W' := fun W' m => by simp [go_sem, hAC W' m, hq18]
    have cv : ∀ W', (convert 5 57 (.int .u8 ((p.getD 17 0).toNat : Int))).run Try.prog W' = .ok (.int .i8 (IntKind.i8.wrap ((p.getD 17 0).toNat : Int))) W' := fun W' => by simp [go_sem]
    have md : Mod (fun _ => False) W W.drew := (Mod.refl _ W).drew
    refine rdW_of (ld17 _ md) ?_
    refine rdW_of (cv _) ?_
    refine rdP_of (v := .int .i8 (i8F (p.getD 17 0))) (fun w => by simp [go_sem, i8F]) ?_
    refine rdP_of (v := .pointer (some ⟨q, 18, none⟩)) (fun w => by simp [go_sem]) ?_
    refine rdW_of (ld18 _ md) ?_
    refine rdP_of (v := .slice (some ⟨q, 19, none⟩) 109 109) (fun w => by simp [go_sem]) ?_
    refine rdP_of (v := .slice (some ⟨q, 27, none⟩) 101 101) (fun w => by simp [go_sem]) ?_
    have bld : ∀ w, (Instr.build 59 #[(0, .int .u64 (ofB ((p.drop 9).take 8))), (1, .int .i8 (i8F (p.getD 17 0))), (2, .int .u8 (p.getD 18 0).toNat), (3, .int .u64 (ofB ((p.drop 19).take 8))), (4, .int .u64 (ofB ((p.drop 27).take 8)))]).run Try.prog w = .ok (.agg (markV (rawMark p)).toArray) w := fun w => by simp [go_sem, markV, rawMark]
    have g1 : ∀ W', Mod (fun _ => False) W W' → ∀ K : Kont, K (.int .u64 (ofB ((p.drop 9).take 8))) W' → Ca Try.prog 84 #[.slice (some ⟨q, 9, none⟩) 119 119] W' K := fun W' m K h => ca_get64 (hrd W' m 9 119 (by omega) 119 (by omega)) (by omega) (by rw [tk 9 119 (by omega)]; exact h)
    have g2 : ∀ W', Mod (fun _ => False) W W' → ∀ K : Kont, K (.int .u64 (ofB ((p.drop 19).take 8))) W' → Ca Try.prog 84 #[.slice (some ⟨q, 19, none⟩) 109 109] W' K := fun W' m K h => ca_get64 (hrd W' m 19 109 (by omega) 109 (by omega)) (by omega) (by rw [tk 19 109 (by omega)]; exact h)
    have g3 : ∀ W', Mod (fun _ => False) W W' → ∀ K : Kont, K (.int .u64 (ofB ((p.drop 27).take 8))) W' → Ca Try.prog 84 #[.slice (some ⟨q, 27, none⟩) 101 101] W' K := fun W' m K h => ca_get64 (hrd W' m 27 101 (by omega) 101 (by omega)) (by omega) (by rw [tk 27 101 (by omega)]; exact h)
    have al : ∀ W', Mod (fun _ => False) W W' → Mod (fun _ => False) W (W'.alloc (.cells (markV mark0).toArray 59)) ∧ hp (W'.alloc (.cells (markV mark0).toArray 59)) W'.heap.size = some (.cells (markV mark0).toArray 59 (0, 0)) := fun W' m => ⟨m.alloc _, by simp only [hp_alloc, if_pos]⟩
    have fin : ∀ W' mb, Mod (fun _ => False) W W' → hp W' mb = some (.cells (markV mark0).toArray 59 (0, 0)) → W.heap.size ≤ mb → ru Try.prog (Instr.storeAt 59 (.pointer (some ⟨mb, 0, none⟩)) (.agg (markV (rawMark p)).toArray)) W' fun w => JJ (.pointer (some ⟨mb, 0, none⟩), ()) w := by
      intro W' mb m hm hmb
      unfold markV mark0 at hm
      simp only [markV]
      simp [go_sem, hm]
      refine hJJ _ _ ⟨mb, rfl, ((((m.setCell (.inr hmb) _ _).setCell (.inr hmb) _ _).setCell (.inr hmb) _ _).setCell (.inr hmb) _ _).setCell (.inr hmb) _ _, ?_, hmb⟩
      simp [go_sem, hm, markV]
    refine ⟨g1 _ md _ ⟨ld18 _ md, cv _, ld17 _ md, ?_, ?_⟩, ?_⟩
    · refine g2 _ md _ ⟨ld18 _ md, cv _, ld17 _ md, ?_, ?_⟩
      · refine g3 _ md _ ⟨ld18 _ md, cv _, ld17 _ md, ?_⟩
        refine rdP_of bld ?_
        obtain ⟨m1, h1⟩ := al _ md
        exact rv_of (hal _) ⟨ld18 _ m1, cv _, ld17 _ m1, fin _ _ m1 h1 md.size⟩
      · obtain ⟨m1, h1⟩ := al _ md
        refine rv_of (hal _) ⟨ld18 _ m1, cv _, ld17 _ m1, ?_⟩
        refine g3 _ m1 _ ⟨ld18 _ m1, cv _, ld17 _ m1, ?_⟩
        exact rdP_of bld (fin _ _ m1 h1 md.size)
    · obtain ⟨m1, h1⟩ := al _ md
      refine rv_of (hal _) ⟨ld18 _ m1, cv _, ld17 _ m1, ?_⟩
      refine g2 _ m1 _ ⟨ld18 _ m1, cv _, ld17 _ m1, ?_⟩
      refine g3 _ m1 _ ⟨ld18 _ m1, cv _, ld17 _ m1, ?_⟩
      exact rdP_of bld (fin _ _ m1 h1 md.size)
    · obtain ⟨m1, h1⟩ := al _ md
      refine rv_of (hal _) ⟨ld18 _ m1, cv _, ld17 _ m1, ?_⟩
      refine g1 _ m1 _ ⟨ld18 _ m1, cv _, ld17 _ m1, ?_⟩
      refine g2 _ m1 _ ⟨ld18 _ m1, cv _, ld17 _ m1, ?_⟩
      refine g3 _ m1 _ ⟨ld18 _ m1, cv _, ld17 _ m1, ?_⟩
      exact rdP_of bld (fin _ _ m1 h1 md.size)
  rintro _ W2 ⟨mb, rfl, m2, hmb, lmb⟩
  unfold J64_1
  intro _
  have hA2 : ∀ W', Mod (fun _ => False) W2 W' → hp W' q = some (.cells (bv p).toArray 127 (0, 0)) := fun W' m => (m2.trans m).keep hA id
  have hB2 : hp W2 b = some (.cells (markV mark0).toArray 59 (0, 0)) := m2.keep hB id
  have okm := rawMark_ok p
  have ldm : ∀ W', Mod (fun _ => False) W2 W' → (Instr.loadAt 59 (.pointer (some ⟨mb, 0, none⟩))).run Try.prog W' = .ok (.agg (markV (rawMark p)).toArray) W' := fun W' m => by
    have := m.keep hmb id
    have h : hp W' mb = some (.cells #[.int .u64 ((rawMark p).term : Int), .int .i8 (rawMark p).for_, .int .u8 ((rawMark p).file.toNat : Int), .int .u64 ((rawMark p).base : Int), .int .u64 ((rawMark p).bt : Int)] 59 (0, 0)) := this
    simp [go_sem, h, markV]
  have hpl : (bv p).length = 383 + 1 := by simp [hp384]
  have hnum : rawNum p < 18446744073709551616 := ofB8_lt _
  have hwl : (wr (rawNum p) (rawMark p)).length = 384 := by
    unfold wr
    rw [wrN_length]
  refine joinK (fun s W' => Mod (fun _ => False) W2 W' ∧ s = (.bool (decide (rawNum p = 0 ∨ (rawMark p).may = false ∨ p ≠ wr (rawNum p) (rawMark p))), ())) (fun JJ hJJ => ?_) ?_
  · have md : Mod (fun _ => False) W2 W2.drew := (Mod.refl _ W2).drew
    refine rdP_of (v := .bool (decide (rawNum p = 0))) (fun w => ?_) ?_
    · show (bin .eql 27 true (.int .u64 (rawNum p : Int)) (.int .u64 0)).run Try.prog w = _
      simp [go_sem]
      rw [Bool.eq_iff_iff]
      simp
    by_cases h0 : rawNum p = 0
    · simp only [h0, decide_true, ifB_bool, if_true]
      exact hJJ _ _ ⟨md, by simp [h0]⟩
    · simp only [h0, decide_false, ifB_bool, Bool.false_eq_true, if_false]
      refine rdW_of (ldm _ md) ?_
      refine ca_vmay fun W3 m3 => ?_
      have m23 := md.trans m3
      refine rdP_of (v := .bool (!(rawMark p).may)) (fun w => by simp [go_sem]) ?_
      cases hmay : (rawMark p).may
      · simp only [Bool.not_false, ifB_bool, if_true]
        exact hJJ _ _ ⟨m23, by simp [hmay]⟩
      · simp only [Bool.not_true, ifB_bool, Bool.false_eq_true, if_false]
        refine rdX_bigS (bv p) 383 plT1 plT2 hpl (At.whole (hA2 _ m23)) ?_
        refine rdW_of (ldm _ m23) ?_
        refine ca_written hnum okm fun W4 m4 => ?_
        have m24 := m23.trans m4
        refine ⟨run_bigS plT1 plT2 hpl (At.whole (hA2 _ m24)), ?_⟩
        refine rdP_of (v := .bool (decide (p ≠ wr (rawNum p) (rawMark p)))) (fun w => ?_) ?_
        · exact neq_place hp384 hwl w
        · exact hJJ _ _ ⟨m24, by simp [h0, hmay]⟩
  rintro _ W3 ⟨m3, rfl⟩
  unfold J64_0
  intro _
  have hB3 : hp W3 b = some (.cells #[.int .u64 0, .int .i8 0, .int .u8 0, .int .u64 0, .int .u64 0] 59 (0, 0)) := m3.keep hB2 id
  have t3 : Mod (fun _ => False) w W3 := (mW.trans m2).trans m3
  have lb : w.heap.size ≤ b := by rw [hq]; omega
  by_cases hc : rawNum p = 0 ∨ (rawMark p).may = false ∨ p ≠ wr (rawNum p) (rawMark p)
  · have hr : readP p = (0, mark0) := by unfold readP; rw [if_pos hc]
    rw [hr] at hK
    simp only [hc, decide_true, ifB_bool, if_true]
    simp [go_sem, hB3]
    exact hK _ (((((t3.setCell (.inr lb) _ _).setCell (.inr lb) _ _).setCell (.inr lb) _ _).setCell (.inr lb) _ _).setCell (.inr lb) _ _)
  · have hr : readP p = (rawNum p, rawMark p) := by unfold readP; rw [if_neg hc]
    rw [hr] at hK
    simp only [hc, decide_false, ifB_bool, Bool.false_eq_true, if_false]
    have md : Mod (fun _ => False) W2 W3.drew := m3.drew
    refine rdW_of (ldm _ md) ⟨ldm _ md, ?_⟩
    have hK' : ∀ w', Mod (fun _ => False) w w' → K (.tuple #[.int .u64 (rawNum p : Int), .agg (markV (rawMark p)).toArray]) w' := hK
    generalize rawNum p = num at hK'
    generalize rawMark p = mk at hK'
    simp only [markV] at hK' ⊢
    simp [go_sem, hB3]
    exact hK' _ (mod5 t3 lb _ _ _ _ _).drew
end Go.Proofs
