/-
  The contracts of the snapshots' none, copied and Last.
  The marks that Save writes.
  The contract of the snapshots' Save.
  The contracts of the document's Same and of law21's known.
  The walk of ShotsNone.
  Conditions: where they ask for any, each theorem names them.
-/
import Derived.Test.YteldcaeicgobfaaShotB
set_option linter.unusedVariables false
set_option linter.unusedSimpArgs false
namespace Go.Proofs
open Go Go.Vc

theorem ca_snone {w : World} {K : Kont} {v d : Nat} {fs : Nat → Int} {at_ : Nat} {x : ShotM} {sl : Value} {ms : Nat → Value} (h : ShAt w v d fs at_ x sl ms) (hK : K (.bool false) w) : Ca Try.prog 74 #[dptr v] w K := by
  apply ca74
  unfold F74
  unfold ShAt shsC dptr at h
  simp [go_sem, dptr, h]
  exact hK
theorem ca_snone_nil {w : World} {K : Kont} (hK : K (.bool true) w) : Ca Try.prog 74 #[.pointer none] w K := by
  apply ca74
  unfold F74
  simp [go_sem]
  exact hK
def zeroSh : List Value := [.pointer none, .int .i64 0, .int .i64 0, .int .i64 0, .int .u64 0, .int .u64 0, .slice none 0 0, .slice none 0 0, .slice none 0 0]
theorem ca_snone_zero {w : World} {K : Kont} {v : Nat} (h : hp w v = some (.cells zeroSh.toArray 90 (0, 0))) (hK : K (.bool true) w) : Ca Try.prog 74 #[dptr v] w K := by
  apply ca74
  unfold F74
  unfold zeroSh at h
  simp [go_sem, dptr, h]
  exact hK
def NoSh (w : World) (x : Value) : Prop := x = .pointer none ∨ ∃ v, x = dptr v ∧ hp w v = some (.cells zeroSh.toArray 90 (0, 0))
theorem NoSh.mod {w W : World} {x : Value} (h : NoSh w x) (m : Mod (fun _ => False) w W) : NoSh W x := h.imp id fun ⟨v, e, h⟩ => ⟨v, e, m.keep h id⟩
theorem ca_sno {w : World} {K : Kont} {x : Value} (h : NoSh w x) (hK : K (.bool true) w) : Ca Try.prog 74 #[x] w K := by
  rcases h with rfl | ⟨v, rfl, h⟩
  · exact ca_snone_nil hK
  · exact ca_snone_zero h hK

/-- A new variable of a snapshot. -/
theorem rv_shvar {w : World} {K : Kont} (hK : ∀ w' q, Mod (fun _ => False) w w' → q = w.heap.size → hp w' q = some (.cells (shotC shot0 (.slice none 0 0)).toArray 83 (0, 0)) → w'.heap.size = w.heap.size + 1 → K (.pointer (some ⟨q, 0, none⟩)) w') : rv Try.prog (Instr.alloc 83 true (.tuple #[])) w K :=
  rv_of (shot_alloc w) (hK _ _ ((Mod.refl _ w).alloc _) rfl (by simp only [hp_alloc, if_pos]) (World.size_alloc ..))
/-- A snapshot in a box of its own. -/
theorem rv_shbox {w : World} {K : Kont} {x : ShotM} {sl : Value} (hK : ∀ w' q, Mod (fun _ => False) w w' → q = w.heap.size → hp w' q = some (.cells (shotC x sl).toArray 83 (0, 0)) → w'.heap.size = w.heap.size + 1 → K (.pointer (some ⟨q, 0, none⟩)) w') : rv Try.prog (Instr.box 83 (.agg (shotC x sl).toArray)) w K :=
  rv_box (hK _ _ ((Mod.refl _ w).alloc _) rfl (by simp only [hp_alloc, if_pos]) (World.size_alloc ..))

theorem ca_copied {w : World} {K : Kont} {x : ShotM} {sl : Value} (h : ShR w x sl) (hn : x.data.length ≤ 1000000) (hK : ∀ w' sl', Own w' 5 1 sl' x.data.length (bv x.data) → Mod (fun _ => False) w w' → (∀ y, inSl sl' y → w.heap.size ≤ y) → K (.agg (shotC x sl').toArray) w') :
    Ca Try.prog 75 #[.agg (shotC x sl).toArray] w K := by
  obtain ⟨a, c, rfl⟩ := h.isSl
  apply ca75
  unfold F75
  refine rv_shbox fun w1 p m1 hp1 r1 z1 => ?_
  refine rv_shvar fun w2 q m2 hq r2 z2 => ?_
  obtain ⟨f0, f1, f2⟩ := sfield (q := p) (o := 0)
  have r1 := m2.keep r1 id
  have t2 := m1.trans m2
  refine rv_of (f2 _) (rv_of (sload r1).2.2.1 ?_)
  refine ca_bclone (h.mod t2 fun _ _ h => h) hn fun sl' w3 o3 m3 n3 => ?_
  have z3 := m3.size
  refine rv_of (f2 _) ?_
  obtain ⟨a', c', rfl, -⟩ := o3.isSl
  refine ru_data (i := x.idx) (t := x.term) (l := x.data) (m3.keep r1 id) ⟨_, _, _, rfl⟩ fun w4 m4 r4 => ?_
  refine rv_of (sload (r4 x.data)).2.2.2 ?_
  refine ru_shot (m4.keep (m3.keep r2 id) (by show ¬ q = p; omega)) ⟨_, _, _, rfl⟩ fun w5 m5 r5 => ?_
  refine rdW_of (sload r5).2.2.2 ?_
  refine hK _ _ ((o3.mod m4 fun y hy e => ?_).mod m5 fun y hy e => ?_) (((t2.trans m3).on m4 fun y hy => .inr (by omega)).on m5 fun y hy => .inr (by omega)) fun y hy => ?_
  · have := n3 y hy; omega
  · have := n3 y hy; omega
  · have := n3 y hy; omega

theorem ca_last_no {w : World} {K : Kont} {x : Value} (h : NoSh w x) (hK : ∀ w', Mod (fun _ => False) w w' → K (.tuple #[.agg (shotC shot0 (.slice none 0 0)).toArray, .int .i64 1]) w') : Ca Try.prog 43 #[x] w K := by
  apply ca43
  unfold F43
  refine rv_shvar fun w1 p m1 hp1 r1 z1 => ?_
  refine ca_sno (h.mod m1) ?_
  rw [ifB_bool, if_pos rfl]
  refine rv_of (shot_zero _) ?_
  refine ru_shot r1 ⟨_, _, _, rfl⟩ fun w2 m2 r2 => ?_
  refine rdW_of (sload r2).2.2.2 ?_
  exact hK _ (m1.on m2 fun y hy => .inr (by omega))
theorem sh_ldx {W : World} {v d : Nat} {fs : Nat → Int} {at_ : Nat} {x : ShotM} {a : Option Addr} {n c : Nat} {ms : Nat → Value} (h : ShAt W v d fs at_ x (.slice a n c) ms) : (Instr.loadAt 83 (.pointer (some ⟨v, 4, none⟩))).run Try.prog W = .ok (.agg (shotC x (.slice a n c)).toArray) W := by
  unfold ShAt shsC at h
  simp [go_sem, h, shotC]
theorem ca_slast {w : World} {K : Kont} {v d : Nat} {fs : Nat → Int} {at_ : Nat} {x : ShotM} {ms : Nat → List UInt8} {G R : Nat → Prop} (h : ShQ w v d fs at_ x ms G R) (hn : x.data.length ≤ 1000000)
    (hK0 : x.idx = 0 → ∀ w', Mod (fun _ => False) w w' → K (.tuple #[.agg (shotC shot0 (.slice none 0 0)).toArray, .int .i64 7]) w')
    (hK1 : x.idx ≠ 0 → ∀ w' sl', Own w' 5 1 sl' x.data.length (bv x.data) → Mod (fun _ => False) w w' → (∀ y, inSl sl' y → w.heap.size ≤ y) → K (.tuple #[.agg (shotC x sl').toArray, .int .i64 0]) w') : Ca Try.prog 43 #[dptr v] w K := by
  obtain ⟨sl, sv, h1, h2, h3, h4, h5, h6, h7⟩ := h.out
  obtain ⟨a, c, rfl⟩ := h3.isSl
  apply ca43
  unfold F43
  refine rv_shvar fun w1 p m1 hp1 r1 z1 => ?_
  have V1 := m1.keep h1 id
  refine ca_snone V1 ?_
  rw [ifB_bool, if_neg (by simp)]
  show nilK (.pointer (some ⟨v, 0, none⟩)) _
  rw [nilK_p]
  obtain ⟨g2, g3⟩ := sh_field (v := v)
  obtain ⟨k0, -, -⟩ := sfield (q := v) (o := 4)
  refine rv_of (g3 _) (rv_of (k0 _) (rv_of (sh_idx V1) ?_))
  refine rv_of (v := .bool (decide (x.idx = 0))) (w' := w1) ?_ ?_
  · simp [go_sem]
    rw [Bool.eq_iff_iff]
    simp
  by_cases hz : x.idx = 0
  · rw [decide_eq_true hz, ifB_bool, if_pos rfl]
    refine rv_of (shot_zero _) ?_
    refine ru_shot r1 ⟨_, _, _, rfl⟩ fun w2 m2 r2 => ?_
    refine rdW_of (sload r2).2.2.2 ?_
    exact hK0 hz _ (m1.on m2 fun y hy => .inr (by omega))
  · rw [decide_eq_false hz, ifB_bool, if_neg (by simp)]
    show nilK (.pointer (some ⟨v, 0, none⟩)) _
    rw [nilK_p]
    refine rv_of (g3 _) (rv_of (sh_ldx V1) ?_)
    refine ca_copied (h3.mod m1 fun _ _ h => h) hn fun w2 sl' o2 m2 n2 => ?_
    obtain ⟨a', c', rfl, -⟩ := o2.isSl
    refine ru_shot (m2.keep r1 id) ⟨_, _, _, rfl⟩ fun w3 m3 r3 => ?_
    refine rdW_of (sload r3).2.2.2 ?_
    refine hK1 hz _ _ (o2.mod m3 fun y hy e => ?_) ((m1.trans m2).on m3 fun y hy => .inr (by omega)) fun y hy => ?_
    · have := n2 y hy; omega
    · have := n2 y hy; omega

theorem ca_sread_nil {w : World} {K : Kont} {f : Int} (hK : ∀ w', Mod (fun _ => False) w w' → K (.tuple #[.agg (shotC shot0 (.slice none 0 0)).toArray, .slice none 0 0, .int .i64 1]) w') : Ca Try.prog 71 #[.pointer none, .int .i64 f] w K := by
  apply ca71
  unfold F71
  refine rv_shvar fun w1 p m1 hp1 r1 z1 => ?_
  refine ca_read_nil ?_
  refine rv_of (v := .slice none 0 0) (w' := w1) (by simp [go_sem]) ?_
  refine rv_of (v := .int .i64 1) (w' := w1) (by simp [go_sem]) ?_
  refine rv_of (v := .bool true) (w' := w1) (by simp [go_sem]) ?_
  rw [ifB_bool, if_pos rfl]
  refine rv_of (shot_zero _) ?_
  refine ru_shot r1 ⟨_, _, _, rfl⟩ fun w2 m2 r2 => ?_
  refine rdW_of (sload r2).2.2.2 ?_
  exact hK _ (m1.on m2 fun y hy => .inr (by omega))
set_option maxRecDepth 20000 in
theorem ca_sopen_nil {w : World} {K : Kont} {f1 f2 : Int} (hK : ∀ w', Mod (fun _ => False) w w' → K (.tuple #[.pointer none, .int .i64 1]) w') : Ca Try.prog 42 #[.pointer none, .int .i64 f1, .int .i64 f2] w K := by
  apply ca42
  unfold F42
  refine rv_of (v := .agg #[.int .i64 f1, .int .i64 f2]) (w' := w) (by simp [go_sem]) ?_
  refine rv_of (v := .agg #[.pointer none, .int .i64 f1, .int .i64 f2, .int .i64 1, .int .u64 0, .int .u64 0, .slice none 0 0, .slice none 0 0, .slice none 0 0]) (w' := w) (by simp [go_sem]) ?_
  refine rv_box ?_
  have mA : Mod (fun _ => False) w (w.alloc (.cells #[.pointer none, .int .i64 f1, .int .i64 f2, .int .i64 1, .int .u64 0, .int .u64 0, .slice none 0 0, .slice none 0 0, .slice none 0 0] 90)) := (Mod.refl _ w).alloc _
  have hA : hp (w.alloc (.cells #[.pointer none, .int .i64 f1, .int .i64 f2, .int .i64 1, .int .u64 0, .int .u64 0, .slice none 0 0, .slice none 0 0, .slice none 0 0] 90)) w.heap.size = some (.cells #[.pointer none, .int .i64 f1, .int .i64 f2, .int .i64 1, .int .u64 0, .int .u64 0, .slice none 0 0, .slice none 0 0, .slice none 0 0] 90 (0, 0)) := by simp only [hp_alloc, if_pos]
  generalize (w.alloc (.cells #[.pointer none, .int .i64 f1, .int .i64 f2, .int .i64 1, .int .u64 0, .int .u64 0, .slice none 0 0, .slice none 0 0, .slice none 0 0] 90)) = w1 at mA hA
  obtain ⟨v, hv⟩ : ∃ v, w.heap.size = v := ⟨_, rfl⟩
  rw [hv] at hA ⊢
  have lv1 := lt_of_heap hA
  refine rv_of (v := .pointer (some ⟨w1.heap.size, 0, none⟩)) (w' := w1.alloc (.cells (fnd (fun _ => shot0) fun _ => .slice none 0 0).toArray 133)) (by simp [go_sem, fnd, shotC, shot0]) ?_
  have mB : Mod (fun _ => False) w1 (w1.alloc (.cells (fnd (fun _ => shot0) fun _ => .slice none 0 0).toArray 133)) := (Mod.refl _ w1).alloc _
  have hB : hp (w1.alloc (.cells (fnd (fun _ => shot0) fun _ => .slice none 0 0).toArray 133)) w1.heap.size = some (.cells (fnd (fun _ => shot0) fun _ => .slice none 0 0).toArray 133 (0, 0)) := by simp only [hp_alloc, if_pos]
  generalize (w1.alloc (.cells (fnd (fun _ => shot0) fun _ => .slice none 0 0).toArray 133)) = w2 at mB hB
  obtain ⟨q, hq⟩ : ∃ q, w1.heap.size = q := ⟨_, rfl⟩
  rw [hq] at hB lv1 ⊢
  have hA2 := mB.keep hA id
  have hA3 : hp w2 v = _ := hA2
  have t2 := mA.trans mB
  show nilK (.pointer (some ⟨v, 0, none⟩)) _
  rw [nilK_p]
  refine rv_of (v := .pointer (some ⟨v, 1, none⟩)) (w' := w2) (by simp [go_sem]) ?_
  refine rv_of (v := .agg #[.int .i64 f1, .int .i64 f2]) (w' := w2) (by simp [go_sem, hA3]) ?_
  refine loopK (fun s W => W = w2 ∧ s = (.pointer none, .int .i64 0, .int .i64 0, ())) (fun _ _ => 0) ⟨rfl, rfl⟩ ?_
  rintro _ W ⟨rfl, rfl⟩ KN hKN
  unfold L42_3
  intro _
  refine rv_of (v := .bool true) (w' := W) (by simp [go_sem]) ?_
  rw [ifB_bool, if_pos rfl]
  refine rv_of (files_at (fs := fun i => if i = 0 then f1 else f2) (i := 0) (by omega) W) ?_
  show nilK (.pointer (some ⟨v, 0, none⟩)) _
  rw [nilK_p]
  refine rdP_of (v := .pointer (some ⟨v, 7, none⟩)) (fun w => by simp [go_sem]) ?_
  refine ca_sread_nil fun w3 m3 => ?_
  have md : Mod (fun _ => False) W w3 := (Mod.refl (fun _ => False) W).drew.trans m3
  refine rdP_of (v := .agg (shotC shot0 (.slice none 0 0)).toArray) (fun w => by simp [go_sem]) ?_
  refine rdP_of (v := .slice none 0 0) (fun w => by simp [go_sem]) ?_
  refine rdP_of (v := .int .i64 1) (fun w => by simp [go_sem]) ?_
  refine rdP_of (v := .pointer (some ⟨q, 0 * 3, none⟩)) (fun w => by simp [go_sem]) ?_
  refine ru_found (i := 0) (md.keep hB id) (by omega) ⟨_, _, _, rfl⟩ fun w4 m4 k4 => ?_
  refine rdP_of (v := .pointer (some ⟨v, 7, none⟩)) (fun w => by simp [go_sem]) ?_
  have hA4 : hp w4 v = _ := m4.keep (md.keep hA2 id) (by show ¬ v = q; omega)
  refine ru_of (w' := w4.setCell ⟨v, 7, none⟩ (.slice none 0 0)) (by simp [go_sem, hA4]) ?_
  refine rv_of (v := .bool true) (w' := w4.setCell ⟨v, 7, none⟩ (.slice none 0 0)) (by simp [go_sem]) ?_
  rw [ifB_bool, if_pos rfl]
  exact hK _ (((t2.trans md).on m4 fun y hy => .inr (by have := mA.size; omega)).setCell (.inr (by omega)) _ _)
end Go.Proofs

namespace Go.Proofs
open Go Go.Vc

def mkL (x : ShotM) (i : Nat) : List (Int × Sec) := ((List.range 3).drop i).map fun j : Nat => ((j : Int), markS j x)
theorem mkL_step (x : ShotM) (i : Nat) (hi : i < 3) : mkL x i = ((i : Int), markS i x) :: mkL x (i + 1) := by
  unfold mkL
  rw [List.drop_eq_getElem_cons (by simpa using hi)]
  simp
def DM.smarks (D : DM) (f : Int) (x : ShotM) : Int × DM := if (D.writes f (mkL x 0)).1 ≠ 0 then D.writes f (mkL x 0) else (D.writes f (mkL x 0)).2.sync
def mzc (x : ShotM) (b : List UInt8) (i : Nat) : List UInt8 := ((List.range i).flatMap fun j => markS j x) ++ b.drop (128 * i)
theorem mzc_flat (x : ShotM) : ∀ i, ((List.range i).flatMap fun j => markS j x).length = 128 * i
  | 0 => rfl
  | i + 1 => by
    rw [List.range_succ, List.flatMap_append, List.length_append, mzc_flat x i]
    simp [markS_length]
    omega
theorem mzc_length {x : ShotM} {b : List UInt8} (hb : b.length = 384) {i : Nat} (hi : i ≤ 3) : (mzc x b i).length = 384 := by
  unfold mzc
  rw [List.length_append, mzc_flat, List.length_drop]
  omega
theorem mzc_lay {x : ShotM} {b : List UInt8} (hb : b.length = 384) {i : Nat} (hi : i < 3) (rest : List Value) : lay (bv (mzc x b i) ++ rest) (128 * i) (bv (markS i x)) = bv (mzc x b (i + 1)) ++ rest := by
  have hl := mzc_length (x := x) hb (show i ≤ 3 by omega)
  have hf := mzc_flat x i
  unfold lay
  rw [bv_length, markS_length, List.take_append_of_le_length (by rw [bv_length]; omega), List.drop_append_of_le_length (by rw [bv_length]; omega), bv_take, bv_drop, ← List.append_assoc, ← bv_append, ← bv_append]
  congr 2
  unfold mzc
  rw [List.take_append_of_le_length (by omega), List.take_of_length_le (by omega), List.range_succ, List.flatMap_append, List.drop_append, List.drop_eq_nil_of_le (by omega), List.nil_append, hf, List.drop_drop, show 128 * i + (128 * i + 128 - 128 * i) = 128 * (i + 1) by omega]
  simp
theorem mzc_all {x : ShotM} {b : List UInt8} (hb : b.length = 384) : mzc x b 3 = marks3 fun j => markS j x := by
  unfold mzc marks3
  rw [List.drop_of_length_le (by omega)]
  simp [List.range_succ]

/-- What lies there while a snapshot is saved. -/
structure SvB (W : World) (v d p : Nat) (fs : Nat → Int) (at_ : Nat) (x0 x : ShotM) (sl0 slx : Value) (sv : Nat → Value) (ms : Nat → List UInt8) (F : Nat → Prop) (D : DM) : Prop where
  disk : DiskR W d F D
  at_ : ShAt W v d fs at_ x0 sl0 sv
  own : ∀ k, k < 2 → Own W 5 1 (sv k) 384 (bv (ms k))
  px : hp W p = some (.cells (shotC x slx).toArray 83 (0, 0))
  sh : ShR W x slx
  vF : ¬ F v
  pF : ¬ F p
  sF : ∀ y, inRd slx y → ¬ F y
  mF : ∀ k y, k < 2 → inSl (sv k) y → ¬ F y
  vp : v ≠ p
  vS : ∀ k, k < 2 → ¬ inSl (sv k) v
  pS : ∀ k, k < 2 → ¬ inSl (sv k) p
  xS : ∀ k y, k < 2 → inRd slx y → ¬ inSl (sv k) y
  xv : ¬ inRd slx v
  xp : ¬ inRd slx p
  apart2 : ∀ y, inSl (sv 0) y → ¬ inSl (sv 1) y
section
variable {W W' : World} {v d p at_ : Nat} {fs : Nat → Int} {x0 x : ShotM} {sl0 slx : Value} {sv : Nat → Value} {ms : Nat → List UInt8} {F F' : Nat → Prop} {D D' : DM}
theorem SvB.mod0 (h : SvB W v d p fs at_ x0 x sl0 slx sv ms F D) (m : Mod (fun _ => False) W W') : SvB W' v d p fs at_ x0 x sl0 slx sv ms F D :=
  ⟨h.disk.mod m fun _ _ h => h, m.keep h.at_ id, fun k hk => (h.own k hk).mod m fun _ _ h => h, m.keep h.px id, h.sh.mod m fun _ _ h => h, h.vF, h.pF, h.sF, h.mF, h.vp, h.vS, h.pS, h.xS, h.xv, h.xp, h.apart2⟩
theorem SvB.lt (h : SvB W v d p fs at_ x0 x sl0 slx sv ms F D) : v < W.heap.size ∧ p < W.heap.size ∧ (∀ y, inRd slx y → y < W.heap.size) ∧ (∀ k y, k < 2 → inSl (sv k) y → y < W.heap.size) ∧ ∀ y, F y → y < W.heap.size :=
  ⟨lt_of_heap h.at_, lt_of_heap h.px, fun y hy => h.sh.lt hy, fun k y hk hy => (h.own k hk).lt hy, fun y hy => h.disk.lt hy⟩
/-- The disk has gone on. -/
theorem SvB.step (h : SvB W v d p fs at_ x0 x sl0 slx sv ms F D) (d' : DiskR W' d F' D') (s : Stp F W W' F') : SvB W' v d p fs at_ x0 x sl0 slx sv ms F' D' := by
  obtain ⟨l1, l2, l3, l4, l5⟩ := h.lt
  have no : ∀ y, y < W.heap.size → ¬ F y → ¬ F' y := fun y hy hn hh => (s.sub y hh).elim hn (by omega)
  exact ⟨d', s.mod.keep h.at_ h.vF, fun k hk => (h.own k hk).mod s.mod fun y hy => h.mF k y hk hy, s.mod.keep h.px h.pF, h.sh.mod s.mod h.sF, no v l1 h.vF, no p l2 h.pF, fun y hy => no y (l3 y hy) (h.sF y hy), fun k y hk hy => no y (l4 k y hk hy) (h.mF k y hk hy), h.vp, h.vS, h.pS, h.xS, h.xv, h.xp, h.apart2⟩
/-- A file's marks have turned. -/
theorem SvB.turn {k : Nat} {b : List UInt8} (h : SvB W v d p fs at_ x0 x sl0 slx sv ms F D) (hk : k < 2) (m : Mod (inSl (sv k)) W W') (o : Own W' 5 1 (sv k) 384 (bv b)) : SvB W' v d p fs at_ x0 x sl0 slx sv (set1 ms k b) F D := by
  refine ⟨h.disk.mod m fun y hy hh => h.mF k y hk hh hy, m.keep h.at_ (h.vS k hk), fun j hj => ?_, m.keep h.px (h.pS k hk), h.sh.mod m fun y hy => h.xS k y hk hy, h.vF, h.pF, h.sF, h.mF, h.vp, h.vS, h.pS, h.xS, h.xv, h.xp, h.apart2⟩
  unfold set1
  by_cases hjk : j = k
  · subst hjk
    rw [if_pos rfl]
    exact o
  · rw [if_neg hjk]
    refine (h.own j hj).mod m fun y hy hh => ?_
    rcases two hj with rfl | rfl <;> rcases two hk with rfl | rfl
    · exact hjk rfl
    · exact h.apart2 y hy hh
    · exact h.apart2 y hh hy
    · exact hjk rfl
end

theorem sh_marksP {W : World} {v d : Nat} {fs : Nat → Int} {at_ : Nat} {x : ShotM} {sl : Value} {ms : Nat → Value} {k : Nat} {a : Option Addr} {n c : Nat} (h : ShAt W v d fs at_ x sl ms) (hk : k < 2) (hm : ms k = .slice a n c) :
    (∀ W, (Instr.fieldAt 90 (.pointer (some ⟨v, 0, none⟩)) 4).run Try.prog W = .ok (.pointer (some ⟨v, 7, none⟩)) W) ∧ (∀ W, (Instr.indexAt 88 (.pointer (some ⟨v, 7, none⟩)) (.int .i64 (k : Int))).run Try.prog W = .ok (.pointer (some ⟨v, 7 + k, none⟩)) W) ∧ (Instr.loadAt 23 (.pointer (some ⟨v, 7 + k, none⟩))).run Try.prog W = .ok (.slice a n c) W := by
  unfold ShAt shsC at h
  rcases two hk with rfl | rfl
  · rw [hm] at h
    refine ⟨fun W => ?_, fun W => ?_, ?_⟩ <;> simp [go_sem, h]
  · rw [hm] at h
    refine ⟨fun W => ?_, fun W => ?_, ?_⟩ <;> simp [go_sem, h]

set_option maxRecDepth 20000 in
theorem save_marks {W : World} {K : Kont} {v d p at_ k Dk : Nat} {fs : Nat → Int} {f : Int} {x0 x : ShotM} {sl0 slx s0 : Value} {sv : Nat → Value} {ms : Nat → List UInt8} {F : Nat → Prop} {D : DM}
    (hB : SvB W v d p fs at_ x0 x sl0 slx sv ms F D) (hx : x.ok) (hk : k < 2) (hdef : hp W Dk = some (.deferred (some []))) (hdF : ¬ F Dk) (hDw : D.waits.length < 100000000000)
    (hK1 : (D.smarks f x).1 ≠ 0 → ∀ W' F', DiskR W' d F' (D.smarks f x).2 → Mod (fun y => F y ∨ inSl (sv k) y ∨ y = Dk) W W' → (∀ y, F' y → F y ∨ W.heap.size ≤ y) → K (.int .i64 (D.smarks f x).1) W')
    (hK2 : (D.smarks f x).1 = 0 → ∀ W' F' ms', SvB W' v d p fs k x x slx slx sv ms' F' (D.smarks f x).2 → (∀ j, j < 2 → ms' j = if j = k then (marks3 fun i => markS i x) else ms j) → Mod (fun y => F y ∨ inSl (sv k) y ∨ y = Dk ∨ y = v) W W' → (∀ y, F' y → F y ∨ W.heap.size ≤ y) → K (.int .i64 0) W') :
    LoopW (S := Value × Value × Unit) (L44_0 (dptr v) (.pointer (some ⟨p, 0, none⟩)) (.int .i64 f) [Dk] K (.int .i64 (k : Int))) (s0, (.int .i64 0), ()) W := by
  have hb384 : (ms k).length = 384 := by simpa using (hB.own k hk).1
  obtain ⟨mb, mc, -, hmk, hmc, -, -, -⟩ := own_cells (hB.own k hk) (by omega)
  have inM : ∀ y, inSl (sv k) y ↔ y = mb := fun y => by rw [hmk]; exact ⟨fun h => by cases h; rfl, fun h => by subst h; rfl⟩
  have nDk : v ≠ Dk ∧ p ≠ Dk ∧ mb ≠ Dk := by
    refine ⟨fun e => ?_, fun e => ?_, fun e => ?_⟩
    · have := hB.at_; unfold ShAt at this; rw [e, hdef] at this; cases this
    · have := hB.px; rw [e, hdef] at this; cases this
    · obtain ⟨b', c', rest, he, -, hc, -, -⟩ := own_cells (hB.own k hk) (by omega)
      rw [hmk] at he
      injection he with q1 q2 q3
      injection q1 with q1
      injection q1 with q1
      subst q1
      rw [e, hdef] at hc
      cases hc
  obtain ⟨sa, sc, rfl⟩ := hB.sh.isSl
  have ret : ∀ (W' : World) (e : Int), hp W' Dk = some (.deferred (some [])) → (∀ W2, Mod (fun y => y = Dk) W' W2 → K (.int .i64 e) W2) → retD ([Dk] ++ []) W' fun w => K (.int .i64 e) w := fun W' e hd hk' =>
    retD_one (.inr ⟨_, rfl⟩) (fun D' hD' => by simp only [List.mem_singleton] at hD'; subst hD'; exact hd) fun W2 m => hk' W2 (m.mono fun y _ hy => by simpa using hy)
  refine loopK (fun s W' => ∃ (i : Nat) (y : Value) (Di : DM) (F' : Nat → Prop) (ms' : Nat → List UInt8), i ≤ 3 ∧ s = (y, .int .i64 (i : Int), ()) ∧ SvB W' v d p fs at_ x0 x sl0 (.slice sa x.data.length sc) sv ms' F' Di ∧ (∀ j, j < 2 → ms' j = if j = k then mzc x (ms k) i else ms j) ∧ D.writes f (mkL x 0) = Di.writes f (mkL x i) ∧ Di.waits.length ≤ D.waits.length + 128 * i ∧
      Mod (fun y => F y ∨ inSl (sv k) y ∨ y = Dk) W W' ∧ (∀ y, F' y → F y ∨ W.heap.size ≤ y) ∧ hp W' Dk = some (.deferred (some [])) ∧ ¬ F' Dk)
    (fun s _ => match s.2.1 with | .int _ i => 3 - i.toNat | _ => 0) ⟨0, _, D, F, ms, by omega, rfl, hB, fun j hj => by
      by_cases hjk : j = k
      · rw [if_pos hjk, hjk]; simp [mzc]
      · rw [if_neg hjk], rfl, by omega, Mod.refl _ _, fun _ h => .inl h, hdef, hdF⟩ ?_
  rintro ⟨_, _⟩ W' ⟨i, y, Di, F', ms', hi, ⟨⟩, B, hms, eW, lW, mW, nF, hd, hdF'⟩ KN hKN
  unfold L44_0
  intro _
  have lDk := lt_of_heap hdef
  have zW := mW.size
  by_cases hlt : i < 3
  · have hlt' : (i : Int) < 3 := by omega
    refine rv_of (v := .bool true) (w' := W') (by simp [go_sem, hlt']) ?_
    rw [ifB_bool, if_pos rfl]
    rw [mkL_step x i hlt] at eW
    simp only [DM.writes] at eW
    have md : Mod (fun _ => False) W' W'.drew := (Mod.refl _ W').drew
    have B1 := B.mod0 md
    obtain ⟨g1, g2⟩ := sh_d B1.at_
    show nilK (.pointer (some ⟨v, 0, none⟩)) _
    rw [nilK_p]
    refine rdP_of g1 ?_
    refine rdW_of g2 ?_
    refine rdW_of (sload B1.px).2.2.2 ?_
    refine ca_smark hlt hx B1.sh fun W2 g o2 m2 n2 => ?_
    have B2 := B1.mod0 m2
    refine ⟨(sh_d B2.at_).2, ?_⟩
    have hml := markS_length i x
    refine ca_write (n := 128) (bs := markS i x) B2.disk o2.rd (fun y hy => ?_) (by omega) (by omega) fun W3 F3 d3 s3 => ?_
    · rw [inRd_at hy]
      exact ⟨fun hh => by have h' : g < W'.drew.heap.size := B1.disk.lt hh; omega, o2.lt rfl⟩
    have B3 := B2.step d3 s3
    have t2 := md.trans m2
    have z2 := t2.size
    have nF3 : ∀ y, F3 y → F y ∨ W.heap.size ≤ y := fun y hy => (s3.sub y hy).elim (nF y) fun h' => .inr (by omega)
    have hd3 := s3.mod.keep (t2.keep hd id) hdF'
    have hdF3 : ¬ F3 Dk := fun hh => (s3.sub Dk hh).elim hdF' fun h' => by omega
    have mW3 : Mod (fun y => F y ∨ inSl (sv k) y ∨ y = Dk) W W3 := (mW.trans (t2.mono fun _ _ h => h.elim)).on s3.mod fun y hy => (nF y hy).imp .inl id
    by_cases he : (Di.write f (i : Int) (markS i x)).1 = 0
    · rw [if_pos he] at eW
      rw [he]
      refine rv_of (neq0 _) ?_
      rw [ifB_bool, if_neg (by simp)]
      show nilK (.pointer (some ⟨v, 0, none⟩)) _
      rw [nilK_p]
      have md3 : Mod (fun _ => False) W3 W3.drew := (Mod.refl _ W3).drew
      have B4 := B3.mod0 md3
      obtain ⟨h1, h2, h3⟩ := sh_marksP B4.at_ hk hmk
      refine rdP_of h1 ?_
      refine rdP_of h2 ?_
      refine rdW_of h3 ?_
      have e1 : IntKind.i64.wrap ((i : Int) * 128) = ((128 * i : Nat) : Int) := by rw [IntKind.wrap_i64]; omega
      refine rdP_of (v := .int .i64 ((128 * i : Nat) : Int)) (fun w => by simp [-Int.natCast_mul, go_sem, e1]) ?_
      refine rdP_of (slice_lo (lo := 128 * i) (by omega) hmc (by omega)) ?_
      refine rdW_of (sload B4.px).2.2.2 ?_
      refine ca_smark hlt hx B4.sh fun W5 g' o5 m5 n5 => ?_
      have B5 := B4.mod0 m5
      refine ⟨(sh_marksP B5.at_ hk hmk).2.2, ?_⟩
      obtain ⟨mb', mc', rest, hmk', -, hcell, hrl, hr1⟩ := own_cells (B5.own k hk) (by omega)
      rw [hmk] at hmk'
      injection hmk' with q1 q2 q3
      injection q1 with q1
      injection q1 with q1
      subst q1
      subst q3
      have hmsk : ms' k = mzc x (ms k) i := by rw [hms k hk, if_pos rfl]
      rw [hmsk] at hcell
      have hzl := mzc_length (x := x) hb384 hi
      rw [Nat.zero_add]
      refine rx_copy (e := 5) (k := 128) (cs := bv (markS i x)) (all := bv (markS i x)) Try.underlying23 cu8 hcell o5.rd (by show 128 = min 128 (384 - 128 * i); omega) (by rw [List.take_of_length_le (by rw [bv_length]; omega)]) (by simp [hzl, hrl]; omega) (bv_one _) ?_
      rw [show (bv (mzc x (ms k) i) ++ rest).toArray.toList = bv (mzc x (ms k) i) ++ rest from rfl, mzc_lay hb384 hlt]
      have m6 : Mod (inSl (sv k)) W5 (W5.setRow mb (bv (mzc x (ms k) (i + 1)) ++ rest).toArray) := (Mod.refl (inSl (sv k)) W5).setRow (b := mb) (.inl ((inM mb).2 rfl)) _
      have hc6 : hp (W5.setRow mb (bv (mzc x (ms k) (i + 1)) ++ rest).toArray) mb = some (.cells (bv (mzc x (ms k) (i + 1)) ++ rest).toArray 5 (0, 0)) := by rw [hp_setRow, if_pos rfl, hcell]
      generalize (W5.setRow mb (bv (mzc x (ms k) (i + 1)) ++ rest).toArray) = W6 at m6 hc6
      have o6 : Own W6 5 1 (sv k) 384 (bv (mzc x (ms k) (i + 1))) := by
        rw [hmk]
        exact ⟨by rw [bv_length, mzc_length hb384 (by omega)], .inr ⟨mb, mc, rest, rfl, hmc, hc6, by simpa using hrl, hr1⟩⟩
      have B6 := B5.turn hk m6 o6
      have e3 : IntKind.i64.wrap ((i : Int) + 1) = ((i + 1 : Nat) : Int) := by rw [IntKind.wrap_i64]; omega
      refine rv_of (v := .int .i64 ((i + 1 : Nat) : Int)) (w' := W6) (by simp [-Int.natCast_add, go_sem, e3]) ?_
      have hl := (write_len Di f (i : Int) (markS i x)).1
      have t35 := md3.trans m5
      refine hKN _ _ ⟨i + 1, _, _, F3, set1 ms' k (mzc x (ms k) (i + 1)), hlt, rfl, B6, fun j hj => ?_, eW, by omega, (mW3.trans (t35.mono fun _ _ h => h.elim)).on m6 fun y hy => .inl (.inr (.inl hy)), nF3, m6.keep (t35.keep hd3 id) (fun hh => nDk.2.2 ((inM Dk).1 hh).symm), hdF3⟩ (by simp; omega)
      unfold set1
      by_cases hjk : j = k
      · rw [if_pos hjk, if_pos hjk]
      · rw [if_neg hjk, if_neg hjk, hms j hj, if_neg hjk]
    · rw [if_neg he] at eW
      have es : D.smarks f x = Di.write f (i : Int) (markS i x) := by
        unfold DM.smarks
        rw [eW, if_pos he]
      rw [es] at hK1
      refine rv_of (v := .bool true) (w' := W3) (by simp [go_sem, he]) ?_
      rw [ifB_bool, if_pos rfl]
      refine ret W3 _ hd3 fun W4 m4 => ?_
      exact hK1 he W4 F3 (d3.mod m4 fun y hy e => hdF3 (e ▸ hy)) (mW3.trans (m4.mono fun y _ hy => .inr (.inr hy))) nF3
  · have : i = 3 := by omega
    subst this
    have eW' : D.writes f (mkL x 0) = (0, Di) := eW
    have es : D.smarks f x = Di.sync := by unfold DM.smarks; rw [eW']; rfl
    rw [es] at hK1 hK2
    refine rv_of (v := .bool false) (w' := W') (by simp [go_sem]) ?_
    rw [ifB_bool, if_neg (by simp)]
    obtain ⟨g1, g2⟩ := sh_d B.at_
    show nilK (.pointer (some ⟨v, 0, none⟩)) _
    rw [nilK_p]
    refine rv_of (g1 _) (rv_of g2 ?_)
    refine ca_sync B.disk (by omega) fun W3 F3 d3 s3 => ?_
    have B3 := B.step d3 s3
    have nF3 : ∀ y, F3 y → F y ∨ W.heap.size ≤ y := fun y hy => (s3.sub y hy).elim (nF y) fun h' => .inr (by omega)
    have hd3 := s3.mod.keep hd hdF'
    have hdF3 : ¬ F3 Dk := fun hh => (s3.sub Dk hh).elim hdF' fun h' => by omega
    have mW3 : Mod (fun y => F y ∨ inSl (sv k) y ∨ y = Dk) W W3 := mW.on s3.mod fun y hy => (nF y hy).imp .inl id
    by_cases he : Di.sync.1 = 0
    · rw [he]
      refine rv_of (neq0 _) ?_
      rw [ifB_bool, if_neg (by simp)]
      refine rv_of (sload B3.px).2.2.2 ?_
      obtain ⟨k2, k3⟩ := sh_field (v := v)
      show nilK (.pointer (some ⟨v, 0, none⟩)) _
      rw [nilK_p]
      refine rv_of (k3 _) ?_
      refine ru_shx B3.at_ ⟨_, _, _, rfl⟩ fun W4 m4 a4 => ?_
      show nilK (.pointer (some ⟨v, 0, none⟩)) _
      rw [nilK_p]
      refine rv_of (k2 _) ?_
      refine ru_shat a4 fun W5 m5 a5 => ?_
      have m45 : Mod (fun y => y = v) W3 W5 := m4.trans m5
      refine ret W5 _ (m45.keep hd3 (fun e => nDk.1 e.symm)) fun W6 m6 => ?_
      have m36 : Mod (fun y => y = v ∨ y = Dk) W3 W6 := (m45.mono fun _ _ h => .inl h).trans (m6.mono fun _ _ h => .inr h)
      have nb : ∀ k y, k < 2 → inSl (sv k) y → ¬ (y = v ∨ y = Dk) := fun k y hk' hy hh => by
        rcases hh with rfl | rfl
        · exact B3.vS k hk' hy
        · obtain ⟨b', c', rest, hv', -, hc, -, -⟩ := own_cells (B3.own k hk') (by omega)
          rw [hv'] at hy
          cases hy
          have hd3' : hp W3 b' = some (.deferred (some [])) := hd3
          rw [hd3'] at hc
          cases hc
      refine hK2 he W6 F3 ms' ⟨d3.mod m36 fun y hy hh => ?_, m6.keep a5 nDk.1, fun j hj => (B3.own j hj).mod m36 fun y hy => nb j y hj hy, m36.keep B3.px (fun hh => ?_), B3.sh.mod m36 fun y hy hh => ?_, B3.vF, B3.pF, B3.sF, B3.mF, B3.vp, B3.vS, B3.pS, B3.xS, B3.xv, B3.xp, B3.apart2⟩ (fun j hj => ?_) ((mW3.mono fun y _ hy => ?_).trans (m36.mono fun y _ hy => ?_)) nF3
      · rcases hh with rfl | rfl
        · exact B3.vF hy
        · exact hdF3 hy
      · rcases hh with hh | hh
        · exact B3.vp hh.symm
        · exact nDk.2.1 hh
      · rcases hh with rfl | rfl
        · exact B3.xv hy
        · obtain ⟨_, ⟨h0, _⟩ | ⟨b', off', cap', he', hc', hA⟩⟩ := B3.sh
          · obtain ⟨a, _, _, e1, e2, _⟩ := hy
            injection e1 with _ e1
            omega
          · obtain ⟨a, _, _, e1, -, e2⟩ := hy
            rw [he'] at e1
            injection e1 with e1
            injection e1 with e1
            subst e1
            obtain ⟨c1, c2, c3, hcc, -⟩ := hA
            rw [show b' = y from e2] at hcc
            rw [show W3.heap[y]? = some (.deferred (some [])) from hd3] at hcc
            cases hcc
      · rw [hms j hj]
        by_cases hjk : j = k
        · rw [if_pos hjk, if_pos hjk, mzc_all hb384]
        · rw [if_neg hjk, if_neg hjk]
      · rcases hy with hy | hy | hy
        · exact .inl hy
        · exact .inr (.inl hy)
        · exact .inr (.inr (.inl hy))
      · rcases hy with hy | hy
        · exact .inr (.inr (.inr hy))
        · exact .inr (.inr (.inl hy))
    · refine rv_of (v := .bool true) (w' := W3) (by simp [go_sem, he]) ?_
      rw [ifB_bool, if_pos rfl]
      refine ret W3 _ hd3 fun W4 m4 => ?_
      exact hK1 he W4 F3 (d3.mod m4 fun y hy e => hdF3 (e ▸ hy)) (mW3.trans (m4.mono fun y _ hy => .inr (.inr hy))) nF3
end Go.Proofs

namespace Go.Proofs
open Go Go.Vc

def partsL (l : List UInt8) (i : Nat) : List UInt8 := (List.range i).flatMap (partS l)
theorem partsL_length (l : List UInt8) : ∀ i, (partsL l i).length = 128 * i
  | 0 => rfl
  | i + 1 => by
    have := partsL_length l i
    unfold partsL at *
    rw [List.range_succ, List.flatMap_append, List.length_append, this]
    simp [partS_length]
    omega
theorem partsL_succ (l : List UInt8) (i : Nat) : partsL l (i + 1) = partsL l i ++ partS l i := by
  unfold partsL
  rw [List.range_succ, List.flatMap_append]
  simp
def DM.sparts (D : DM) (f : Int) (l : List UInt8) : Int × DM := if secN l.length = 0 then (0, D) else D.write f 3 (partsL l (secN l.length))
def DM.ssave (D : DM) (f : Int) (x : ShotM) (b : List UInt8) : Int × DM :=
  if (D.writes f (cleanS b 0)).1 ≠ 0 then D.writes f (cleanS b 0)
  else if ((D.writes f (cleanS b 0)).2.sparts f x.data).1 ≠ 0 then (D.writes f (cleanS b 0)).2.sparts f x.data
  else ((D.writes f (cleanS b 0)).2.sparts f x.data).2.smarks f x

theorem SvB.blank {W W' : World} {v d p at_ k : Nat} {fs : Nat → Int} {x0 x : ShotM} {sl0 slx : Value} {sv : Nat → Value} {ms : Nat → List UInt8} {F F' : Nat → Prop} {D D' : DM} {b : List UInt8} (h : SvB W v d p fs at_ x0 x sl0 slx sv ms F D) (hk : k < 2) (d' : DiskR W' d F' D') (m : Mod (fun y => F y ∨ inSl (sv k) y) W W') (nF : ∀ y, F' y → F y ∨ W.heap.size ≤ y) (o : Own W' 5 1 (sv k) 384 (bv b)) :
    SvB W' v d p fs at_ x0 x sl0 slx sv (set1 ms k b) F' D' := by
  obtain ⟨l1, l2, l3, l4, l5⟩ := h.lt
  have no : ∀ y, y < W.heap.size → ¬ F y → ¬ F' y := fun y hy hn hh => (nF y hh).elim hn (by omega)
  refine ⟨d', m.keep h.at_ (fun hh => hh.elim h.vF (h.vS k hk)), fun j hj => ?_, m.keep h.px (fun hh => hh.elim h.pF (h.pS k hk)), h.sh.mod m fun y hy hh => hh.elim (h.sF y hy) (h.xS k y hk hy), no v l1 h.vF, no p l2 h.pF, fun y hy => no y (l3 y hy) (h.sF y hy), fun j y hj hy => no y (l4 j y hj hy) (h.mF j y hj hy), h.vp, h.vS, h.pS, h.xS, h.xv, h.xp, h.apart2⟩
  unfold set1
  by_cases hjk : j = k
  · subst hjk
    rw [if_pos rfl]
    exact o
  · rw [if_neg hjk]
    refine (h.own j hj).mod m fun y hy hh => ?_
    rcases hh with hh | hh
    · exact h.mF j y hj hy hh
    · rcases two hj with rfl | rfl <;> rcases two hk with rfl | rfl
      · exact hjk rfl
      · exact h.apart2 y hy hh
      · exact h.apart2 y hh hy
      · exact hjk rfl

def ShotM.fit (x : ShotM) : Prop := x.idx < 18446744073709551616 ∧ x.term < 18446744073709551616 ∧ x.data.length < 9223372036854775807
set_option maxRecDepth 20000 in
theorem ca_ssave {w : World} {K : Kont} {v d at_ : Nat} {fs : Nat → Int} {x0 x : ShotM} {sl : Value} {ms : Nat → List UInt8} {G R F : Nat → Prop} {D : DM} (hQ : ShQ w v d fs at_ x0 ms G R) (h : DiskR w d F D) (hGF : ∀ y, G y ∨ R y → ¬ F y) (hat : at_ ≤ 1) (hxf : x.fit) (hs : ShR w x sl) (hDw : D.waits.length < 10000000000)
    (hK0 : x.may = false ∨ x.idx ≤ x0.idx → ∀ w', Mod (fun _ => False) w w' → K (.int .i64 2) w')
    (hK1 : x.may = true → x0.idx < x.idx → (D.ssave (fs (1 - at_)) x (ms (1 - at_))).1 ≠ 0 → ∀ w' F', DiskR w' d F' (D.ssave (fs (1 - at_)) x (ms (1 - at_))).2 → Mod (fun y => F y ∨ G y) w w' → (∀ y, F' y → F y ∨ w.heap.size ≤ y) → K (.int .i64 (D.ssave (fs (1 - at_)) x (ms (1 - at_))).1) w')
    (hK2 : x.may = true → x0.idx < x.idx → (D.ssave (fs (1 - at_)) x (ms (1 - at_))).1 = 0 → ∀ w' F' ms' R', DiskR w' d F' (D.ssave (fs (1 - at_)) x (ms (1 - at_))).2 → Mod (fun y => F y ∨ G y) w w' → (∀ y, F' y → F y ∨ w.heap.size ≤ y) → ShQ w' v d fs (1 - at_) x ms' G R' →
      (∀ j, j < 2 → ms' j = if j = 1 - at_ then (marks3 fun i => markS i x) else ms j) → (∀ y, R' y → w.heap.size ≤ y) → (∀ y, G y ∨ R' y → ¬ F' y) → K (.int .i64 0) w') :
    Ca Try.prog 44 #[dptr v, .agg (shotC x sl).toArray] w K := by
  obtain ⟨sl0, sv, h1, h2, h3, h4, h5, h6, h7⟩ := hQ.out
  obtain ⟨sa, sc, rfl⟩ := hs.isSl
  obtain ⟨k, hk_⟩ : ∃ k, 1 - at_ = k := ⟨_, rfl⟩
  have hk : k < 2 := by omega
  rw [hk_] at hK1 hK2
  apply ca44
  unfold F44
  refine rv_shbox fun w1 p m1 hp1 r1 z1 => ?_
  have V1 := m1.keep h1 id
  refine ca_snone V1 ?_
  rw [ifB_bool, if_neg (by simp)]
  have hs1 := hs.mod m1 fun _ _ h => h
  refine joinK (fun s W => s = (.bool (decide (x.may = false ∨ x.idx ≤ x0.idx)), ()) ∧ Mod (fun _ => False) w1 W) (fun JJ hJJ => ?_) ?_
  · have md : Mod (fun _ => False) w1 w1.drew := (Mod.refl _ w1).drew
    have r1d := md.keep r1 id
    refine rdW_of (sload r1d).2.2.2 ?_
    refine ca_smay (hs1.mod md fun _ _ h => h) (by have := hxf.2.2; omega) fun w2 m2 => ?_
    have t2 := md.trans m2
    refine rdP_of (v := .bool (!x.may)) (fun w => by simp [go_sem]) ?_
    cases hmay : x.may
    · rw [show (!false) = true from rfl, ifB_bool, if_pos rfl]
      exact hJJ _ _ ⟨by simp [hmay], t2⟩
    · rw [show (!true) = false from rfl, ifB_bool, if_neg (by simp)]
      obtain ⟨f0, f1, f2⟩ := sfield (q := p) (o := 0)
      obtain ⟨g2, g3⟩ := sh_field (v := v)
      obtain ⟨k0, -, -⟩ := sfield (q := v) (o := 4)
      refine rdP_of f0 ?_
      refine rdW_of (sload (t2.keep r1 id)).1 ?_
      show nilK (.pointer (some ⟨v, 0, none⟩)) _
      rw [nilK_p]
      refine rdP_of g3 ?_
      refine rdP_of k0 ?_
      refine rdW_of (sh_idx (t2.keep V1 id)) ?_
      refine rdP_of (v := .bool (decide (x.idx ≤ x0.idx))) (fun w => by simp [go_sem]) ?_
      exact hJJ _ _ ⟨by simp [hmay], t2⟩
  rintro _ w2 ⟨rfl, m2⟩
  unfold J44_6
  intro _
  have t2 := m1.trans m2
  by_cases hbad : x.may = false ∨ x.idx ≤ x0.idx
  · rw [decide_eq_true hbad, ifB_bool, if_pos rfl]
    exact hK0 hbad _ t2
  rw [decide_eq_false hbad, ifB_bool, if_neg (by simp)]
  have hmay : x.may = true := by
    cases hm : x.may with
    | true => rfl
    | false => exact absurd (.inl hm) hbad
  have hlt : x0.idx < x.idx := by
    apply Classical.byContradiction
    intro hh
    exact hbad (.inr (by omega))
  have hlen : x.data.length ≤ 524288 := by simp [ShotM.may] at hmay; exact hmay.2
  have hx : x.ok := ⟨hxf.1, hxf.2.1, by omega⟩
  have hK1 := hK1 hmay hlt
  have hK2 := hK2 hmay hlt
  have r2 := m2.keep r1 id
  refine rv_of (sload r2).2.2.2 ?_
  refine ca_copied (hs.mod t2 fun _ _ h => h) (by omega) fun w3 slx o3 m3 n3 => ?_
  obtain ⟨xa, xc, rfl, -⟩ := o3.isSl
  refine ru_shot (m3.keep r2 id) ⟨_, _, _, rfl⟩ fun w4 m4 r4 => ?_
  have t3 := t2.trans m3
  have t4 : Mod (fun _ => False) w w4 := t3.on m4 fun y hy => .inr (by omega)
  have z2 := t2.size
  have z12 := m2.size
  have z3 := m3.size
  have z4 := m4.size
  have md4 : Mod (fun _ => False) w4 w4.drew := (Mod.refl _ w4).drew
  have lG : ∀ y, G y → y < w.heap.size := fun y hy => hQ.lt (.inl hy)
  have Gv : G v := (h4 v).2 (.inl rfl)
  have Gs : ∀ j y, j < 2 → inSl (sv j) y → G y := fun j y hj hy => (h4 y).2 ((two hj).elim (fun e => .inr (.inl (by subst e; exact hy))) (fun e => .inr (.inr (by subst e; exact hy))))
  have newx : ∀ y, inRd (.slice xa x.data.length xc) y → w.heap.size + 1 ≤ y ∧ y ≠ p := fun y hy => by
    have := n3 y hy.sl
    omega
  have B4 : SvB w4 v d p fs at_ x0 x sl0 (.slice xa x.data.length xc) sv ms F D := by
    have lF : ∀ y, F y → y < w.heap.size := fun y hy => h.lt hy
    refine ⟨h.mod t4 fun _ _ h => h, t4.keep h1 id, fun j hj => (h2 j hj).1.mod t4 fun _ _ h => h, r4, (o3.mod m4 fun y hy e => ?_).rd, hGF v (.inl Gv), fun hh => ?_, fun y hy hh => ?_, fun j y hj hy => hGF y (.inl (Gs j y hj hy)), ?_, fun j hj => (h2 j hj).2, fun j hj hh => ?_, fun j y hj hy hh => ?_, fun hh => ?_, fun hh => ?_, h5⟩
    · have := n3 y hy; omega
    · have := lF p hh; omega
    · have := lF y hh; have := newx y hy; omega
    · have := lG v Gv; omega
    · have := lG p (Gs j p hj hh); omega
    · have := lG y (Gs j y hj hh); have := newx y hy; omega
    · have := lG v Gv; have := newx v hh; omega
    · exact (newx p hh).2 rfl
  have Bd := B4.mod0 md4
  have td := t4.trans md4
  have zd : w4.heap.size = w4.drew.heap.size := rfl
  generalize w4.drew = w5 at Bd td zd
  obtain ⟨g2, g3⟩ := sh_field (v := v)
  have ldat : (Instr.loadAt 3 (.pointer (some ⟨v, 3, none⟩))).run Try.prog w5 = .ok (.int .i64 (at_ : Int)) w5 := by
    have := Bd.at_
    unfold ShAt shsC at this
    simp [go_sem, this]
  have esub : ∀ w, (bin .sub 3 true (.int .i64 1) (.int .i64 (at_ : Int))).run Try.prog w = .ok (.int .i64 (k : Int)) w := fun w => by
    have e : IntKind.i64.wrap (1 - (at_ : Int)) = (k : Int) := by rw [IntKind.wrap_i64]; omega
    simp [go_sem, e]
  show nilK (.pointer (some ⟨v, 0, none⟩)) _
  rw [nilK_p]
  refine rdP_of g2 ?_
  refine rdW_of ldat ?_
  refine rdP_of esub ?_
  show nilK (.pointer (some ⟨v, 0, none⟩)) _
  rw [nilK_p]
  refine rdP_of g2 ?_
  refine rdW_of ldat ?_
  refine rdP_of esub ?_
  show nilK (.pointer (some ⟨v, 0, none⟩)) _
  rw [nilK_p]
  obtain ⟨q1, q2, q3⟩ := sh_f Bd.at_ hk
  refine rdP_of q1 ?_
  refine rdP_of q2 ?_
  refine rdW_of q3 ⟨q3, ldat, ?_⟩
  obtain ⟨f, hf⟩ : ∃ f, fs k = f := ⟨_, rfl⟩
  rw [hf] at hK1 hK2
  refine ca_blank Bd.at_ Bd.vF hk Bd.disk (by omega) (Bd.own k hk) (fun y hy => ⟨Bd.mF k y hk hy, fun e => Bd.vS k hk (e ▸ hy)⟩) fun w6 F6 b6 d6 s6 o6 hb6 nF6 => ?_
  rw [hf] at d6 hb6 ⊢
  have B6 := Bd.blank hk d6 s6.mod nF6 o6
  have nFw : ∀ y, F6 y → F y ∨ w.heap.size ≤ y := fun y hy => (nF6 y hy).imp id fun h' => by have := td.size; omega
  have mod6 : Mod (fun y => F y ∨ G y) w w6 := (td.mono fun _ _ h => h.elim).trans (s6.mod.mono fun y _ hy => hy.imp id (Gs k y hk))
  by_cases he1 : (D.writes f (cleanS (ms k) 0)).1 ≠ 0
  · have es : D.ssave f x (ms k) = D.writes f (cleanS (ms k) 0) := by unfold DM.ssave; rw [if_pos he1]
    rw [es] at hK1
    refine rv_of (v := .bool true) (w' := w6) (by simp [go_sem, he1]) ?_
    rw [ifB_bool, if_pos rfl]
    exact hK1 he1 w6 F6 d6 mod6 nFw
  have he1 : (D.writes f (cleanS (ms k) 0)).1 = 0 := by simpa using he1
  have hb6 := hb6 he1
  subst hb6
  rw [he1]
  refine rv_of (neq0 _) ?_
  rw [ifB_bool, if_neg (by simp)]
  obtain ⟨D1, hD1⟩ : ∃ D1, (D.writes f (cleanS (ms k) 0)).2 = D1 := ⟨_, rfl⟩
  have es : D.ssave f x (ms k) = if (D1.sparts f x.data).1 ≠ 0 then D1.sparts f x.data else (D1.sparts f x.data).2.smarks f x := by
    unfold DM.ssave
    rw [if_neg (by simp [he1]), hD1]
  rw [es] at hK1 hK2
  rw [hD1] at B6 d6
  have lD1 : D1.waits.length ≤ D.waits.length + 384 := by
    have hcl : ∀ s ∈ cleanS (ms k) 0, s.2.length = 128 := fun s hs => by
      unfold cleanS at hs
      obtain ⟨j, hj, hj2⟩ := List.mem_filterMap.1 hs
      split at hj2
      · cases hj2
      · injection hj2 with hj2
        rw [← hj2]
        exact zsec_length
    have h1 := writes_len f (cleanS (ms k) 0) D hcl
    have h2 : (cleanS (ms k) 0).length ≤ 3 := by
      unfold cleanS
      refine Nat.le_trans (List.length_filterMap_le ..) ?_
      simp
    rw [← hD1]
    omega
  -- the parts
  refine rv_of (sl_alloc w6) ?_
  have mA : Mod (fun _ => False) w6 (w6.alloc (.cells #[.slice none 0 0] 23)) := (Mod.refl _ w6).alloc _
  have rA : hp (w6.alloc (.cells #[.slice none 0 0] 23)) w6.heap.size = some (.cells #[.slice none 0 0] 23 (0, 0)) := by simp only [hp_alloc, if_pos]
  generalize (w6.alloc (.cells #[.slice none 0 0] 23)) = w7 at mA rA
  obtain ⟨a, ha⟩ : ∃ a, w6.heap.size = a := ⟨_, rfl⟩
  rw [ha] at rA ⊢
  have la7 := lt_of_heap rA
  obtain ⟨f0, f1, f2⟩ := sfield (q := p) (o := 0)
  refine rv_of (f2 _) (rv_of (sload (mA.keep B6.px id)).2.2.1 ?_)
  refine ca_parts fun w8 m8 hq8 z8 => ?_
  obtain ⟨qq, hqq⟩ : ∃ qq, w7.heap.size = qq := ⟨_, rfl⟩
  rw [hqq] at hq8 z8 ⊢
  have t68 := mA.trans m8
  obtain ⟨N, hN⟩ : ∃ N, secN x.data.length = N := ⟨_, rfl⟩
  have hNb : N ≤ 4129 := by rw [← hN]; unfold secN; omega
  refine RFW_topG (n := secN x.data.length) (np := 1) (iter_parts (q := qq) (a := xa) (cap := xc) (l := x.data) (n := x.data.length) rfl (by omega)) (by omega) hq8
    (fun j y W' r o hg hl => by obtain ⟨u, rfl, hov⟩ := hg; exact ⟨u, rfl, hov.putLoop hl _⟩) (fun j y W' hg => by obtain ⟨u, rfl, _⟩ := hg; rfl)
    (fun j W' => j ≤ N ∧ Mod (fun _ => False) w6 W' ∧ w8.heap.size ≤ W'.heap.size ∧ hp W' w8.heap.size = some (.deferred (some [])) ∧ ∃ va, hp W' a = some (.cells #[va] 23 (0, 0)) ∧ Own W' 5 1 va (128 * j) (bv (partsL x.data j)) ∧ (∀ y, inSl va y → w8.heap.size + 1 < y))
    (fun c W' => False) ?_ ?_ ?_ ?_ ?_ ?_
  · rintro j W' ⟨-, m, -⟩
    exact (B6.mod0 m).sh
  · rintro j W' W'' ⟨hj, m, hz, hd, va, hva, hov, hnv⟩ m'
    refine ⟨hj, m.on m' fun y hy => .inr (by rcases hy with rfl | rfl <;> omega), Nat.le_trans hz m'.size, m'.keep hd (fun hh => by rcases hh with hh | hh <;> omega), va, m'.keep hva (fun hh => by rcases hh with hh | hh <;> omega), hov.mod m' fun y hy hh => ?_, hnv⟩
    have := hnv y hy
    rcases hh with hh | hh <;> omega
  · intro o
    have m9 : Mod (fun _ => False) w8 ((w8.alloc (.deferred (some []))).alloc (.loop o)) := ((Mod.refl _ w8).alloc _).alloc _
    have e9 : hp ((w8.alloc (.deferred (some []))).alloc (.loop o)) w8.heap.size = some (.deferred (some [])) := by simp [go_sem]
    generalize (w8.alloc (.deferred (some []))).alloc (.loop o) = W9 at m9 e9
    exact ⟨by omega, t68.trans m9, m9.size, e9, _, m9.keep (m8.keep rA id) id, Own.nil .., fun y hy => by cases hy⟩
  · rintro j y W' rb hj ⟨u, rfl, hou⟩ ⟨hji, m, hz, hd, va, hva, hov, hnv⟩ hrb hst KN KJ hKN hKJ W0 hbeg
    rw [hN] at hj
    unfold R44_4
    refine hbeg _ ?_
    obtain ⟨va', vc', rfl, -⟩ := hov.isSl
    refine rv_of (ld_sl hva) ?_
    refine rx_append (n := 128 * j) (m := 128) (x := u) Try.underlying23 Try.underlying23 (elemT_of uT1) hov hou.rd (bv_one _) (by omega) fun s5 W5 o5 m5 n5 => ?_
    rw [← bv_append, ← partsL_succ, show 128 * j + 128 = 128 * (j + 1) by omega] at o5
    obtain ⟨s5a, s5c, rfl, -⟩ := o5.isSl
    have no : ∀ y, y ≤ w8.heap.size + 1 → ¬ inSl (.slice va' (128 * j) vc') y := fun y hy hh => by have := hnv y hh; omega
    have lrb := lt_of_heap hrb
    have n5' : ∀ y, inSl (.slice s5a (128 * (j + 1)) s5c) y → w8.heap.size + 1 < y := fun y hy => by
      rcases n5 y hy with h' | h'
      · exact hnv y h'
      · omega
    refine ru_sl (m5.keep hva (no a (by omega))) ⟨_, _, _, rfl⟩ fun W6 m6 hva6 => ?_
    have z5 := m5.size
    have z6 := m6.size
    refine hKN _ ⟨hj, (m.on m5 fun y hy => .inr (by have := hnv y hy; omega)).on m6 fun y hy => .inr (by omega), by omega, m6.keep (m5.keep hd (no _ (by omega))) (by show ¬ _ = _; omega), _, hva6, o5.mod m6 fun y hy e => by have := n5' y hy; omega, n5'⟩ (m6.keep (m5.keep hrb (no _ (by omega))) (by show ¬ _ = _; omega)) ?_
    have b5 := m5.blk qq (by omega) (no _ (by omega))
    have b6 := m6.blk qq (by omega) (by show ¬ _ = _; omega)
    exact b6.trans b5
  · rintro W' o ⟨-, m, hz, hd, va, hva, hov, hnv⟩
    rw [hN] at hov
    have mp : Mod (fun y => y = w8.heap.size + 1) W' (W'.putObj (w8.heap.size + 1) (.loop o)) := (Mod.refl (fun y => y = w8.heap.size + 1) W').putObj (b := w8.heap.size + 1) (.inl rfl) (.loop o)
    have m' : Mod (fun _ => False) w6 (W'.putObj (w8.heap.size + 1) (.loop o)) := m.on mp fun y hy => .inr (by omega)
    have hd' := mp.keep hd (by show ¬ _ = _; omega)
    have hva' := mp.keep hva (by show ¬ _ = _; omega)
    have hov' := hov.mod mp fun y hy e => by have := hnv y hy; omega
    have zp := mp.size
    generalize W'.putObj (w8.heap.size + 1) (.loop o) = W2 at m' hd' hva' hov' mp zp
    obtain ⟨va1, vc1, rfl, -⟩ := hov'.isSl
    have BW := B6.mod0 m'
    unfold A44_5
    show JoinW _ _
    have lF6 : ∀ y, F6 y → y < w6.heap.size := fun y hy => B6.lt.2.2.2.2 y hy
    have mdW : Mod (fun y => F y ∨ G y) w W2 := mod6.trans (m'.mono fun _ _ h => h.elim)
    have zWw : w.heap.size ≤ w6.heap.size := mod6.size
    have ret : ∀ (W3 : World) (e : Int), hp W3 w8.heap.size = some (.deferred (some [])) → (∀ W4, Mod (fun y => y = w8.heap.size) W3 W4 → K (.int .i64 e) W4) → retD ([w8.heap.size] ++ []) W3 fun w => K (.int .i64 e) w := fun W3 e hd hk' =>
      retD_one (.inr ⟨_, rfl⟩) (fun D' hD' => by simp only [List.mem_singleton] at hD'; subst hD'; exact hd) fun W4 m => hk' W4 (m.mono fun y _ hy => by simpa using hy)
    refine joinK (fun s W3 => (D1.sparts f x.data).1 = 0 ∧ ∃ s0 F3, s = (s0, ()) ∧ SvB W3 v d p fs at_ x0 x sl0 (.slice xa x.data.length xc) sv (set1 ms k z384) F3 (D1.sparts f x.data).2 ∧ (∀ y, F3 y → F6 y ∨ W2.heap.size ≤ y) ∧ Mod F6 W2 W3 ∧ hp W3 w8.heap.size = some (.deferred (some []))) (fun JJ hJJ => ?_) ?_
    · refine rv_of (ld_sl hva') ?_
      refine rn_len23 ?_
      refine rv_of (v := .bool (decide (0 < N))) (w' := W2) ?_ ?_
      · obtain ⟨t, ht⟩ : ∃ t, 128 * N = t := ⟨_, rfl⟩
        rw [ht]
        have e : (0 < N) = (0 < t) := by apply propext; omega
        simp only [e]
        simp [go_sem]
      by_cases h0 : 0 < N
      · have esp : D1.sparts f x.data = D1.write f 3 (partsL x.data N) := by unfold DM.sparts; rw [hN, if_neg (by omega)]
        rw [decide_eq_true h0, ifB_bool, if_pos rfl]
        have md : Mod (fun _ => False) W2 W2.drew := (Mod.refl _ W2).drew
        have B3 := BW.mod0 md
        obtain ⟨g1, g2'⟩ := sh_d B3.at_
        show nilK (.pointer (some ⟨v, 0, none⟩)) _
        rw [nilK_p]
        refine rdP_of g1 ?_
        refine rdW_of g2' ?_
        refine rdW_of (ld_sl (md.keep hva' id)) ?_
        have hpl := partsL_length x.data N
        refine ca_write (n := 128 * N) (bs := partsL x.data N) B3.disk (hov'.mod md fun _ _ h => h).rd (fun y hy => ?_) (by omega) (by omega) fun W3 F3 d3 s3 => ?_
        · have h1 := hnv y hy.sl
          have h2 := hov'.lt hy.sl
          exact ⟨fun hh => by have := lF6 y hh; omega, h2⟩
        have B4' := B3.step d3 s3
        rw [← esp] at B4' d3 ⊢
        refine rv_of (v := .bool (decide ((D1.sparts f x.data).1 ≠ 0))) (w' := W3) ?_ ?_
        · simp [go_sem]
          rw [Bool.eq_iff_iff]
          simp
        have mod3 : Mod F6 W2 W3 := (md.mono fun _ _ h => h.elim).trans s3.mod
        have nF3 : ∀ y, F3 y → F6 y ∨ W2.heap.size ≤ y := fun y hy => s3.sub y hy
        have hd3 : hp W3 w8.heap.size = some (.deferred (some [])) := mod3.keep hd' (fun hh => by have := lF6 _ hh; omega)
        by_cases he : (D1.sparts f x.data).1 = 0
        · rw [decide_eq_false (by simpa using he), ifB_bool, if_neg (by simp)]
          exact hJJ _ _ ⟨he, _, F3, rfl, B4', nF3, mod3, hd3⟩
        · rw [decide_eq_true he, ifB_bool, if_pos rfl]
          rw [if_pos he] at hK1
          refine ret W3 _ hd3 fun W4 m4 => ?_
          refine hK1 he W4 F3 (d3.mod m4 fun y hy e => ?_) (((mdW.on mod3 fun y hy => ?_)).on m4 fun y hy => .inr (by omega)) fun y hy => ?_
          · subst e
            rcases nF3 _ hy with h' | h'
            · have := lF6 _ h'; omega
            · have := lt_of_heap hd'; omega
          · rcases nFw y hy with h' | h'
            · exact .inl (.inl h')
            · exact .inr h'
          · rcases nF3 y hy with h' | h'
            · exact nFw y h'
            · exact .inr (by omega)
      · have esp : D1.sparts f x.data = (0, D1) := by unfold DM.sparts; rw [hN, if_pos (by omega)]
        rw [decide_eq_false h0, ifB_bool, if_neg (by simp)]
        exact hJJ _ _ ⟨by rw [esp], _, F6, rfl, by rw [esp]; exact BW, fun y hy => .inl hy, Mod.refl _ _, hd'⟩
    rintro s W3 ⟨he, s0, F3, rfl, B3, nF3, mod3, hd3⟩
    unfold J44_1
    intro _
    rw [if_neg (by simp [he])] at hK1 hK2
    have z3' := mod3.size
    have ld8 := lt_of_heap hd'
    have lD2 : (D1.sparts f x.data).2.waits.length ≤ D1.waits.length + 128 * N := by
      unfold DM.sparts
      rw [hN]
      split
      · simp
      · have := (write_len D1 f 3 (partsL x.data N)).1
        rw [partsL_length] at this
        exact this
    have mod3w : Mod (fun y => F y ∨ G y) w W3 := mdW.on mod3 fun y hy => by
      rcases nFw y hy with h' | h'
      · exact .inl (.inl h')
      · exact .inr h'
    have hdF3 : ¬ F3 w8.heap.size := fun hh => by
      rcases nF3 _ hh with h' | h'
      · have := lF6 _ h'; omega
      · omega
    have nF3w : ∀ y, F3 y → F y ∨ w.heap.size ≤ y := fun y hy => by
      rcases nF3 y hy with h' | h'
      · exact nFw y h'
      · exact .inr (by omega)
    have toW : ∀ y, (F3 y ∨ inSl (sv k) y ∨ y = w8.heap.size ∨ y = v) → (F y ∨ G y) ∨ w.heap.size ≤ y := fun y hy => by
      rcases hy with hy | hy | rfl | rfl
      · exact (nF3w y hy).imp .inl id
      · exact .inl (.inr (Gs k y hk hy))
      · exact .inr (by omega)
      · exact .inl (.inr Gv)
    refine save_marks B3 hx hk hd3 hdF3 (by omega) (fun hne W4 F4 d4 m4 nF4 => ?_) fun hz0 W4 F4 ms4 B4' hms4 m4 nF4 => ?_
    · refine hK1 hne W4 F4 d4 (mod3w.on m4 fun y hy => toW y ?_) fun y hy => ?_
      · rcases hy with hy | hy | hy
        · exact .inl hy
        · exact .inr (.inl hy)
        · exact .inr (.inr (.inl hy))
      · rcases nF4 y hy with h' | h'
        · exact nF3w y h'
        · exact .inr (by omega)
    · refine hK2 hz0 W4 F4 ms4 (fun y => inRd (.slice xa x.data.length xc) y) B4'.disk (mod3w.on m4 toW) (fun y hy => ?_) ⟨_, sv, B4'.at_, fun j hj => ⟨B4'.own j hj, B4'.vS j hj⟩, B4'.sh, h4, h5, fun _ => Iff.rfl, fun y hy hg => ?_⟩ (fun j hj => ?_) (fun y hy => ?_) fun y hy => ?_
      · rcases nF4 y hy with h' | h'
        · exact nF3w y h'
        · exact .inr (by omega)
      · rcases (h4 y).1 hg with rfl | hg | hg
        · exact B4'.xv hy
        · exact B4'.xS 0 y (by omega) hy hg
        · exact B4'.xS 1 y (by omega) hy hg
      · rw [hms4 j hj]
        by_cases hjk : j = k
        · rw [if_pos hjk, if_pos hjk]
        · rw [if_neg hjk, if_neg hjk]
          unfold set1
          rw [if_neg hjk]
      · have := newx y hy; omega
      · rcases hy with hy | hy
        · rcases (h4 y).1 hy with rfl | hg | hg
          · exact B4'.vF
          · exact B4'.mF 0 y (by omega) hg
          · exact B4'.mF 1 y (by omega) hg
        · exact B4'.sF y hy
  · rintro c W' o hf'
    exact hf'.elim
theorem ca_ssave_no {w : World} {K : Kont} {x : ShotM} {sl v : Value} (h : NoSh w v) (hK : ∀ w', Mod (fun _ => False) w w' → K (.int .i64 1) w') : Ca Try.prog 44 #[v, .agg (shotC x sl).toArray] w K := by
  apply ca44
  unfold F44
  refine rv_shbox fun w1 p m1 hp1 r1 z1 => ?_
  refine ca_sno (h.mod m1) ?_
  rw [ifB_bool, if_pos rfl]
  exact hK _ m1
end Go.Proofs

namespace Go.Proofs
open Go Go.Vc

theorem ca_sameS {w : World} {K : Kont} {x y : ShotM} {s1 s2 : Value} (h1 : ShR w x s1) (h2 : ShR w y s2) (hK : ∀ w', Mod (fun _ => False) w w' → K (.bool (decide (x = y))) w') : Ca Try.prog 47 #[.agg (shotC x s1).toArray, .agg (shotC y s2).toArray] w K := by
  obtain ⟨a1, c1, rfl⟩ := h1.isSl
  obtain ⟨a2, c2, rfl⟩ := h2.isSl
  apply ca47
  unfold F47
  refine rv_shbox fun w1 p m1 hp1 r1 z1 => ?_
  refine rv_shbox fun w2 q m2 hq r2 z2 => ?_
  have r1 := m2.keep r1 id
  have t2 := m1.trans m2
  obtain ⟨f0, f1, f2⟩ := sfield (q := p) (o := 0)
  obtain ⟨g0, g1, g2⟩ := sfield (q := q) (o := 0)
  obtain ⟨l0, l1, l2, -⟩ := sload r1
  obtain ⟨k0, k1, k2, -⟩ := sload r2
  refine rv_of (f0 _) (rv_of l0 (rv_of (g0 _) (rv_of k0 ?_)))
  refine rv_of (v := .bool (decide (x.idx = y.idx))) (w' := w2) ?_ ?_
  · simp [go_sem]
    rw [Bool.eq_iff_iff]
    simp
    omega
  by_cases e1 : x.idx = y.idx
  · rw [decide_eq_true e1, ifB_bool, if_pos rfl]
    refine rv_of (f1 _) (rv_of l1 (rv_of (g1 _) (rv_of k1 ?_)))
    refine rv_of (v := .bool (decide (x.term = y.term))) (w' := w2) ?_ ?_
    · simp [go_sem]
      rw [Bool.eq_iff_iff]
      simp
      omega
    by_cases e2 : x.term = y.term
    · rw [decide_eq_true e2, ifB_bool, if_pos rfl]
      refine rv_of (f2 _) (rv_of l2 ?_)
      refine rx_toStr Try.underlying23 Try.underlying5 Try.underlying9 (h1.mod t2 fun _ _ h => h) ?_
      refine rv_of (g2 _) (rv_of k2 ?_)
      refine rx_toStr Try.underlying23 Try.underlying5 Try.underlying9 (h2.mod t2 fun _ _ h => h) ?_
      refine rv_of (eql_str _ _ _) ?_
      have := hK w2 t2
      have e3 : (x = y) = (x.data = y.data) := by
        apply propext
        constructor
        · rintro rfl; rfl
        · intro e3
          cases x; cases y
          simp_all
      have e4 : decide (x = y) = decide (x.data = y.data) := decide_eq_decide.2 (by rw [e3])
      rw [e4] at this
      exact this
    · rw [decide_eq_false e2, ifB_bool, if_neg (by simp)]
      have := hK w2 t2
      rwa [decide_eq_false (fun e => e2 (by rw [e]))] at this
  · rw [decide_eq_false e1, ifB_bool, if_neg (by simp)]
    have := hK w2 t2
    rwa [decide_eq_false (fun e => e1 (by rw [e]))] at this

def fs34 : Nat → Int := fun i => if i = 0 then 3 else 4
def shA : ShotM := ⟨5, 0, [97]⟩
def shB : ShotM := ⟨9, 0, [98]⟩
def sk1 : Int × SOpen := DM.new.sopen fs34
def sk2 : Int × DM := sk1.2.D.ssave 3 shA (sk1.2.ms 0)
def sk3 : Int × DM := sk2.2.arm 3
def sk4 : Int × DM := sk3.2.ssave 4 shB (sk1.2.ms 1)
def sk5 : DM := sk4.2.crash 3 [3]
def sk6 : Int × SOpen := sk5.sopen fs34
theorem sk1_is : sk1.1 = 0 ∧ sk1.2.x = shot0 ∧ sk1.2.at_ = 1 ∧ sk1.2.D.waits.length = 0 := by
  refine ⟨?_, ?_, ?_, ?_⟩ <;> kernel_rfl
theorem sk2_is : sk2.1 = 0 ∧ sk2.2.waits.length = 0 := by
  refine ⟨?_, ?_⟩ <;> kernel_rfl
theorem sk3_is : sk3.1 = 0 ∧ sk3.2.waits.length = 0 := by
  refine ⟨?_, ?_⟩ <;> kernel_rfl
theorem sk4_is : sk4.1 = 180 ∧ sk4.2.waits.length = 3 := by
  refine ⟨?_, ?_⟩ <;> kernel_rfl
theorem sk6_is : sk6.1 = 0 ∧ sk6.2.x = shA ∧ sk5.waits.length = 0 := by
  refine ⟨?_, ?_, ?_⟩ <;> kernel_rfl

/-- A snapshot's literal with a constant's bytes. -/
theorem litShot {w : World} {K : Kont} {u : UInt8} {i : Nat} (hK : ∀ w' sl, ShR w' ⟨i, 0, [u]⟩ sl → Mod (fun _ => False) w w' → (∀ y, inRd sl y → w.heap.size ≤ y) → K (.agg (shotC ⟨i, 0, [u]⟩ sl).toArray) w') :
    rx Try.prog (xLit 23 1 [(0, .int .u8 (u.toNat : Int))]) w fun v13 w14 => rx Try.prog (xConv 23 23 v13) w14 fun v15 w16 => rv Try.prog (Instr.build 83 #[(0, (.int .u64 (i : Int))), (2, v15)]) w16 fun v17 w18 => K v17 w18 := by
  refine lit1 fun v1 w1 o1 m1 n1 => ?_
  obtain ⟨b, cap, rest, rfl, hc, hh, hr, hr1⟩ := own_cells o1 (by omega)
  refine rx_mark Try.underlying23 Try.underlying5 hh ?_
  have hb : w.heap.size ≤ b := n1 b rfl
  have m2 : Mod (fun y => y = b) w1 (w1.freeze ⟨b, (bv [u] ++ rest).toArray.size, none⟩ 1) := (Mod.refl (fun y => y = b) w1).freeze (b := b) (.inl rfl) _
  have hh' : w1.heap[b]? = _ := hh
  have h2 : (w1.freeze ⟨b, (bv [u] ++ rest).toArray.size, none⟩ 1).heap[b]? = some (.cells (bv [u] ++ rest).toArray 5 (markFz (0, 0) (bv [u] ++ rest).toArray.size)) := by
    rw [heap_freeze1, if_pos rfl, hh']
  generalize (w1.freeze ⟨b, (bv [u] ++ rest).toArray.size, none⟩ 1) = w2 at m2 h2
  have hrd : Rd w2 1 (.slice (some ⟨b, 0, none⟩) 1 cap) 1 (bv [u]) := ⟨rfl, .inr ⟨b, 0, cap, rfl, hc, _, _, _, h2, by simp, by simp [bv]⟩⟩
  refine rv_of (v := .agg (shotC ⟨i, 0, [u]⟩ (.slice (some ⟨b, 0, none⟩) 1 cap)).toArray) (w' := w2) (by simp [go_sem, shotC]) ?_
  exact hK _ _ hrd (m1.on m2 fun y hy => .inr (by omega)) fun y hy => by rw [inRd_at hy]; exact hb

theorem fs34_0 : fs34 0 = 3 := rfl
theorem fs34_1 : fs34 1 = 4 := rfl
set_option maxRecDepth 10000 in
theorem ca_known21 {w : World} {K : Kont} (hK : ∀ w', Mod (fun _ => False) w w' → K (.bool true) w') : Ca Try.prog 41 #[] w K := by
  apply ca41
  unfold F41
  refine ca_new fun w1 d1 m1 => ?_
  have hlt : w.heap.size < w1.heap.size := d1.lt d1.self
  obtain ⟨d, hd⟩ : ∃ d, w.heap.size = d := ⟨_, rfl⟩
  have s1 : Stp (fun b => b = d) w w1 (fun b => b = d) := ⟨m1.mono fun _ _ h => h.elim, fun b hb => .inl hb⟩
  rw [hd] at d1 hlt ⊢
  have toW : ∀ {W W' : World} {X : Nat → Prop}, Mod (fun _ => False) w W → Mod X W W' → (∀ y, X y → d ≤ y) → Mod (fun _ => False) w W' := fun m m' hX => m.on m' fun y hy => .inr (by have := hX y hy; omega)
  refine ca_sopen (fs := fs34) d1 (by simp [DM.new]) (fun w' F' h => absurd sk1_is.1 h) fun w2 F2 v G R _ d2 s2 q2 n2 => ?_
  rw [show DM.new.sopen fs34 = sk1 from rfl] at d2 q2
  rw [sk1_is.2.1, sk1_is.2.2.1] at q2
  have nF2 : ∀ y, F2 y → d ≤ y := fun y hy => by rcases s2.sub y hy with h | h <;> omega
  have t2 : Mod (fun _ => False) w w2 := toW m1 s2.mod fun y hy => by omega
  refine rv_of (v := dptr v) (w' := w2) (by simp [go_sem]) ?_
  refine rv_of (v := .int .i64 0) (w' := w2) (by simp [go_sem]) ?_
  refine joinK (fun s W => s = (.bool false, ()) ∧ ∃ F', DiskR W d F' sk5 ∧ Mod (fun _ => False) w W ∧ ∀ y, F' y → d ≤ y) (fun JJ hJJ => ?_) ?_
  · refine rv_of (neq0 _) ?_
    rw [ifB_bool, if_neg (by simp)]
    refine litShot (u := 97) (i := 5) fun w3 sl hs3 m3 n3 => ?_
    have d3 := d2.mod m3 fun _ _ h => h
    have q3 := q2.mod m3 fun _ _ h => h
    have t3 := t2.trans m3
    have e2 : sk1.2.D.ssave (fs34 (1 - 1)) shA (sk1.2.ms (1 - 1)) = sk2 := rfl
    refine ca_ssave (x := shA) q3 d3 (fun y hy => (n2 y hy).2) (by omega) ⟨by decide, by decide, by decide⟩ hs3 (by rw [sk1_is.2.2.2]; decide) (fun h => by rcases h with h | h <;> exact absurd h (by decide)) (fun _ _ h => by rw [e2] at h; exact absurd sk2_is.1 h) fun _ _ _ w4 F4 ms4 R4 d4 m4 nF4 q4 hms4 nR4 gF4 => ?_
    rw [e2] at d4
    have GR : ∀ y, F2 y ∨ G y → d ≤ y := fun y hy => by
      rcases hy with hy | hy
      · exact nF2 y hy
      · have := (n2 y (.inl hy)).1; omega
    have t4 := toW t3 m4 GR
    have nF4' : ∀ y, F4 y → d ≤ y := fun y hy => by
      rcases nF4 y hy with h | h
      · exact nF2 y h
      · have := t3.size; omega
    refine rv_of (neq0 _) ?_
    rw [ifB_bool, if_neg (by simp)]
    refine ca_arm d4 (by decide) fun w5 d5 m5 => ?_
    rw [show sk2.2.arm 3 = sk3 from rfl] at d5 ⊢
    rw [sk3_is.1]
    refine rv_of (neq0 _) ?_
    rw [ifB_bool, if_neg (by simp)]
    have q5 := q4.mod m5 fun y hy e => gF4 y hy (e ▸ d4.self)
    have t5 := toW t4 m5 fun y hy => by omega
    refine litShot (u := 98) (i := 9) fun w6 sl6 hs6 m6 n6 => ?_
    have d6 := d5.mod m6 fun _ _ h => h
    have q6 := q5.mod m6 fun _ _ h => h
    have t6 := t5.trans m6
    have e4 : sk3.2.ssave (fs34 (1 - (1 - 1))) shB (ms4 (1 - (1 - 1))) = sk4 := by
      rw [hms4 1 (by omega)]
      rfl
    refine ca_ssave (x := shB) q6 d6 gF4 (by omega) ⟨by decide, by decide, by decide⟩ hs6 (by rw [sk3_is.2]; decide) (fun h => by rcases h with h | h <;> exact absurd h (by decide)) (fun _ _ _ w7 F7 d7 m7 nF7 => ?_) fun _ _ h => by rw [e4, sk4_is.1] at h; exact absurd h (by decide)
    rw [e4] at d7 ⊢
    rw [sk4_is.1]
    have GR4 : ∀ y, F4 y ∨ G y → d ≤ y := fun y hy => by
      rcases hy with hy | hy
      · exact nF4' y hy
      · exact GR y (.inr hy)
    have t7 := toW t6 m7 GR4
    have nF7' : ∀ y, F7 y → d ≤ y := fun y hy => by
      rcases nF7 y hy with h | h
      · exact nF4' y h
      · have := t6.size; omega
    refine rv_of (v := .bool false) (w' := w7) (by simp [go_sem]) ?_
    rw [ifB_bool, if_neg (by simp)]
    refine lit1 (u := 3) fun vl w8 o8 m8 n8 => ?_
    have d8 := d7.mod m8 fun _ _ h => h
    have t8 := t7.trans m8
    refine ca_crash (keep := 3) (torn := [3]) d8 (by rw [sk4_is.2]; decide) (by decide) o8.rd (fun b hb => ?_) fun w9 F9 d9 s9 => ?_
    · refine ⟨fun h => ?_, o8.lt hb.sl⟩
      have := n8 b hb.sl
      have := d7.lt h
      omega
    refine rv_of (v := .bool false) (w' := w9) (by simp [go_sem]) ?_
    refine hJJ _ _ ⟨rfl, F9, d9, toW t8 s9.mod nF7', fun y hy => ?_⟩
    rcases s9.sub y hy with h | h
    · exact nF7' y h
    · have := t8.size; omega
  rintro _ w9 ⟨rfl, F9, d9, t9, nF9⟩
  unfold J41_0
  intro _
  rw [ifB_bool, if_neg (by simp)]
  refine ca_sopen (fs := fs34) d9 (by rw [sk6_is.2.2]; decide) (fun w' F' h => absurd sk6_is.1 h) fun wa Fa va Ga Ra _ da sa qa na => ?_
  rw [show sk5.sopen fs34 = sk6 from rfl, sk6_is.2.1] at qa
  have ta := toW t9 sa.mod nF9
  refine rv_of (v := dptr va) (w' := wa) (by simp [go_sem]) ?_
  refine rv_of (v := .int .i64 0) (w' := wa) (by simp [go_sem]) ?_
  refine ca_slast qa (by decide) (fun h => absurd h (by decide)) fun _ wb sl ob mb nb => ?_
  obtain ⟨a', c', rfl, -⟩ := ob.isSl
  refine rv_of (v := .agg (shotC shA (.slice a' shA.data.length c')).toArray) (w' := wb) (by simp [go_sem]) ?_
  refine rv_of (v := .int .i64 0) (w' := wb) (by simp [go_sem]) ?_
  refine rv_shvar fun wc q mc hq rc zc => ?_
  refine ru_shot rc ⟨_, _, _, rfl⟩ fun wd md rd => ?_
  have mcd : Mod (fun _ => False) wb wd := mc.on md fun y hy => .inr (by omega)
  refine rv_of (eql0 _) ?_
  rw [ifB_bool, if_pos rfl]
  refine rv_of (eql0 _) ?_
  rw [ifB_bool, if_pos rfl]
  refine rv_of (sload rd).2.2.2 ?_
  refine litShot (u := 97) (i := 5) fun we sl7 hs7 m7 n7 => ?_
  refine ca_sameS (x := shA) (y := shA) ((ob.mod (mcd.trans m7) fun _ _ h => h).rd) hs7 fun wf mf => ?_
  rw [decide_eq_true rfl]
  exact hK _ ((((ta.trans mb).trans mcd).trans m7).trans mf)
end Go.Proofs

namespace Go.Proofs
open Go Go.Vc

theorem secAt_new (f a : Int) : DM.new.secAt f a = zsec := rfl
theorem counted_zero : counted (fun _ => zsec) (marks3 fun _ => zsec) = shot0 := by kernel_rfl
theorem marks_zero : (marks3 fun _ => zsec) = z384 := by kernel_rfl
theorem fileS_new (f : Int) : fileS DM.new f = shot0 := counted_zero
theorem marksF_new (f : Int) : marksF DM.new f = z384 := marks_zero
def rightF (f g : Int) : Bool := decide (0 ≤ f ∧ f < 5 ∧ 0 ≤ g ∧ g < 5 ∧ f ≠ g)
theorem smay_new (f : Int) : DM.new.smay f = if 0 ≤ f ∧ f < 5 then 0 else 2 := by
  have e : mayB f 0 3 = decide (0 ≤ f ∧ f < 5) := by
    unfold mayB
    rw [decide_eq_decide]
    omega
  unfold DM.smay
  rw [if_neg (by simp [DM.new]), e]
  by_cases h : 0 ≤ f ∧ f < 5 <;> simp [h]
theorem sopen_new (fs : Nat → Int) : (DM.new.sopen fs).1 = if rightF (fs 0) (fs 1) = true then 0 else 2 := by
  unfold DM.sopen
  rw [smay_new, smay_new]
  by_cases h0 : 0 ≤ fs 0 ∧ fs 0 < 5
  · rw [if_pos h0, if_neg (by simp)]
    by_cases h1 : 0 ≤ fs 1 ∧ fs 1 < 5
    · rw [if_pos h1, if_neg (by simp)]
      by_cases he : fs 0 = fs 1
      · rw [if_pos he, if_neg (by simp [rightF, he])]
      · rw [if_neg he, if_pos (by simp [rightF, he]; omega)]
        have hr : ∀ i, sround fs (fun k => fileS DM.new (fs k)) (fun k => marksF DM.new (fs k)) i (sopen0 DM.new fs) = (0, sopen0 DM.new fs) := fun i => by
          unfold sround
          rw [if_neg (by show ¬ 0 < (fileS DM.new (fs i)).idx; rw [fileS_new]; decide), if_neg (fun h => h.2 (marksF_new (fs i)))]
        have hg : sgo fs (fun k => fileS DM.new (fs k)) (fun k => marksF DM.new (fs k)) [0, 1] (sopen0 DM.new fs) = (0, sopen0 DM.new fs) := by
          simp only [sgo, hr, if_true]
        rw [hg]
        rfl
    · rw [if_neg h1, if_pos (by simp), if_neg (by simp [rightF]; omega)]
  · rw [if_neg h0, if_pos (by simp), if_neg (by simp [rightF]; omega)]

theorem zero_alloc (W : World) : (Instr.alloc 90 true (.tuple #[])).run Try.prog W = .ok (.pointer (some ⟨W.heap.size, 0, none⟩)) (W.alloc (.cells zeroSh.toArray 90)) := by simp [go_sem, zeroSh]
theorem eqE (a b : Int) (W : World) : (bin .eql 28 true (.int .i64 a) (.int .i64 b)).run Try.prog W = .ok (.bool (decide (a = b))) W := by
  simp [go_sem]
  rw [Bool.eq_iff_iff]
  simp

set_option maxRecDepth 10000 in
theorem ca_shotsNone {w : World} {K : Kont} {f g : Int} {x : ShotM} {sl : Value} (hs : ShR w x sl) (hx : x.data.length < 9223372036854775807) (hK : ∀ w', Mod (fun _ => False) w w' → K (.bool true) w') : Ca Try.prog 10 #[.int .i64 f, .int .i64 g, .agg (shotC x sl).toArray] w K := by
  obtain ⟨sa, sc, rfl⟩ := hs.isSl
  apply ca10
  unfold F10
  refine rv_shbox fun w1 p m1 hp1 r1 z1 => ?_
  obtain ⟨f0, f1, f2⟩ := sfield (q := p) (o := 0)
  refine rv_of (f2 _) (rv_of (sload r1).2.2.1 ?_)
  refine rn_len23 ?_
  refine rv_of (v := .bool (decide (1000 < x.data.length))) (w' := w1) (by simp [go_sem]; omega) ?_
  by_cases hbig : 1000 < x.data.length
  · rw [decide_eq_true hbig, ifB_bool, if_pos rfl]
    exact ca_known21 fun w2 m2 => hK _ (m1.trans m2)
  rw [decide_eq_false hbig, ifB_bool, if_neg (by simp)]
  refine ca_sopen_nil fun w2 m2 => ?_
  refine rv_of (v := .pointer none) (w' := w2) (by simp [go_sem]) ?_
  refine rv_of (v := .int .i64 1) (w' := w2) (by simp [go_sem]) ?_
  refine ca_new fun w3 d3 m3 => ?_
  have t2 := m1.trans m2
  have t3 := t2.trans m3
  obtain ⟨fs, hfs⟩ : ∃ fs : Nat → Int, (fun i => if i = 0 then f else g) = fs := ⟨_, rfl⟩
  have hf0 : fs 0 = f := by rw [← hfs]; rfl
  have hf1 : fs 1 = g := by rw [← hfs]; rfl
  have hsn := sopen_new fs
  rw [hf0, hf1] at hsn
  -- behind the opening
  have rest : ∀ (w4 : World) (v : Value) (e : Int), Mod (fun _ => False) w w4 → hp w4 p = some (.cells (shotC x (.slice sa x.data.length sc)).toArray 83 (0, 0)) → e = (if rightF f g = true then 0 else 2) →
      rv Try.prog (Instr.extract (.tuple #[v, .int .i64 e]) 0) w4 fun v22 w23 => rv Try.prog (Instr.extract (.tuple #[v, .int .i64 e]) 1) w23 fun v24 w25 => JoinW (S := Value × Unit) (fun J28 =>
       rv Try.prog (bin .geq 3 true (.int .i64 f) (.int .i64 0)) w25 fun v29 w30 =>
       ifB v29
       (rv Try.prog (bin .lss 3 true (.int .i64 f) (.int .i64 5)) w30 fun v31 w32 =>
       ifB v31
       (rv Try.prog (bin .geq 3 true (.int .i64 g) (.int .i64 0)) w32 fun v33 w34 =>
       ifB v33
       (rv Try.prog (bin .lss 3 true (.int .i64 g) (.int .i64 5)) w34 fun v35 w36 =>
       ifB v35
       (rv Try.prog (bin .neq 3 false (.int .i64 f) (.int .i64 g)) w36 fun v37 w38 =>
       J28 (v37, ()) w38)
       (J28 ((.bool false), ()) w36))
       (J28 ((.bool false), ()) w34))
       (J28 ((.bool false), ()) w32))
       (J28 ((.bool false), ()) w30))
       (J10_0 (.int .i64 1) v24 (.pointer (some ⟨p, 0, none⟩)) K) := by
    intro w4 v e t4 r4 he
    refine rv_of (v := v) (w' := w4) (by simp [go_sem]) ?_
    refine rv_of (v := .int .i64 e) (w' := w4) (by simp [go_sem]) ?_
    refine joinK (fun s W => W = w4 ∧ s = (.bool (rightF f g), ())) (fun JJ hJJ => ?_) ?_
    · have out : ∀ b : Bool, b = rightF f g → JJ (.bool b, ()) w4 := fun b hb => hJJ _ _ ⟨rfl, by rw [hb]⟩
      refine rv_of (v := .bool (decide (0 ≤ f))) (w' := w4) (by simp [go_sem]) ?_
      by_cases c1 : 0 ≤ f
      · rw [decide_eq_true c1, ifB_bool, if_pos rfl]
        refine rv_of (v := .bool (decide (f < 5))) (w' := w4) (by simp [go_sem]) ?_
        by_cases c2 : f < 5
        · rw [decide_eq_true c2, ifB_bool, if_pos rfl]
          refine rv_of (v := .bool (decide (0 ≤ g))) (w' := w4) (by simp [go_sem]) ?_
          by_cases c3 : 0 ≤ g
          · rw [decide_eq_true c3, ifB_bool, if_pos rfl]
            refine rv_of (v := .bool (decide (g < 5))) (w' := w4) (by simp [go_sem]) ?_
            by_cases c4 : g < 5
            · rw [decide_eq_true c4, ifB_bool, if_pos rfl]
              refine rv_of (v := .bool (decide (f ≠ g))) (w' := w4) ?_ (out _ (by simp [rightF, c1, c2, c3, c4]))
              simp [go_sem]
              rw [Bool.eq_iff_iff]
              simp
            · rw [decide_eq_false c4, ifB_bool, if_neg (by simp)]
              exact out _ (by simp [rightF, c4])
          · rw [decide_eq_false c3, ifB_bool, if_neg (by simp)]
            exact out _ (by simp [rightF, c3])
        · rw [decide_eq_false c2, ifB_bool, if_neg (by simp)]
          exact out _ (by simp [rightF, c2])
      · rw [decide_eq_false c1, ifB_bool, if_neg (by simp)]
        exact out _ (by simp [rightF, c1])
    rintro _ W ⟨hWe, rfl⟩
    subst hWe
    unfold J10_0
    intro _
    refine rv_of (zero_alloc W) ?_
    have mZ : Mod (fun _ => False) W (W.alloc (.cells zeroSh.toArray 90)) := (Mod.refl _ W).alloc _
    have hZ : hp (W.alloc (.cells zeroSh.toArray 90)) W.heap.size = some (.cells zeroSh.toArray 90 (0, 0)) := by simp only [hp_alloc, if_pos]
    generalize (W.alloc (.cells zeroSh.toArray 90)) = w5 at mZ hZ
    obtain ⟨z, hz⟩ : ∃ z, W.heap.size = z := ⟨_, rfl⟩
    rw [hz] at hZ ⊢
    have noN : ∀ W', NoSh W' (.pointer none) := fun _ => .inl rfl
    have noZ : NoSh w5 (dptr z) := .inr ⟨z, rfl, hZ⟩
    refine ca_last_no (noN _) fun w6 m6 => ?_
    refine rv_of (v := .agg (shotC shot0 (.slice none 0 0)).toArray) (w' := w6) (by simp [go_sem]) ?_
    refine rv_of (v := .int .i64 1) (w' := w6) (by simp [go_sem]) ?_
    refine rv_shvar fun w7 q7 m7 hq7 r7 z7 => ?_
    refine ru_shot r7 ⟨_, _, _, rfl⟩ fun w8 m8 r8 => ?_
    have t8 : Mod (fun _ => False) w5 w8 := (m6.trans m7).on m8 fun y hy => .inr (by have := m6.size; omega)
    refine ca_last_no (noZ.mod t8) fun w9 m9 => ?_
    refine rv_of (v := .agg (shotC shot0 (.slice none 0 0)).toArray) (w' := w9) (by simp [go_sem]) ?_
    refine rv_of (v := .int .i64 1) (w' := w9) (by simp [go_sem]) ?_
    refine rv_shvar fun wa qa ma hqa ra za => ?_
    refine ru_shot ra ⟨_, _, _, rfl⟩ fun wb mb rb => ?_
    have tb : Mod (fun _ => False) w5 wb := ((t8.trans m9).trans ma).on mb fun y hy => .inr (by have := (t8.trans m9).size; omega)
    have rp := tb.keep (mZ.keep r4 id) id
    have nob := noZ.mod tb
    have twb := (t4.trans mZ).trans tb
    refine rv_of (eqE 1 1 _) ?_
    rw [decide_eq_true rfl, ifB_bool, if_pos rfl]
    refine rv_of (eqE e 0 _) ?_
    have e0 : decide (e = 0) = rightF f g := by
      rw [he]
      cases rightF f g <;> simp
    rw [e0]
    refine rv_of (v := .bool true) (w' := wb) (by simp [go_sem]) ?_
    rw [ifB_bool, if_pos rfl]
    -- the rest is the same in both ways
    have tail : rv Try.prog (bin .eql 28 true (.int .i64 1) (.int .i64 1)) wb fun v65 w66 =>
       ifB v65
       (rv Try.prog (bin .eql 28 true (.int .i64 1) (.int .i64 1)) w66 fun v67 w68 =>
       ifB v67
       (rv Try.prog (Instr.loadAt 83 (.pointer (some ⟨p, 0, none⟩))) w68 fun v69 w70 =>
       Ca Try.prog 44 #[(.pointer none), v69] w70 fun v71 w72 =>
       rv Try.prog (bin .eql 28 true v71 (.int .i64 1)) w72 fun v73 w74 =>
       ifB v73
       (rv Try.prog (Instr.loadAt 83 (.pointer (some ⟨p, 0, none⟩))) w74 fun v75 w76 =>
       Ca Try.prog 44 #[dptr z, v75] w76 fun v77 w78 =>
       rv Try.prog (bin .eql 28 true v77 (.int .i64 1)) w78 fun v79 w80 =>
       ifB v79
       (Ca Try.prog 41 #[] w80 fun v81 w82 =>
       K v81 w82)
       (K (.bool false) w80))
       (K (.bool false) w74))
       (K (.bool false) w68))
       (K (.bool false) w66) := by
      refine rv_of (eqE 1 1 _) ?_
      rw [decide_eq_true rfl, ifB_bool, if_pos rfl]
      refine rv_of (eqE 1 1 _) ?_
      rw [decide_eq_true rfl, ifB_bool, if_pos rfl]
      refine rv_of (sload rp).2.2.2 ?_
      refine ca_ssave_no (noN _) fun wc mc => ?_
      refine rv_of (eqE 1 1 _) ?_
      rw [decide_eq_true rfl, ifB_bool, if_pos rfl]
      refine rv_of (sload (mc.keep rp id)).2.2.2 ?_
      refine ca_ssave_no (nob.mod mc) fun wd md => ?_
      refine rv_of (eqE 1 1 _) ?_
      rw [decide_eq_true rfl, ifB_bool, if_pos rfl]
      exact ca_known21 fun we me => hK _ (((twb.trans mc).trans md).trans me)
    cases hr : rightF f g
    · rw [ifB_bool, if_neg (by simp)]
      rw [he, hr, if_neg (by simp)]
      refine rv_of (eqE 2 2 _) ?_
      rw [decide_eq_true rfl, ifB_bool, if_pos rfl]
      exact tail
    · rw [ifB_bool, if_pos rfl]
      exact tail
  have key := ca_sopen (K := fun v20 w21 => rv Try.prog (Instr.extract v20 0) w21 fun v22 w23 => rv Try.prog (Instr.extract v20 1) w23 fun v24 w25 => JoinW (S := Value × Unit) (fun J28 =>
       rv Try.prog (bin .geq 3 true (.int .i64 f) (.int .i64 0)) w25 fun v29 w30 =>
       ifB v29
       (rv Try.prog (bin .lss 3 true (.int .i64 f) (.int .i64 5)) w30 fun v31 w32 =>
       ifB v31
       (rv Try.prog (bin .geq 3 true (.int .i64 g) (.int .i64 0)) w32 fun v33 w34 =>
       ifB v33
       (rv Try.prog (bin .lss 3 true (.int .i64 g) (.int .i64 5)) w34 fun v35 w36 =>
       ifB v35
       (rv Try.prog (bin .neq 3 false (.int .i64 f) (.int .i64 g)) w36 fun v37 w38 =>
       J28 (v37, ()) w38)
       (J28 ((.bool false), ()) w36))
       (J28 ((.bool false), ()) w34))
       (J28 ((.bool false), ()) w32))
       (J28 ((.bool false), ()) w30))
       (J10_0 (.int .i64 1) v24 (.pointer (some ⟨p, 0, none⟩)) K)) (fs := fs) d3 (by simp [DM.new]) (fun w' F' hne d' s' => ?_) fun w' F' v G R h0 d' s' q' n' => ?_
  · rw [hf0, hf1] at key
    exact key
  · have tw : Mod (fun _ => False) w w' := t3.on s'.mod fun y hy => .inr (by have := t2.size; omega)
    have hpw : hp w' p = _ := s'.mod.keep ((m2.trans m3).keep r1 id) (by show ¬ _ = _; have := m2.size; omega)
    exact rest w' _ _ tw hpw hsn
  · have tw : Mod (fun _ => False) w w' := t3.on s'.mod fun y hy => .inr (by have := t2.size; omega)
    have hpw : hp w' p = _ := s'.mod.keep ((m2.trans m3).keep r1 id) (by show ¬ _ = _; have := m2.size; omega)
    refine rest w' _ _ tw hpw ?_
    rw [← hsn, h0]
end Go.Proofs
