/-
  The contract of the snapshots' blank.
  The contract of shots.Open.
  The contract of shots.Open, its second loop.
  The contract of shots.Open.
  Conditions: where they ask for any, each theorem names them.
-/
import Derived.Test.YteldcaeicgobfaaShotA
import Derived.Test.YteldcaeicgobfaaVcClear
set_option linter.unusedVariables false
set_option linter.unusedSimpArgs false
namespace Go.Proofs
open Go Go.Vc

def cleanS (b : List UInt8) (i : Nat) : List (Int × Sec) := ((List.range 3).drop i).filterMap fun i : Nat => if secI b i = zsec then none else some ((i : Int), zsec)
theorem cleanS_yes (b : List UInt8) (i : Nat) (hi : i < 3) (h : secI b i = zsec) : cleanS b i = cleanS b (i + 1) := by
  unfold cleanS
  rw [List.drop_eq_getElem_cons (by simpa using hi)]
  simp [h]
theorem cleanS_no (b : List UInt8) (i : Nat) (hi : i < 3) (h : secI b i ≠ zsec) : cleanS b i = ((i : Int), zsec) :: cleanS b (i + 1) := by
  unfold cleanS
  rw [List.drop_eq_getElem_cons (by simpa using hi)]
  simp [h]

/-- The cells of the snapshots. -/
def shsC (d : Nat) (fs : Nat → Int) (at_ : Nat) (x : ShotM) (sl : Value) (ms : Nat → Value) : List Value := [dptr d, .int .i64 (fs 0), .int .i64 (fs 1), .int .i64 (at_ : Int), .int .u64 (x.idx : Int), .int .u64 (x.term : Int), sl, ms 0, ms 1]
def ShAt (w : World) (v d : Nat) (fs : Nat → Int) (at_ : Nat) (x : ShotM) (sl : Value) (ms : Nat → Value) : Prop := hp w v = some (.cells (shsC d fs at_ x sl ms).toArray 90 (0, 0))
theorem two {i : Nat} (h : i < 2) : i = 0 ∨ i = 1 := by omega
theorem sh_marks {W : World} {v d : Nat} {fs : Nat → Int} {at_ : Nat} {x : ShotM} {sl : Value} {ms : Nat → Value} {k : Nat} {K : Kont} {a : Option Addr} {n c : Nat} (h : ShAt W v d fs at_ x sl ms) (hk : k < 2) (hm : ms k = .slice a n c) (hK : K (.slice a n c) W) :
    rv Try.prog (Instr.fieldAt 90 (dptr v) 4) W fun v6 w7 => rv Try.prog (Instr.indexAt 88 v6 (.int .i64 (k : Int))) w7 fun v8 w9 => rv Try.prog (Instr.loadAt 23 v8) w9 fun v10 w11 => K v10 w11 := by
  unfold ShAt shsC at h
  rcases two hk with rfl | rfl
  · rw [hm] at h
    simp [go_sem, dptr, h]
    exact hK
  · rw [hm] at h
    simp [go_sem, dptr, h]
    exact hK
theorem sh_d {W : World} {v d : Nat} {fs : Nat → Int} {at_ : Nat} {x : ShotM} {sl : Value} {ms : Nat → Value} (h : ShAt W v d fs at_ x sl ms) :
    (∀ W, (Instr.fieldAt 90 (dptr v) 0).run Try.prog W = .ok (.pointer (some ⟨v, 0, none⟩)) W) ∧ (Instr.loadAt 25 (.pointer (some ⟨v, 0, none⟩))).run Try.prog W = .ok (dptr d) W := by
  unfold ShAt shsC at h
  constructor
  · intro W
    simp [go_sem, dptr]
  · simp [go_sem, dptr, h]
theorem sh_f {W : World} {v d : Nat} {fs : Nat → Int} {at_ : Nat} {x : ShotM} {sl : Value} {ms : Nat → Value} {k : Nat} (h : ShAt W v d fs at_ x sl ms) (hk : k < 2) :
    (∀ W, (Instr.fieldAt 90 (dptr v) 1).run Try.prog W = .ok (.pointer (some ⟨v, 1, none⟩)) W) ∧ (∀ W, (Instr.indexAt 87 (.pointer (some ⟨v, 1, none⟩)) (.int .i64 (k : Int))).run Try.prog W = .ok (.pointer (some ⟨v, 1 + k, none⟩)) W) ∧ (Instr.loadAt 3 (.pointer (some ⟨v, 1 + k, none⟩))).run Try.prog W = .ok (.int .i64 (fs k)) W := by
  unfold ShAt shsC at h
  rcases two hk with rfl | rfl
  · refine ⟨fun W => ?_, fun W => ?_, ?_⟩ <;> simp [go_sem, dptr, h]
  · refine ⟨fun W => ?_, fun W => ?_, ?_⟩ <;> simp [go_sem, dptr, h]

theorem own_cells {W : World} {v : Value} {n : Nat} {l : List UInt8} (h : Own W 5 1 v n (bv l)) (h0 : 0 < n) : ∃ b cap rest, v = .slice (some ⟨b, 0, none⟩) n cap ∧ n ≤ cap ∧ hp W b = some (.cells (bv l ++ rest).toArray 5 (0, 0)) ∧ rest.length = cap - n ∧ rest.all (·.oneCell') = true := by
  obtain ⟨_, ⟨_, h1⟩ | ⟨b, cap, rest, rfl, hc, hh, hr, h1⟩⟩ := h
  · omega
  · exact ⟨b, cap, rest, rfl, hc, hh, by simpa using hr, h1⟩

theorem zl_sec {b : List UInt8} (hb : b.length = 384) {i : Nat} (hi : i < 3) : ((zl b 0 (128 * i)).drop (128 * i)).take 128 = secI b i := by
  unfold zl secI
  rw [List.take_zero, List.nil_append, Nat.zero_add, List.drop_append_of_le_length (by simp), List.drop_replicate, Nat.sub_self, List.replicate_zero, List.nil_append]
theorem zl_skip {b : List UInt8} (hb : b.length = 384) {i : Nat} (hi : i < 3) (h : secI b i = zsec) : zl b 0 (128 * i) = zl b 0 (128 * (i + 1)) := by
  unfold zl
  rw [List.take_zero, List.nil_append, List.nil_append, Nat.zero_add, Nat.zero_add, show 128 * (i + 1) = 128 * i + 128 by omega, ← List.replicate_append_replicate, List.append_assoc]
  congr 1
  have : b.drop (128 * i) = (b.drop (128 * i)).take 128 ++ (b.drop (128 * i)).drop 128 := (List.take_append_drop ..).symm
  rw [this]
  unfold secI at h
  rw [h, List.drop_drop]
  rfl
theorem zl_lay {b : List UInt8} (hb : b.length = 384) {i : Nat} (hi : i < 3) (rest : List Value) : lay (bv (zl b 0 (128 * i)) ++ rest) (128 * i) (List.replicate 128 (.int .u8 0)) = bv (zl b 0 (128 * (i + 1))) ++ rest := by
  have hz : (List.replicate 128 (Value.int .u8 0)) = bv (List.replicate 128 0) := by rw [bv_replicate]; rfl
  have hl := zl_length (l := b) (a := 0) (k := 128 * i) (by omega)
  unfold lay
  rw [hz, bv_length, List.length_replicate, List.take_append_of_le_length (by rw [bv_length]; omega), List.drop_append_of_le_length (by rw [bv_length]; omega), bv_take, bv_drop, ← List.append_assoc, ← bv_append, ← bv_append]
  congr 2
  unfold zl
  rw [List.take_zero, List.nil_append, List.nil_append, Nat.zero_add, Nat.zero_add, List.take_append_of_le_length (by simp), List.take_of_length_le (by simp), List.drop_append, List.drop_eq_nil_of_le (by simp), List.nil_append, List.length_replicate, List.drop_drop, show 128 * (i + 1) = 128 * i + 128 by omega, ← List.replicate_append_replicate]
  congr 2
  congr 1
  omega
theorem zl_all {b : List UInt8} (hb : b.length = 384) : zl b 0 (128 * 3) = z384 := by
  unfold zl
  rw [List.take_zero, List.nil_append, Nat.zero_add, List.drop_of_length_le (by omega), List.append_nil]
  rfl
theorem zu8 : ∃ i, Try.prog.info? 5 = some i ∧ i.zero = some (.int .u8 0) := by
  have h : (match Try.prog.info? 5 with | some i => (match i.zero with | some (.int .u8 0) => true | _ => false) | none => false) = true := by kernel_rfl
  cases hi : Try.prog.info? 5 with
  | none => rw [hi] at h; cases h
  | some i =>
    rw [hi] at h
    refine ⟨i, rfl, ?_⟩
    simp only at h
    split at h
    · assumption
    · cases h

set_option maxRecDepth 20000 in
theorem ca_blank {w : World} {K : Kont} {v d : Nat} {fs : Nat → Int} {at_ k : Nat} {x : ShotM} {sl : Value} {ms : Nat → Value} {F : Nat → Prop} {D : DM} {b : List UInt8} (hv : ShAt w v d fs at_ x sl ms) (hvF : ¬ F v) (hk : k < 2) (h : DiskR w d F D) (hD : D.waits.length < 274877906944) (hm : Own w 5 1 (ms k) 384 (bv b)) (hmF : ∀ y, inSl (ms k) y → ¬ F y ∧ y ≠ v)
    (hK : ∀ w' F' b', DiskR w' d F' (D.writes (fs k) (cleanS b 0)).2 → Stp (fun y => F y ∨ inSl (ms k) y) w w' (fun y => F' y ∨ inSl (ms k) y) → Own w' 5 1 (ms k) 384 (bv b') → ((D.writes (fs k) (cleanS b 0)).1 = 0 → b' = z384) → (∀ y, F' y → F y ∨ w.heap.size ≤ y) → K (.int .i64 (D.writes (fs k) (cleanS b 0)).1) w') :
    Ca Try.prog 73 #[dptr v, .int .i64 (k : Int)] w K := by
  have hb384 : b.length = 384 := by simpa using hm.1
  obtain ⟨mb, mc, -, hmk, hmc, -, -, -⟩ := own_cells hm (by omega)
  obtain ⟨hmb1, hmb2⟩ := hmF mb (by rw [hmk]; rfl)
  apply ca73
  unfold F73
  unfold L73_0
  refine loopK (fun s W => ∃ (i : Nat) (y : Value) (Di : DM) (F' : Nat → Prop), i ≤ 3 ∧ s = (y, .int .i64 (i : Int), ()) ∧ DiskR W d F' Di ∧ Stp (fun y => F y ∨ inSl (ms k) y) w W (fun y => F' y ∨ inSl (ms k) y) ∧ (∀ y, F' y → F y ∨ w.heap.size ≤ y) ∧ D.writes (fs k) (cleanS b 0) = Di.writes (fs k) (cleanS b i) ∧ Di.waits.length ≤ D.waits.length + 128 * i ∧
      ShAt W v d fs at_ x sl ms ∧ Own W 5 1 (ms k) 384 (bv (zl b 0 (128 * i))))
    (fun s _ => match s.2.1 with | .int _ i => 3 - i.toNat | _ => 0) ⟨0, _, D, F, by omega, rfl, h, Stp.refl _ _, fun _ h => .inl h, rfl, by omega, hv, by rw [Nat.mul_zero, zl_zero]; exact hm⟩ ?_
  rintro ⟨_, _⟩ W ⟨i, y, Di, F', hi, ⟨⟩, dW, sW, nF, eW, lW, hV, oW⟩ KN hKN _
  have lvw : v < w.heap.size := lt_of_heap hv
  have lmw : mb < w.heap.size := hm.lt (by rw [hmk]; rfl)
  have vF' : ¬ F' v := fun hh => (nF v hh).elim hvF fun h' => by omega
  have mF' : ¬ F' mb := fun hh => (nF mb hh).elim hmb1 fun h' => by omega
  have vS : ¬ inSl (ms k) v := fun hh => by rw [hmk] at hh; cases hh; exact hmb2 rfl
  by_cases hlt : i < 3
  · have hlt' : (i : Int) < 3 := by omega
    have e1 : IntKind.i64.wrap ((i : Int) * 128) = ((128 * i : Nat) : Int) := by rw [IntKind.wrap_i64]; omega
    have e2 : IntKind.i64.wrap ((i : Int) + 1) = ((i + 1 : Nat) : Int) := by rw [IntKind.wrap_i64]; omega
    have e3 : IntKind.i64.wrap (((i + 1 : Nat) : Int) * 128) = ((128 * i + 128 : Nat) : Int) := by rw [IntKind.wrap_i64]; omega
    refine rv_of (v := .bool true) (w' := W) (by simp [go_sem, hlt']) ?_
    rw [ifB_bool, if_pos rfl]
    show rv Try.prog _ W _
    refine sh_marks hV hk hmk ?_
    refine rv_of (v := .int .i64 ((128 * i : Nat) : Int)) (w' := W) (by simp [-Int.natCast_mul, go_sem, e1]) ?_
    refine rv_of (v := .int .i64 ((i + 1 : Nat) : Int)) (w' := W) (by simp [-Int.natCast_add, go_sem, e2]) ?_
    refine rv_of (v := .int .i64 ((128 * i + 128 : Nat) : Int)) (w' := W) (by simp [-Int.natCast_add, -Int.natCast_mul, go_sem, e3]) ?_
    refine rv_of (slice_lohi (lo := 128 * i) (hi := 128 * i + 128) (by omega) (by omega) (by omega) W) ?_
    rw [show 128 * i + 128 - 128 * i = 128 by omega, Nat.zero_add]
    have oW' := oW
    rw [hmk] at oW'
    have hpart := rd_part oW'.rd (128 * i) 128 (mc - 128 * i) (by omega) (by omega) (by omega)
    rw [zl_sec hb384 hlt, Nat.zero_add] at hpart
    have hsl := secI_length hb384 hlt
    rw [← hsl] at hpart
    refine ca_noughts (by rw [hsl] at hpart ⊢; exact hpart) (by omega) fun W1 m1 => ?_
    rw [hsl, show List.replicate 128 (0 : UInt8) = zsec from rfl]
    have d1 := dW.mod m1 fun _ _ h => h
    have V1 := m1.keep hV id
    have o1 := oW.mod m1 fun _ _ h => h
    have s1 : Stp (fun y => F y ∨ inSl (ms k) y) w W1 (fun y => F' y ∨ inSl (ms k) y) := sW.trans ⟨m1.mono fun _ _ h => h.elim, fun b hb => .inl hb⟩
    by_cases hz : secI b i = zsec
    · rw [decide_eq_true hz, ifB_bool, if_pos rfl]
      rw [cleanS_yes b i hlt hz] at eW
      rw [zl_skip hb384 hlt hz] at o1
      refine rv_of (v := .int .i64 ((i + 1 : Nat) : Int)) (w' := W1) (by simp [-Int.natCast_add, go_sem, e2]) ?_
      exact hKN _ _ ⟨i + 1, _, Di, F', hlt, rfl, d1, s1, nF, eW, by omega, V1, o1⟩ (by simp; omega)
    · rw [decide_eq_false hz, ifB_bool, if_neg (by simp)]
      rw [cleanS_no b i hlt hz] at eW
      simp only [DM.writes] at eW
      obtain ⟨mb', mc', rest, hmk', -, hcell, hrl, hr1⟩ := own_cells o1 (by omega)
      rw [hmk] at hmk'
      injection hmk' with q1 q2 q3
      injection q1 with q1
      injection q1 with q1
      subst q1
      subst q3
      have hzl := zl_length (l := b) (a := 0) (k := 128 * i) (by omega)
      refine rx_clear (z := .int .u8 0) Try.underlying23 zu8 rfl rfl hcell (by omega) (by simp [hzl, hb384, hrl]; omega) ?_
      rw [show (bv (zl b 0 (128 * i)) ++ rest).toArray.toList = bv (zl b 0 (128 * i)) ++ rest from rfl, zl_lay hb384 hlt]
      have m2 : Mod (fun y => y = mb) W1 (W1.setRow mb (bv (zl b 0 (128 * (i + 1))) ++ rest).toArray) := (Mod.refl (fun y => y = mb) W1).setRow (b := mb) (.inl rfl) _
      have hc2 : hp (W1.setRow mb (bv (zl b 0 (128 * (i + 1))) ++ rest).toArray) mb = some (.cells (bv (zl b 0 (128 * (i + 1))) ++ rest).toArray 5 (0, 0)) := by rw [hp_setRow, if_pos rfl, hcell]
      generalize (W1.setRow mb (bv (zl b 0 (128 * (i + 1))) ++ rest).toArray) = W2 at m2 hc2
      have o2 : Own W2 5 1 (ms k) 384 (bv (zl b 0 (128 * (i + 1)))) := by
        rw [hmk]
        exact ⟨by rw [bv_length, zl_length (by omega), hb384], .inr ⟨mb, mc, rest, rfl, hmc, hc2, by simpa using hrl, hr1⟩⟩
      have inM : ∀ y, inSl (ms k) y ↔ y = mb := fun y => by rw [hmk]; exact ⟨fun h => by cases h; rfl, fun h => by subst h; rfl⟩
      have d2 := d1.mod m2 fun y hy e => mF' (e ▸ hy)
      have V2 := m2.keep V1 (by show ¬ v = mb; exact fun e => hmb2 e.symm)
      have s2 : Stp (fun y => F y ∨ inSl (ms k) y) w W2 (fun y => F' y ∨ inSl (ms k) y) := s1.trans ⟨m2.mono fun y _ hy => .inr ((inM y).2 hy), fun _ hb => .inl hb⟩
      have hdr : ∀ W, Mod (fun _ => False) W W.drew := fun W => (Mod.refl _ W).drew
      have d3 := d2.mod (hdr W2) fun _ _ h => h
      have V3 := (hdr W2).keep V2 id
      have o3 := o2.mod (hdr W2) fun _ _ h => h
      have s3 : Stp (fun y => F y ∨ inSl (ms k) y) w W2.drew (fun y => F' y ∨ inSl (ms k) y) := s2.trans ⟨(hdr W2).mono fun _ _ h => h.elim, fun _ hb => .inl hb⟩
      generalize W2.drew = W3 at d3 V3 o3 s3
      obtain ⟨g1, g2⟩ := sh_d V3
      obtain ⟨g3, g4, g5⟩ := sh_f V3 hk
      show nilK (.pointer (some ⟨v, 0, none⟩)) _
      rw [nilK_p]
      refine rdP_of g1 ?_
      refine rdW_of g2 ?_
      show nilK (.pointer (some ⟨v, 0, none⟩)) _
      rw [nilK_p]
      refine rdP_of g3 ?_
      refine rdP_of g4 ?_
      refine rdW_of g5 ?_
      have o3' := o3
      rw [hmk] at o3'
      have hpart3 := rd_part o3'.rd (128 * i) 128 (mc - 128 * i) (by omega) (by omega) (by omega)
      have ez : ((zl b 0 (128 * (i + 1))).drop (128 * i)).take 128 = zsec := by
        unfold zl
        rw [List.take_zero, List.nil_append, Nat.zero_add, List.drop_append_of_le_length (by simp; omega), List.drop_replicate, List.take_append_of_le_length (by simp; omega), List.take_replicate, show min 128 (128 * (i + 1) - 128 * i) = 128 by omega]
        rfl
      rw [ez, Nat.zero_add] at hpart3
      refine ca_write (n := 128) (bs := zsec) d3 hpart3 (fun y hy => ?_) (by rw [zsec_length]; decide) (by omega) fun W4 F4 d4 s4 => ?_
      · rw [inRd_at hy]
        exact ⟨mF', o3.lt (by rw [hmk]; rfl)⟩
      have nF4 : ∀ y, F4 y → F y ∨ w.heap.size ≤ y := fun y hy => by
        rcases s4.sub y hy with h' | h'
        · exact nF y h'
        · have := s3.mod.size; exact .inr (by omega)
      have mF4 : ¬ F4 mb := fun hh => (nF4 mb hh).elim hmb1 fun h' => by omega
      have s4' : Stp (fun y => F y ∨ inSl (ms k) y) w W4 (fun y => F4 y ∨ inSl (ms k) y) := s3.trans ⟨s4.mod.mono fun _ _ h => .inl h, fun y hy => by
        rcases hy with hy | hy
        · exact (s4.sub y hy).imp .inl id
        · exact .inl (.inr hy)⟩
      have V4 := s4.mod.keep V3 vF'
      have o4 := o3.mod s4.mod fun y hy hf => mF' (by rw [← (inM y).1 hy]; exact hf)
      by_cases he : (Di.write (fs k) (i : Int) zsec).1 = 0
      · rw [if_pos he] at eW
        have hl := (write_len Di (fs k) (i : Int) zsec).1
        rw [he]
        refine rv_of (neq0 _) ?_
        rw [ifB_bool, if_neg (by simp)]
        refine rv_of (v := .int .i64 ((i + 1 : Nat) : Int)) (w' := W4) (by simp [-Int.natCast_add, go_sem, e2]) ?_
        exact hKN _ _ ⟨i + 1, _, _, F4, hlt, rfl, d4, s4', nF4, eW, by rw [zsec_length] at hl; omega, V4, o4⟩ (by simp; omega)
      · rw [if_neg he] at eW
        rw [eW] at hK
        refine rv_of (v := .bool true) (w' := W4) (by simp [go_sem, he]) ?_
        rw [ifB_bool, if_pos rfl]
        exact hK _ F4 _ d4 s4' o4 (fun h => absurd h he) nF4
  · have : i = 3 := by omega
    subst this
    have eW' : D.writes (fs k) (cleanS b 0) = (0, Di) := eW
    rw [eW'] at hK
    refine rv_of (v := .bool false) (w' := W) (by simp [go_sem]) ?_
    rw [ifB_bool, if_neg (by simp)]
    rw [zl_all hb384] at oW
    exact hK _ F' _ dW sW oW (fun _ => rfl) nF
end Go.Proofs

namespace Go.Proofs
open Go Go.Vc

structure SOpen where
  D : DM
  x : ShotM
  at_ : Nat
  cl : Bool
  ms : Nat → List UInt8
def sround (f : Nat → Int) (xs : Nat → ShotM) (bs : Nat → List UInt8) (i : Nat) (s : SOpen) : Int × SOpen :=
  if s.x.idx < (xs i).idx then (0, { s with x := xs i, at_ := i })
  else if (xs i).idx = 0 ∧ bs i ≠ z384 then ((s.D.writes (f i) (cleanS (bs i) 0)).1, { s with D := (s.D.writes (f i) (cleanS (bs i) 0)).2, cl := true, ms := fun j => if j = i then z384 else s.ms j })
  else (0, s)
def sgo (f : Nat → Int) (xs : Nat → ShotM) (bs : Nat → List UInt8) : List Nat → SOpen → Int × SOpen
  | [], s => (0, s)
  | i :: r, s => if (sround f xs bs i s).1 = 0 then sgo f xs bs r (sround f xs bs i s).2 else sround f xs bs i s
def slast (r : Int × SOpen) : Int × SOpen :=
  if r.1 ≠ 0 then r else if r.2.cl = true then (r.2.D.sync.1, { r.2 with D := r.2.D.sync.2 }) else r
def marksF (D : DM) (f : Int) : List UInt8 := marks3 fun i => D.secAt f (i : Int)
def sopen0 (D : DM) (fs : Nat → Int) : SOpen := ⟨D, shot0, 1, false, fun k => marksF D (fs k)⟩
def DM.sopen (D : DM) (fs : Nat → Int) : Int × SOpen :=
  if D.smay (fs 0) ≠ 0 then (D.smay (fs 0), sopen0 D fs) else if D.smay (fs 1) ≠ 0 then (D.smay (fs 1), sopen0 D fs) else if fs 0 = fs 1 then (2, sopen0 D fs)
  else slast (sgo fs (fun k => fileS D (fs k)) (fun k => marksF D (fs k)) [0, 1] (sopen0 D fs))

theorem counted_ok (C : Nat → Sec) (hC : ∀ i, (C i).length = 128) (b : List UInt8) : (counted C b).ok ∧ ((counted C b).idx = 0 → counted C b = shot0) ∧ (counted C b).data.length ≤ 524288 := by
  obtain ⟨h1, h2, h3⟩ := hNum_lt b
  have z : shot0.ok ∧ (shot0.idx = 0 → shot0 = shot0) ∧ shot0.data.length ≤ 524288 := ⟨⟨by decide, by decide, by decide⟩, fun _ => rfl, by decide⟩
  unfold counted
  split
  · exact z
  · split
    · exact z
    · split
      · exact z
      · split
        · exact z
        · rename_i hm _
          have hl := datB_length hC (hLen b)
          simp only [ShotM.may, Bool.not_eq_false, decide_eq_true_eq] at hm
          refine ⟨⟨h1, h2, ?_⟩, fun h => absurd h hm.1, hm.2⟩
          have := hm.2
          omega

/-- Both that were found. -/
def fnd (xs : Nat → ShotM) (sls : Nat → Value) : List Value := shotC (xs 0) (sls 0) ++ shotC (xs 1) (sls 1)
def set1 {α : Type} (f : Nat → α) (i : Nat) (a : α) : Nat → α := fun k => if k = i then a else f k
theorem ru_found {W : World} {K : World → Prop} {q i : Nat} {xs : Nat → ShotM} {sls : Nat → Value} {x : ShotM} {sl : Value} (h : hp W q = some (.cells (fnd xs sls).toArray 133 (0, 0))) (hi : i < 2) (hs : ∃ a n c, sl = .slice a n c)
    (hK : ∀ W', Mod (fun b => b = q) W W' → hp W' q = some (.cells (fnd (set1 xs i x) (set1 sls i sl)).toArray 133 (0, 0)) → K W') :
    ru Try.prog (Instr.storeAt 83 (.pointer (some ⟨q, i * 3, none⟩)) (.agg (shotC x sl).toArray)) W K := by
  obtain ⟨a, n, c, rfl⟩ := hs
  unfold fnd shotC at h
  rcases two hi with rfl | rfl
  · have hK' := hK ((((W.setCell ⟨q, 0, none⟩ (.int .u64 (x.idx : Int))).setCell ⟨q, 1, none⟩ (.int .u64 (x.term : Int))).setCell ⟨q, 2, none⟩ (.slice a n c))) ((((Mod.refl (fun b => b = q) W).setCell (.inl rfl) _ _).setCell (.inl rfl) _ _).setCell (.inl rfl) _ _) (by simp [go_sem, h, fnd, shotC, set1])
    simp only [shotC]
    simp [go_sem, h]
    exact hK'
  · have hK' := hK ((((W.setCell ⟨q, 3, none⟩ (.int .u64 (x.idx : Int))).setCell ⟨q, 4, none⟩ (.int .u64 (x.term : Int))).setCell ⟨q, 5, none⟩ (.slice a n c))) ((((Mod.refl (fun b => b = q) W).setCell (.inl rfl) _ _).setCell (.inl rfl) _ _).setCell (.inl rfl) _ _) (by simp [go_sem, h, fnd, shotC, set1])
    simp only [shotC]
    simp [go_sem, h]
    exact hK'
theorem ru_mark2 {W : World} {K : World → Prop} {v d i : Nat} {fs : Nat → Int} {at_ : Nat} {x : ShotM} {sl : Value} {ms : Nat → Value} {mv : Value} (h : ShAt W v d fs at_ x sl ms) (hi : i < 2) (hs : ∃ a n c, mv = .slice a n c)
    (hK : ∀ W', Mod (fun b => b = v) W W' → ShAt W' v d fs at_ x sl (set1 ms i mv) → K W') :
    ru Try.prog (Instr.storeAt 23 (.pointer (some ⟨v, 7 + i, none⟩)) mv) W K := by
  obtain ⟨a, n, c, rfl⟩ := hs
  unfold ShAt shsC at *
  rcases two hi with rfl | rfl
  · have hK' := hK (W.setCell ⟨v, 7, none⟩ (.slice a n c)) ((Mod.refl (fun b => b = v) W).setCell (.inl rfl) _ _) (by simp [go_sem, h, set1, dptr])
    simp [go_sem, h]
    exact hK'
  · have hK' := hK (W.setCell ⟨v, 8, none⟩ (.slice a n c)) ((Mod.refl (fun b => b = v) W).setCell (.inl rfl) _ _) (by simp [go_sem, h, set1, dptr])
    simp [go_sem, h]
    exact hK'
theorem found_at {xs : Nat → ShotM} {sls : Nat → Value} {i : Nat} (hi : i < 2) (W : World) : (Instr.index 133 (.agg (fnd xs sls).toArray) (.int .i64 (i : Int))).run Try.prog W = .ok (.agg (shotC (xs i) (sls i)).toArray) W := by
  have := run_index_agg (P := Try.prog) (w := W) (n := 2) (k := .i64) (cs := (fnd xs sls).toArray) Try.underlying133 (by kernel_rfl) (by kernel_rfl) hi
  rw [this]
  rcases two hi with rfl | rfl
  · rfl
  · rfl

theorem files_at {fs : Nat → Int} {i : Nat} (hi : i < 2) (W : World) : (Instr.index 87 (.agg #[.int .i64 (fs 0), .int .i64 (fs 1)]) (.int .i64 (i : Int))).run Try.prog W = .ok (.int .i64 (fs i)) W := by
  have hc : (sizeOf 3).run Try.prog W = .ok 1 W := Go.Vc.run_sizeOf (n := 0) (by kernel_rfl) W
  rcases two hi with rfl | rfl
  · simp [go_sem, Instr.index, run_underlying Try.underlying87, Result.andThen, asIntOf, part, hc]
  · simp [go_sem, Instr.index, run_underlying Try.underlying87, Result.andThen, asIntOf, part, hc]
/-- The snapshots at block v: their own blocks G, the bytes R of the last one. -/
structure ShQ (w : World) (v d : Nat) (fs : Nat → Int) (at_ : Nat) (x : ShotM) (ms : Nat → List UInt8) (G R : Nat → Prop) : Prop where
  out : ∃ sl sv, ShAt w v d fs at_ x sl sv ∧ (∀ k, k < 2 → Own w 5 1 (sv k) 384 (bv (ms k)) ∧ ¬ inSl (sv k) v) ∧ ShR w x sl ∧ (∀ y, G y ↔ y = v ∨ inSl (sv 0) y ∨ inSl (sv 1) y) ∧ (∀ y, inSl (sv 0) y → ¬ inSl (sv 1) y) ∧ (∀ y, R y ↔ inRd sl y) ∧ ∀ y, R y → ¬ G y
theorem ShQ.mod {X : Nat → Prop} {w w' : World} {v d : Nat} {fs : Nat → Int} {at_ : Nat} {x : ShotM} {ms : Nat → List UInt8} {G R : Nat → Prop} (h : ShQ w v d fs at_ x ms G R) (m : Mod X w w') (hX : ∀ y, G y ∨ R y → ¬ X y) : ShQ w' v d fs at_ x ms G R := by
  obtain ⟨sl, sv, h1, h2, h3, h4, h5, h6, h7⟩ := h.out
  refine ⟨sl, sv, m.keep h1 (hX v (.inl ((h4 v).2 (.inl rfl)))), fun k hk => ⟨(h2 k hk).1.mod m fun y hy => hX y (.inl ((h4 y).2 ?_)), (h2 k hk).2⟩, h3.mod m fun y hy => hX y (.inr ((h6 y).2 hy)), h4, h5, h6, h7⟩
  rcases two hk with rfl | rfl
  · exact .inr (.inl hy)
  · exact .inr (.inr hy)
theorem ShQ.lt {w : World} {v d : Nat} {fs : Nat → Int} {at_ : Nat} {x : ShotM} {ms : Nat → List UInt8} {G R : Nat → Prop} (h : ShQ w v d fs at_ x ms G R) {y : Nat} (hy : G y ∨ R y) : y < w.heap.size := by
  obtain ⟨sl, sv, h1, h2, h3, h4, h5, h6, h7⟩ := h.out
  rcases hy with hy | hy
  · rcases (h4 y).1 hy with rfl | hy | hy
    · exact lt_of_heap h1
    · exact (h2 0 (by omega)).1.lt hy
    · exact (h2 1 (by omega)).1.lt hy
  · exact h3.lt ((h6 y).1 hy)

/-- What the first loop has laid. -/
structure Found (w0 W : World) (v d q : Nat) (fs : Nat → Int) (D : DM) (i : Nat) (sls sv : Nat → Value) : Prop where
  mod : Mod (fun y => y = v ∨ y = q) w0 W
  hq : hp W q = some (.cells (fnd (fun k => if k < i then fileS D (fs k) else shot0) sls).toArray 133 (0, 0))
  hv : ShAt W v d fs 1 shot0 (.slice none 0 0) sv
  rest : ∀ k, i ≤ k → sls k = .slice none 0 0 ∧ sv k = .slice none 0 0
  sh : ∀ k, k < i → ShR W (fileS D (fs k)) (sls k)
  own : ∀ k, k < i → Own W 5 1 (sv k) 384 (bv (marksF D (fs k)))
  new : ∀ k y, inRd (sls k) y ∨ inSl (sv k) y → w0.heap.size ≤ y ∧ y < W.heap.size
  apart : ∀ j k y, inRd (sls j) y → ¬ inSl (sv k) y
  apart2 : ∀ y, inSl (sv 0) y → ¬ inSl (sv 1) y

set_option maxRecDepth 20000 in
theorem open_first {w0 W : World} {K : Kont} {v d q i : Nat} {fs : Nat → Int} {F : Nat → Prop} {D : DM} {sls sv : Nat → Value} {x y : Value} {KN : Value × Value × Value × Unit → World → Prop} (hF : Found w0 W v d q fs D i sls sv) (hi : i < 2) (hvq : v ≠ q) (lv : v < w0.heap.size ∧ q < w0.heap.size) (h : DiskR W d F D) (hvF : ¬ F v ∧ ¬ F q) (hD : D.waits.length < 9223372036854775807)
    (hbad : D.smay (fs i) ≠ 0 → ∀ W', Mod (fun y => y = v ∨ y = q) w0 W' → K (.tuple #[.pointer none, .int .i64 (D.smay (fs i))]) W')
    (hnext : D.smay (fs i) = 0 → ∀ W' sls' sv', Found w0 W' v d q fs D (i + 1) sls' sv' → KN (x, y, .int .i64 ((i + 1 : Nat) : Int), ()) W') :
    L42_3 (.agg #[.int .i64 (fs 0), .int .i64 (fs 1)]) (dptr v) (dptr d) (.pointer (some ⟨q, 0, none⟩)) K (.int .i64 (fs 0)) (.int .i64 (fs 1)) (x, y, .int .i64 (i : Int), ()) W KN := by
  unfold L42_3
  intro _
  have hi' : (i : Int) < 2 := by omega
  refine rv_of (v := .bool true) (w' := W) (by simp [go_sem, hi']) ?_
  rw [ifB_bool, if_pos rfl]
  refine rv_of (files_at hi W) ?_
  show nilK (.pointer (some ⟨v, 0, none⟩)) _
  rw [nilK_p]
  refine rdP_of (v := .pointer (some ⟨v, 7, none⟩)) (fun w => by simp [go_sem, dptr]) ?_
  have md : Mod (fun _ => False) W W.drew := (Mod.refl _ W).drew
  have tail : ∀ (W1 : World) (xx : ShotM) (sl mv : Value) (e : Int), Mod (fun _ => False) W W1 → (∃ a n c, sl = .slice a n c) → (∃ a n c, mv = .slice a n c) →
      (∀ W', Mod (fun y => y = v ∨ y = q) W1 W' → hp W' q = some (.cells (fnd (set1 (fun k => if k < i then fileS D (fs k) else shot0) i xx) (set1 sls i sl)).toArray 133 (0, 0)) → ShAt W' v d fs 1 shot0 (.slice none 0 0) (set1 sv i mv) →
        rv Try.prog (bin .neq 28 true (.int .i64 e) (.int .i64 0)) W' fun v31 w32 => ifB v31 (K (.tuple #[(.pointer none), .int .i64 e]) w32) (rv Try.prog (bin .add 3 true (.int .i64 (i : Int)) (.int .i64 1)) w32 fun v33 w34 => KN (x, y, v33, ()) w34)) →
      rdP Try.prog (Instr.extract (.tuple #[.agg (shotC xx sl).toArray, mv, .int .i64 e]) 0) fun v24 => rdP Try.prog (Instr.extract (.tuple #[.agg (shotC xx sl).toArray, mv, .int .i64 e]) 1) fun v25 => rdP Try.prog (Instr.extract (.tuple #[.agg (shotC xx sl).toArray, mv, .int .i64 e]) 2) fun v26 =>
        rdP Try.prog (Instr.indexAt 133 (.pointer (some ⟨q, 0, none⟩)) (.int .i64 (i : Int))) fun v27 => ru Try.prog (Instr.storeAt 83 v27 v24) W1 fun w28 => rdP Try.prog (Instr.indexAt 88 (.pointer (some ⟨v, 7, none⟩)) (.int .i64 (i : Int))) fun v29 => ru Try.prog (Instr.storeAt 23 v29 v25) w28 fun w30 =>
        rv Try.prog (bin .neq 28 true v26 (.int .i64 0)) w30 fun v31 w32 => ifB v31 (K (.tuple #[(.pointer none), v26]) w32) (rv Try.prog (bin .add 3 true (.int .i64 (i : Int)) (.int .i64 1)) w32 fun v33 w34 => KN (x, y, v33, ()) w34) := by
    intro W1 xx sl mv e m hsl hmv hk
    refine rdP_of (v := .agg (shotC xx sl).toArray) (fun w => by simp [go_sem]) ?_
    refine rdP_of (v := mv) (fun w => by simp [go_sem]) ?_
    refine rdP_of (v := .int .i64 e) (fun w => by simp [go_sem]) ?_
    refine rdP_of (v := .pointer (some ⟨q, i * 3, none⟩)) (fun w => by rcases two hi with rfl | rfl <;> simp [go_sem]) ?_
    refine ru_found (m.keep hF.hq id) hi hsl fun W2 m2 k2 => ?_
    refine rdP_of (v := .pointer (some ⟨v, 7 + i, none⟩)) (fun w => by rcases two hi with rfl | rfl <;> simp [go_sem]) ?_
    refine ru_mark2 (m2.keep (m.keep hF.hv id) hvq) hi hmv fun W3 m3 k3 => ?_
    exact hk _ ((m2.mono fun _ _ h => .inr h).trans (m3.mono fun _ _ h => .inl h)) (m3.keep k2 (fun e => hvq e.symm)) k3
  refine ca_sread (h.mod md fun _ _ h => h) hD (fun he W1 m1 => ?_) (fun he W1 sl mv hs ns om nm hap m1 => ?_)
  · refine tail W1 shot0 (.slice none 0 0) (.slice none 0 0) _ (md.trans m1) ⟨_, _, _, rfl⟩ ⟨_, _, _, rfl⟩ fun W2 m2 k2 k3 => ?_
    refine rv_of (v := .bool true) (w' := W2) (by simp [go_sem, he]) ?_
    rw [ifB_bool, if_pos rfl]
    exact hbad he _ ((hF.mod.trans ((md.trans m1).mono fun _ _ h => h.elim)).trans m2)
  · obtain ⟨sa, sc, rfl⟩ := hs.isSl
    obtain ⟨ma, mc, rfl, -⟩ := om.isSl
    refine tail W1 (fileS D (fs i)) _ _ 0 (md.trans m1) ⟨_, _, _, rfl⟩ ⟨_, _, _, rfl⟩ fun W2 m2 k2 k3 => ?_
    refine rv_of (neq0 _) ?_
    rw [ifB_bool, if_neg (by simp)]
    have e3 : IntKind.i64.wrap ((i : Int) + 1) = ((i + 1 : Nat) : Int) := by rw [IntKind.wrap_i64]; omega
    refine rv_of (v := .int .i64 ((i + 1 : Nat) : Int)) (w' := W2) (by simp [-Int.natCast_add, go_sem, e3]) ?_
    have t2 : Mod (fun y => y = v ∨ y = q) W W2 := ((md.trans m1).mono fun _ _ h => h.elim).trans m2
    have zW := hF.mod.size
    have z1 := m1.size
    have z2 := m2.size
    have nvq : ∀ y, w0.heap.size ≤ y → ¬ (y = v ∨ y = q) := fun y hy hh => by rcases hh with rfl | rfl <;> omega
    rw [size_drew] at ns nm z1
    refine hnext he _ (set1 sls i (.slice sa (fileS D (fs i)).data.length sc)) (set1 sv i (.slice ma 384 mc)) ⟨hF.mod.trans t2, ?_, k3, fun k hk => ?_, fun k hk => ?_, fun k hk => ?_, fun k y hy => ?_, fun j k y hj hk => ?_, fun y h0 h1 => ?_⟩
    · rw [k2]
      have : set1 (fun k => if k < i then fileS D (fs k) else shot0) i (fileS D (fs i)) = fun k => if k < i + 1 then fileS D (fs k) else shot0 := by
        funext k
        unfold set1
        by_cases hki : k = i
        · subst hki; simp
        · by_cases hlt : k < i
          · simp [hki, hlt, Nat.lt_succ_of_lt hlt]
          · simp [hki, hlt, show ¬ k < i + 1 by omega]
      rw [this]
    · unfold set1
      rw [if_neg (by omega), if_neg (by omega)]
      exact hF.rest k (by omega)
    · unfold set1
      by_cases hki : k = i
      · subst hki
        rw [if_pos rfl]
        exact hs.mod m2 fun y hy => nvq y (by have := ns y hy; omega)
      · rw [if_neg hki]
        exact (hF.sh k (by omega)).mod t2 fun y hy => nvq y (hF.new k y (.inl hy)).1
    · unfold set1
      by_cases hki : k = i
      · subst hki
        rw [if_pos rfl]
        exact om.mod m2 fun y hy => nvq y (by have := nm y hy; omega)
      · rw [if_neg hki]
        exact (hF.own k (by omega)).mod t2 fun y hy => nvq y (hF.new k y (.inr hy)).1
    · unfold set1 at hy
      by_cases hki : k = i
      · subst hki
        rw [if_pos rfl, if_pos rfl] at hy
        rcases hy with hy | hy
        · have := ns y hy
          have := hs.lt hy
          omega
        · have := nm y hy
          have := om.lt hy
          omega
      · rw [if_neg hki, if_neg hki] at hy
        have := hF.new k y hy
        omega
    · unfold set1 at hj hk
      by_cases hji : j = i
      · subst hji
        rw [if_pos rfl] at hj
        by_cases hki : k = j
        · subst hki
          rw [if_pos rfl] at hk
          exact hap y hj hk
        · rw [if_neg hki] at hk
          have := ns y hj
          have := hF.new k y (.inr hk)
          omega
      · rw [if_neg hji] at hj
        by_cases hki : k = i
        · subst hki
          rw [if_pos rfl] at hk
          have := nm y hk
          have := hF.new j y (.inl hj)
          omega
        · rw [if_neg hki] at hk
          exact hF.apart j k y hj hk
    · rcases two hi with rfl | rfl
      · have : set1 sv 0 (.slice ma 384 mc) 1 = sv 1 := by unfold set1; rw [if_neg (by omega)]
        rw [this, (hF.rest 1 (by omega)).2] at h1
        cases h1
      · have : set1 sv 1 (.slice ma 384 mc) 0 = sv 0 := by unfold set1; rw [if_neg (by omega)]
        rw [this] at h0
        have e1 : set1 sv 1 (.slice ma 384 mc) 1 = .slice ma 384 mc := by unfold set1; rw [if_pos rfl]
        rw [e1] at h1
        have := nm y h1
        have := hF.new 0 y (.inr h0)
        omega
end Go.Proofs

namespace Go.Proofs
open Go Go.Vc

theorem sh_field {v : Nat} : (∀ W, (Instr.fieldAt 90 (.pointer (some ⟨v, 0, none⟩)) 2).run Try.prog W = .ok (.pointer (some ⟨v, 3, none⟩)) W) ∧ (∀ W, (Instr.fieldAt 90 (.pointer (some ⟨v, 0, none⟩)) 3).run Try.prog W = .ok (.pointer (some ⟨v, 4, none⟩)) W) := by
  refine ⟨fun W => ?_, fun W => ?_⟩ <;> simp [go_sem]
theorem sh_idx {W : World} {v d : Nat} {fs : Nat → Int} {at_ : Nat} {x : ShotM} {sl : Value} {ms : Nat → Value} (h : ShAt W v d fs at_ x sl ms) : (Instr.loadAt 27 (.pointer (some ⟨v, 4, none⟩))).run Try.prog W = .ok (.int .u64 (x.idx : Int)) W := by
  unfold ShAt shsC at h
  simp [go_sem, h]
theorem ru_shx {W : World} {K : World → Prop} {v d : Nat} {fs : Nat → Int} {at_ : Nat} {x x' : ShotM} {sl sl' : Value} {ms : Nat → Value} (h : ShAt W v d fs at_ x sl ms) (hs : ∃ a n c, sl' = .slice a n c)
    (hK : ∀ W', Mod (fun b => b = v) W W' → ShAt W' v d fs at_ x' sl' ms → K W') :
    ru Try.prog (Instr.storeAt 83 (.pointer (some ⟨v, 4, none⟩)) (.agg (shotC x' sl').toArray)) W K := by
  obtain ⟨a, n, c, rfl⟩ := hs
  unfold ShAt shsC dptr at *
  have hK' := hK ((((W.setCell ⟨v, 4, none⟩ (.int .u64 (x'.idx : Int))).setCell ⟨v, 5, none⟩ (.int .u64 (x'.term : Int))).setCell ⟨v, 6, none⟩ (.slice a n c))) ((((Mod.refl (fun b => b = v) W).setCell (.inl rfl) _ _).setCell (.inl rfl) _ _).setCell (.inl rfl) _ _) (by simp [go_sem, h])
  simp only [shotC]
  simp [go_sem, h]
  exact hK'
theorem ru_shat {W : World} {K : World → Prop} {v d i : Nat} {fs : Nat → Int} {at_ : Nat} {x : ShotM} {sl : Value} {ms : Nat → Value} (h : ShAt W v d fs at_ x sl ms)
    (hK : ∀ W', Mod (fun b => b = v) W W' → ShAt W' v d fs i x sl ms → K W') :
    ru Try.prog (Instr.storeAt 3 (.pointer (some ⟨v, 3, none⟩)) (.int .i64 (i : Int))) W K := by
  unfold ShAt shsC dptr at *
  refine ru_of (w' := W.setCell ⟨v, 3, none⟩ (.int .i64 (i : Int))) (by simp [go_sem, h]) (hK _ ((Mod.refl (fun b => b = v) W).setCell (.inl rfl) _ _) (by simp [go_sem, h]))

/-- What holds in the second loop. -/
structure Sec2 (w W0 W : World) (v d : Nat) (fs : Nat → Int) (F F' : Nat → Prop) (D : DM) (i : Nat) (Os : SOpen) (sls sv : Nat → Value) (sl : Value) : Prop where
  disk : DiskR W d F' Os.D
  mod : Mod F w W
  nF : ∀ y, F' y → F y ∨ W0.heap.size ≤ y
  go : sgo fs (fun k => fileS D (fs k)) (fun k => marksF D (fs k)) [0, 1] (sopen0 D fs) = sgo fs (fun k => fileS D (fs k)) (fun k => marksF D (fs k)) ([0, 1].drop i) Os
  len : Os.D.waits.length ≤ D.waits.length + 384 * i
  at_ : ShAt W v d fs Os.at_ Os.x sl sv
  own : ∀ k, k < 2 → Own W 5 1 (sv k) 384 (bv (Os.ms k))
  sh : ∀ k, k < 2 → ShR W (fileS D (fs k)) (sls k)
  sl : sl = .slice none 0 0 ∧ Os.x = shot0 ∨ ∃ k, k < 2 ∧ sl = sls k ∧ Os.x = fileS D (fs k)
  ms : ∀ k, i ≤ k → Os.ms k = marksF D (fs k)
  size : W0.heap.size ≤ W.heap.size
/-- How the blocks lie. -/
structure Lay2 (w W0 : World) (v : Nat) (F : Nat → Prop) (sls sv : Nat → Value) : Prop where
  lF : ∀ y, F y → y < w.heap.size
  lv : w.heap.size ≤ v ∧ v < W0.heap.size
  new : ∀ k y, inRd (sls k) y ∨ inSl (sv k) y → v < y ∧ y < W0.heap.size
  apart : ∀ j k y, inRd (sls j) y → ¬ inSl (sv k) y
  apart2 : ∀ y, inSl (sv 0) y → ¬ inSl (sv 1) y
theorem Sec2.step {w W0 W W' : World} {v d : Nat} {fs : Nat → Int} {F F' : Nat → Prop} {D : DM} {i : Nat} {Os : SOpen} {sls sv : Nat → Value} {sl : Value} (L : Lay2 w W0 v F sls sv) (h : Sec2 w W0 W v d fs F F' D i Os sls sv sl) (m : Mod (fun _ => False) W W') : Sec2 w W0 W' v d fs F F' D i Os sls sv sl :=
  ⟨h.disk.mod m fun _ _ h => h, h.mod.trans (m.mono fun _ _ h => h.elim), h.nF, h.go, h.len, m.keep h.at_ id, fun k hk => (h.own k hk).mod m fun _ _ h => h, fun k hk => (h.sh k hk).mod m fun _ _ h => h, h.sl, h.ms, Nat.le_trans h.size m.size⟩

theorem marksF_length {w : World} {d : Nat} {F : Nat → Prop} {D : DM} (h : DiskR w d F D) (f : Int) : (marksF D f).length = 384 := marks3_length fun i => secAt_len h _ _

set_option maxRecDepth 20000 in
theorem open_second {w W0 W : World} {K : Kont} {v d i : Nat} {fs : Nat → Int} {F F' : Nat → Prop} {D : DM} {Os : SOpen} {sls sv : Nat → Value} {sl x y : Value} {KN : Value × Value × Value × Value × Unit → World → Prop} (L : Lay2 w W0 v F sls sv) (hS : Sec2 w W0 W v d fs F F' D i Os sls sv sl) (hi : i < 2) (hD : D.waits.length < 137438953472) (hml : ∀ k, (marksF D (fs k)).length = 384)
    (hbad : ∀ W' F' e Os', sgo fs (fun k => fileS D (fs k)) (fun k => marksF D (fs k)) [0, 1] (sopen0 D fs) = (e, Os') → e ≠ 0 → DiskR W' d F' Os'.D → Mod F w W' → (∀ y, F' y → F y ∨ W0.heap.size ≤ y) → K (.tuple #[.pointer none, .int .i64 e]) W')
    (hnext : ∀ W' F' Os' sl', Sec2 w W0 W' v d fs F F' D (i + 1) Os' sls sv sl' → KN (x, y, .bool Os'.cl, .int .i64 ((i + 1 : Nat) : Int), ()) W') :
    L42_2 (.agg (fnd (fun k => fileS D (fs k)) sls).toArray) (dptr v) K (dptr d) (x, y, .bool Os.cl, .int .i64 (i : Int), ()) W KN := by
  unfold L42_2
  intro _
  have hi' : (i : Int) < 2 := by omega
  have e3 : IntKind.i64.wrap ((i : Int) + 1) = ((i + 1 : Nat) : Int) := by rw [IntKind.wrap_i64]; omega
  have lvW : v < W.heap.size := lt_of_heap hS.at_
  have lwv := L.lv.1
  -- the step of the plain form
  obtain ⟨xi, hxi⟩ : ∃ xi, fileS D (fs i) = xi := ⟨_, rfl⟩
  obtain ⟨bi, hbi⟩ : ∃ bi, marksF D (fs i) = bi := ⟨_, rfl⟩
  have hgo : sgo fs (fun k => fileS D (fs k)) (fun k => marksF D (fs k)) ([0, 1].drop i) Os = if (sround fs (fun k => fileS D (fs k)) (fun k => marksF D (fs k)) i Os).1 = 0 then sgo fs (fun k => fileS D (fs k)) (fun k => marksF D (fs k)) ([0, 1].drop (i + 1)) (sround fs (fun k => fileS D (fs k)) (fun k => marksF D (fs k)) i Os).2 else sround fs (fun k => fileS D (fs k)) (fun k => marksF D (fs k)) i Os := by
    rcases two hi with rfl | rfl <;> rfl
  have hro : sround fs (fun k => fileS D (fs k)) (fun k => marksF D (fs k)) i Os = if Os.x.idx < xi.idx then (0, { Os with x := xi, at_ := i })
      else if xi.idx = 0 ∧ bi ≠ z384 then ((Os.D.writes (fs i) (cleanS bi 0)).1, { Os with D := (Os.D.writes (fs i) (cleanS bi 0)).2, cl := true, ms := fun j => if j = i then z384 else Os.ms j }) else (0, Os) := by
    unfold sround
    simp only [hxi, hbi]
  have hshi := hS.sh i hi
  rw [hxi] at hshi
  obtain ⟨sa, sc, hsli⟩ := hshi.isSl
  refine rv_of (v := .bool true) (w' := W) (by simp [go_sem, hi']) ?_
  rw [ifB_bool, if_pos rfl]
  refine rv_of (found_at hi W) ?_
  simp only [hxi]
  rw [hsli]
  refine rv_of (shot_alloc W) ?_
  have mA : Mod (fun _ => False) W (W.alloc (.cells (shotC shot0 (.slice none 0 0)).toArray 83)) := (Mod.refl _ W).alloc _
  have rA : hp (W.alloc (.cells (shotC shot0 (.slice none 0 0)).toArray 83)) W.heap.size = some (.cells (shotC shot0 (.slice none 0 0)).toArray 83 (0, 0)) := by simp only [hp_alloc, if_pos]
  generalize (W.alloc (.cells (shotC shot0 (.slice none 0 0)).toArray 83)) = W1 at mA rA
  obtain ⟨p, hp_⟩ : ∃ p, W.heap.size = p := ⟨_, rfl⟩
  rw [hp_] at rA ⊢
  refine ru_shot rA ⟨_, _, _, rfl⟩ fun W2 m2 r2 => ?_
  have t2 : Mod (fun _ => False) W W2 := mA.on m2 fun y hy => .inr (by omega)
  have td : Mod (fun _ => False) W W2.drew := t2.drew
  have rd : hp W2.drew p = _ := r2
  have Sd := hS.step L td
  generalize W2.drew = W3 at td rd Sd
  obtain ⟨f0, f1, f2⟩ := sfield (q := p) (o := 0)
  obtain ⟨g2, g3⟩ := sh_field (v := v)
  obtain ⟨k0, -, -⟩ := sfield (q := v) (o := 4)
  refine rdP_of f0 ?_
  refine rdW_of (sload rd).1 ?_
  show nilK (.pointer (some ⟨v, 0, none⟩)) _
  rw [nilK_p]
  refine rdP_of g3 ?_
  refine rdP_of k0 ?_
  refine rdW_of (sh_idx Sd.at_) ?_
  refine rdP_of (v := .bool (decide (Os.x.idx < xi.idx))) (fun w => by simp [go_sem]) ?_
  by_cases hgt : Os.x.idx < xi.idx
  · rw [decide_eq_true hgt, ifB_bool, if_pos rfl]
    rw [hro, if_pos hgt] at hgo
    refine rv_of (sload rd).2.2.2 ?_
    show nilK (.pointer (some ⟨v, 0, none⟩)) _
    rw [nilK_p]
    refine rv_of (g3 _) ?_
    refine ru_shx Sd.at_ ⟨_, _, _, rfl⟩ fun W4 m4 a4 => ?_
    show nilK (.pointer (some ⟨v, 0, none⟩)) _
    rw [nilK_p]
    refine rv_of (g2 _) ?_
    refine ru_shat a4 fun W5 m5 a5 => ?_
    have m45 : Mod (fun b => b = v) W3 W5 := m4.trans m5
    refine rv_of (v := .int .i64 ((i + 1 : Nat) : Int)) (w' := W5) (by simp [-Int.natCast_add, go_sem, e3]) ?_
    have vF' : ∀ y, F' y → ¬ y = v := fun y hy e => by
      rcases hS.nF y hy with h' | h'
      · have := L.lF y h'; omega
      · have := L.lv.2; omega
    refine hnext W5 F' { Os with x := xi, at_ := i } (.slice sa xi.data.length sc) ⟨Sd.disk.mod m45 vF', Sd.mod.on m45 fun y hy => .inr (by omega), Sd.nF, ?_, ?_, a5, fun k hk => (Sd.own k hk).mod m45 fun y hy e => ?_, fun k hk => (Sd.sh k hk).mod m45 fun y hy e => ?_, .inr ⟨i, hi, hsli.symm, hxi.symm⟩, fun k hk => Sd.ms k (by omega), Nat.le_trans Sd.size m45.size⟩
    · rw [Sd.go, hgo]
      rfl
    · have := Sd.len
      show Os.D.waits.length ≤ _
      omega
    · have := (L.new k y (.inr hy)).1; omega
    · have := (L.new k y (.inl hy)).1; omega
  · rw [decide_eq_false hgt, ifB_bool, if_neg (by simp)]
    rw [hro, if_neg hgt] at hgo
    refine joinK (fun s W' => s = (.bool (decide (xi.idx = 0 ∧ bi ≠ z384)), ()) ∧ Mod (fun _ => False) W3 W') (fun JJ hJJ => ?_) ?_
    · refine rv_of (f0 _) (rv_of (sload rd).1 ?_)
      refine rv_of (v := .bool (decide (xi.idx = 0))) (w' := W3) ?_ ?_
      · simp [go_sem]
        rw [Bool.eq_iff_iff]
        simp
      by_cases hz : xi.idx = 0
      · rw [decide_eq_true hz, ifB_bool, if_pos rfl]
        obtain ⟨mb, mc, -, hmk, hmc, -, -, -⟩ := own_cells (Sd.own i hi) (by omega)
        show rv Try.prog _ W3 _
        refine sh_marks Sd.at_ hi hmk ?_
        have om := Sd.own i hi
        rw [Sd.ms i (Nat.le_refl _), hbi] at om
        have hbl : bi.length = 384 := by rw [← hbi]; exact hml i
        rw [← hmk]
        refine ca_noughts (l := bi) (by rw [hbl]; exact om.rd) (by omega) fun W4 m4 => ?_
        rw [hbl, show List.replicate 384 (0 : UInt8) = z384 from rfl]
        refine rv_of (v := .bool (!decide (bi = z384))) (w' := W4) (by simp [go_sem]) ?_
        refine hJJ _ _ ⟨?_, m4⟩
        simp [hz]
      · rw [decide_eq_false hz, ifB_bool, if_neg (by simp)]
        exact hJJ _ _ ⟨by simp [hz], Mod.refl _ _⟩
    rintro _ W4 ⟨rfl, m4⟩
    have S4 := Sd.step L m4
    unfold J42_0
    intro _
    by_cases hc : xi.idx = 0 ∧ bi ≠ z384
    · rw [decide_eq_true hc, ifB_bool, if_pos rfl]
      rw [if_pos hc] at hgo
      have om := S4.own i hi
      rw [S4.ms i (Nat.le_refl _), hbi] at om
      have vF' : ¬ F' v := fun hh => by
        rcases hS.nF v hh with h' | h'
        · have := L.lF v h'; omega
        · have := L.lv.2; omega
      refine ca_blank S4.at_ vF' hi S4.disk (by have := S4.len; omega) om (fun y hy => ?_) fun W5 F5 b' d5 s5 o5 hb5 nF5 => ?_
      · have := L.new i y (.inr hy)
        refine ⟨fun hh => ?_, by omega⟩
        rcases hS.nF y hh with h' | h'
        · have := L.lF y h'; omega
        · omega
      have nF6 : ∀ y, F5 y → F y ∨ W0.heap.size ≤ y := fun y hy => (nF5 y hy).elim (hS.nF y) fun h' => .inr (by have := S4.size; omega)
      have mod5 : Mod F w W5 := S4.mod.on s5.mod fun y hy => by
        rcases hy with hy | hy
        · rcases hS.nF y hy with h' | h'
          · exact .inl h'
          · exact .inr (by have := L.lv; omega)
        · exact .inr (by have := L.new i y (.inr hy); omega)
      have notF : ∀ y, v ≤ y → y < W0.heap.size → ¬ F' y := fun y h1 h2 hh => by
        rcases hS.nF y hh with h' | h'
        · have := L.lF y h'; omega
        · omega
      by_cases he : (Os.D.writes (fs i) (cleanS bi 0)).1 = 0
      · rw [if_pos he] at hgo
        rw [he]
        refine rv_of (neq0 _) ?_
        rw [ifB_bool, if_neg (by simp)]
        refine rv_of (v := .int .i64 ((i + 1 : Nat) : Int)) (w' := W5) (by simp [-Int.natCast_add, go_sem, e3]) ?_
        refine hnext W5 F5 { Os with D := (Os.D.writes (fs i) (cleanS bi 0)).2, cl := true, ms := fun j => if j = i then z384 else Os.ms j } sl ⟨d5, mod5, nF6, ?_, ?_, s5.mod.keep S4.at_ (fun hh => ?_), fun k hk => ?_, fun k hk => (S4.sh k hk).mod s5.mod fun y hy hh => ?_, S4.sl, fun k hk => ?_, Nat.le_trans S4.size s5.mod.size⟩
        · rw [S4.go, hgo]
        · have hcl : ∀ s ∈ cleanS bi 0, s.2.length = 128 := fun s hs => by
            unfold cleanS at hs
            obtain ⟨j, hj, hj2⟩ := List.mem_filterMap.1 hs
            split at hj2
            · cases hj2
            · injection hj2 with hj2
              rw [← hj2]
              exact zsec_length
          have h1 := writes_len (fs i) (cleanS bi 0) Os.D hcl
          have h2 : (cleanS bi 0).length ≤ 3 := by
            unfold cleanS
            refine Nat.le_trans (List.length_filterMap_le ..) ?_
            simp
          have := S4.len
          show (Os.D.writes (fs i) (cleanS bi 0)).2.waits.length ≤ _
          omega
        · rcases hh with hh | hh
          · exact vF' hh
          · have := (L.new i v (.inr hh)).1; omega
        · show Own W5 _ 1 (sv k) 384 (bv (if k = i then z384 else Os.ms k))
          by_cases hki : k = i
          · subst hki
            rw [if_pos rfl]
            rw [hb5 he] at o5
            exact o5
          · rw [if_neg hki]
            refine (S4.own k hk).mod s5.mod fun y hy hh => ?_
            rcases hh with hh | hh
            · exact notF y (by have := L.new k y (.inr hy); omega) (L.new k y (.inr hy)).2 hh
            · rcases two hk with rfl | rfl <;> rcases two hi with rfl | rfl
              · exact hki rfl
              · exact L.apart2 y hy hh
              · exact L.apart2 y hh hy
              · exact hki rfl
        · rcases hh with hh | hh
          · exact notF y (by have := L.new k y (.inl hy); omega) (L.new k y (.inl hy)).2 hh
          · exact L.apart k i y hy hh
        · show (if k = i then z384 else Os.ms k) = _
          rw [if_neg (by omega)]
          exact S4.ms k (by omega)
      · rw [if_neg he] at hgo
        refine rv_of (v := .bool true) (w' := W5) (by simp [go_sem, he]) ?_
        rw [ifB_bool, if_pos rfl]
        exact hbad W5 F5 _ _ (S4.go.trans hgo) he d5 mod5 nF6
    · rw [decide_eq_false hc, ifB_bool, if_neg (by simp)]
      rw [if_neg hc] at hgo
      refine rv_of (v := .int .i64 ((i + 1 : Nat) : Int)) (w' := W4) (by simp [-Int.natCast_add, go_sem, e3]) ?_
      refine hnext W4 F' Os sl ⟨S4.disk, S4.mod, S4.nF, ?_, by have := S4.len; omega, S4.at_, S4.own, S4.sh, S4.sl, fun k hk => S4.ms k (by omega), S4.size⟩
      rw [S4.go, hgo]
      rfl
end Go.Proofs

namespace Go.Proofs
open Go Go.Vc

theorem fnd_two (xs : Nat → ShotM) (sls : Nat → Value) (z : ShotM) : fnd (fun k => if k < 2 then xs k else z) sls = fnd xs sls := rfl
theorem found_load {W : World} {q : Nat} {xs : Nat → ShotM} {sls : Nat → Value} (h : hp W q = some (.cells (fnd xs sls).toArray 133 (0, 0))) (hs : ∀ k, k < 2 → ∃ a n c, sls k = .slice a n c) :
    (Instr.loadAt 133 (.pointer (some ⟨q, 0, none⟩))).run Try.prog W = .ok (.agg (fnd xs sls).toArray) W := by
  have := run_bigS (P := Try.prog) (t := 133) (w := W) (b := q) (off := 0) (cs := fnd xs sls) (n := 5) (by kernel_rfl) (by kernel_rfl) rfl (At.whole h)
  exact this

set_option maxRecDepth 20000 in
theorem ca_sopen {w : World} {K : Kont} {d : Nat} {F : Nat → Prop} {D : DM} {fs : Nat → Int} (h : DiskR w d F D) (hD : D.waits.length < 137438953472)
    (hK1 : ∀ w' F', (D.sopen fs).1 ≠ 0 → DiskR w' d F' (D.sopen fs).2.D → Stp F w w' F' → K (.tuple #[.pointer none, .int .i64 (D.sopen fs).1]) w')
    (hK2 : ∀ w' F' v G R, (D.sopen fs).1 = 0 → DiskR w' d F' (D.sopen fs).2.D → Stp F w w' F' → ShQ w' v d fs (D.sopen fs).2.at_ (D.sopen fs).2.x (D.sopen fs).2.ms G R → (∀ y, G y ∨ R y → w.heap.size ≤ y ∧ ¬ F' y) → K (.tuple #[dptr v, .int .i64 0]) w') :
    Ca Try.prog 42 #[dptr d, .int .i64 (fs 0), .int .i64 (fs 1)] w K := by
  apply ca42
  unfold F42
  refine rv_of (v := .agg #[.int .i64 (fs 0), .int .i64 (fs 1)]) (w' := w) (by simp [go_sem]) ?_
  refine rv_of (v := .agg (shsC d fs 1 shot0 (.slice none 0 0) fun _ => .slice none 0 0).toArray) (w' := w) (by simp [go_sem, dptr, shsC, shot0]) ?_
  refine rv_box ?_
  have mA : Mod (fun _ => False) w (w.alloc (.cells (shsC d fs 1 shot0 (.slice none 0 0) fun _ => .slice none 0 0).toArray 90)) := (Mod.refl _ w).alloc _
  have hA : ShAt (w.alloc (.cells (shsC d fs 1 shot0 (.slice none 0 0) fun _ => .slice none 0 0).toArray 90)) w.heap.size d fs 1 shot0 (.slice none 0 0) fun _ => .slice none 0 0 := by simp only [ShAt, hp_alloc, if_pos]
  generalize (w.alloc (.cells (shsC d fs 1 shot0 (.slice none 0 0) fun _ => .slice none 0 0).toArray 90)) = w1 at mA hA
  obtain ⟨v, hv⟩ : ∃ v, w.heap.size = v := ⟨_, rfl⟩
  rw [hv] at hA ⊢
  have lv1 := lt_of_heap hA
  refine rv_of (v := .pointer (some ⟨w1.heap.size, 0, none⟩)) (w' := w1.alloc (.cells (fnd (fun _ => shot0) fun _ => .slice none 0 0).toArray 133)) (by simp [go_sem, fnd, shotC, shot0]) ?_
  have mB : Mod (fun _ => False) w1 (w1.alloc (.cells (fnd (fun _ => shot0) fun _ => .slice none 0 0).toArray 133)) := (Mod.refl _ w1).alloc _
  have hB : hp (w1.alloc (.cells (fnd (fun _ => shot0) fun _ => .slice none 0 0).toArray 133)) w1.heap.size = some (.cells (fnd (fun _ => shot0) fun _ => .slice none 0 0).toArray 133 (0, 0)) := by simp only [hp_alloc, if_pos]
  generalize (w1.alloc (.cells (fnd (fun _ => shot0) fun _ => .slice none 0 0).toArray 133)) = w2 at mB hB
  obtain ⟨q, hq⟩ : ∃ q, w1.heap.size = q := ⟨_, rfl⟩
  rw [hq] at hB lv1 ⊢
  have lq2 := lt_of_heap hB
  have hA2 : ShAt w2 v d fs 1 shot0 (.slice none 0 0) fun _ => .slice none 0 0 := mB.keep hA id
  have t2 := mA.trans mB
  show nilK (.pointer (some ⟨v, 0, none⟩)) _
  rw [nilK_p]
  refine rv_of (v := .pointer (some ⟨v, 1, none⟩)) (w' := w2) (by simp [go_sem]) ?_
  refine rv_of (v := .agg #[.int .i64 (fs 0), .int .i64 (fs 1)]) (w' := w2) (by unfold ShAt shsC at hA2; simp [go_sem, hA2]) ?_
  have hlF : ∀ y, F y → y < w.heap.size := fun y hy => h.lt hy
  have vq : v ≠ q := by omega
  have nvF : ¬ F v ∧ ¬ F q := ⟨fun hh => by have := hlF v hh; omega, fun hh => by have := hlF q hh; omega⟩
  have toStp : ∀ W', Mod F w W' → Stp F w W' F := fun W' m => ⟨m, fun _ h => .inl h⟩
  have isSl : ∀ {W : World} {i : Nat} {sls sv : Nat → Value}, Found w2 W v d q fs D i sls sv → ∀ k, ∃ a n c, sls k = .slice a n c := fun {W i sls sv} hF k => by
    by_cases hk : k < i
    · obtain ⟨a, c, he⟩ := (hF.sh k hk).isSl
      exact ⟨a, _, c, he⟩
    · exact ⟨none, 0, 0, (hF.rest k (by omega)).1⟩
  refine loopK (fun s W => ∃ (i : Nat) (x y : Value) (sls sv : Nat → Value), i ≤ 2 ∧ s = (x, y, .int .i64 (i : Int), ()) ∧ Found w2 W v d q fs D i sls sv ∧ ∀ k, k < i → D.smay (fs k) = 0)
    (fun s _ => match s.2.2.1 with | .int _ i => 2 - i.toNat | _ => 0) ⟨0, _, _, fun _ => .slice none 0 0, fun _ => .slice none 0 0, by omega, rfl, ⟨Mod.refl _ _, by simpa using hB, hA2, fun _ _ => ⟨rfl, rfl⟩, fun k hk => by omega, fun k hk => by omega, fun k y hy => hy.elim (fun ⟨a, _, _, he, _⟩ => by cases he) (fun hy => by cases hy), (fun j k y hj => by obtain ⟨a, _, _, he, _⟩ := hj; cases he), (fun y hy => by cases hy)⟩, fun k hk => by omega⟩ ?_
  rintro ⟨_, _⟩ W ⟨i, x, y, sls, sv, hi, ⟨⟩, hF, hs0⟩ KN hKN
  have modW : ∀ W', Mod (fun y => y = v ∨ y = q) w2 W' → Mod F w W' := fun W' m => (t2.mono fun _ _ h => h.elim).on m fun y hy => .inr (by rcases hy with rfl | rfl <;> omega)
  have dW : DiskR W d F D := (h.mod t2 fun _ _ h => h).mod hF.mod fun y hy hh => by have := hlF y hy; rcases hh with hh | hh <;> omega
  by_cases hlt : i < 2
  · refine open_first hF hlt vq ⟨by omega, lq2⟩ dW nvF (by omega) (fun he W' m => ?_) fun he W' sls' sv' hF' => ?_
    · have e : D.sopen fs = (D.smay (fs i), sopen0 D fs) := by
        unfold DM.sopen
        rcases two hlt with rfl | rfl
        · rw [if_pos he]
        · rw [if_neg (by simp [hs0 0 (by omega)]), if_pos he]
      rw [e] at hK1
      exact hK1 W' F he ((h.mod t2 fun _ _ h => h).mod m fun y hy hh => by have := hlF y hy; rcases hh with hh | hh <;> omega) (toStp _ (modW _ m))
    · refine hKN _ _ ⟨i + 1, _, _, sls', sv', hlt, rfl, hF', fun k hk => ?_⟩ (by simp; omega)
      by_cases hki : k = i
      · subst hki; exact he
      · exact hs0 k (by omega)
  have : i = 2 := by omega
  subst this
  unfold L42_3
  intro _
  have s0 := hs0 0 (by omega)
  have s1 := hs0 1 (by omega)
  refine rv_of (v := .bool false) (w' := W) (by simp [go_sem]) ?_
  rw [ifB_bool, if_neg (by simp)]
  refine rv_of (v := .bool (decide (fs 0 = fs 1))) (w' := W) ?_ ?_
  · simp [go_sem]
    rw [Bool.eq_iff_iff]
    simp
  by_cases hff : fs 0 = fs 1
  · rw [decide_eq_true hff, ifB_bool, if_pos rfl]
    have e : D.sopen fs = (2, sopen0 D fs) := by
      unfold DM.sopen
      rw [if_neg (by simp [s0]), if_neg (by simp [s1]), if_pos hff]
    rw [e] at hK1
    exact hK1 W F (by simp) dW (toStp _ (modW _ hF.mod))
  rw [decide_eq_false hff, ifB_bool, if_neg (by simp)]
  have e : D.sopen fs = slast (sgo fs (fun k => fileS D (fs k)) (fun k => marksF D (fs k)) [0, 1] (sopen0 D fs)) := by
    unfold DM.sopen
    rw [if_neg (by simp [s0]), if_neg (by simp [s1]), if_neg hff]
  rw [e] at hK1 hK2
  have hqW := hF.hq
  rw [fnd_two] at hqW
  refine rv_of (found_load hqW fun k _ => isSl hF k) ?_
  have zW := hF.mod.size
  have L : Lay2 w W v F sls sv := ⟨hlF, ⟨by omega, by omega⟩, fun k y hy => by have := hF.new k y hy; omega, hF.apart, hF.apart2⟩
  have hml : ∀ k, (marksF D (fs k)).length = 384 := fun k => marksF_length h _
  refine loopK (fun s W' => ∃ (i : Nat) (x y : Value) (F' : Nat → Prop) (Os : SOpen) (sl : Value), i ≤ 2 ∧ s = (x, y, .bool Os.cl, .int .i64 (i : Int), ()) ∧ Sec2 w W W' v d fs F F' D i Os sls sv sl)
    (fun s _ => match s.2.2.2.1 with | .int _ i => 2 - i.toNat | _ => 0) ⟨0, _, _, F, sopen0 D fs, .slice none 0 0, by omega, rfl, ⟨dW, modW _ hF.mod, fun y hy => .inl hy, rfl, Nat.le_refl _, hF.hv, fun k hk => hF.own k hk, fun k hk => hF.sh k hk, .inl ⟨rfl, rfl⟩, fun _ _ => rfl, Nat.le_refl _⟩⟩ ?_
  rintro ⟨_, _⟩ W2 ⟨i, x2, y2, F', Os, sl, hi2, ⟨⟩, hS⟩ KN2 hKN2
  have stp2 : ∀ W' F', Mod F w W' → (∀ y, F' y → F y ∨ W.heap.size ≤ y) → Stp F w W' F' := fun W' F' m n => ⟨m, fun y hy => (n y hy).imp id fun h' => by omega⟩
  by_cases hlt2 : i < 2
  · refine open_second L hS hlt2 hD hml (fun W' F5 ec Os' hgo hne d5 m5 n5 => ?_) fun W' F5 Os' sl' hS' => ?_
    · have e2 : slast (ec, Os') = (ec, Os') := by unfold slast; rw [if_pos hne]
      rw [hgo, e2] at hK1
      exact hK1 W' F5 hne d5 (stp2 _ _ m5 n5)
    · exact hKN2 _ _ ⟨i + 1, _, _, F5, Os', sl', hlt2, rfl, hS'⟩ (by simp; omega)
  have : i = 2 := by omega
  subst this
  have hgo : sgo fs (fun k => fileS D (fs k)) (fun k => marksF D (fs k)) [0, 1] (sopen0 D fs) = (0, Os) := hS.go
  rw [hgo] at hK1 hK2
  unfold L42_2
  intro _
  refine rv_of (v := .bool false) (w' := W2) (by simp [go_sem]) ?_
  rw [ifB_bool, if_neg (by simp)]
  -- what is handed back
  have fin : ∀ (W' : World) (F5 : Nat → Prop) (D5 : DM), slast (0, Os) = (0, { Os with D := D5 }) → DiskR W' d F5 D5 → Mod F w W' → (∀ y, F5 y → F y ∨ W.heap.size ≤ y) → Mod F' W2 W' → K (.tuple #[dptr v, .int .i64 0]) W' := by
    intro W' F5 D5 hs5 d5 m5 n5 m25
    rw [hs5] at hK2
    have notF : ∀ (X : Nat → Prop), (∀ y, X y → F y ∨ W.heap.size ≤ y) → ∀ y, v ≤ y → y < W.heap.size → ¬ X y := fun X hX y h1 h2 hh => by
      rcases hX y hh with h' | h'
      · have := hlF y h'; omega
      · omega
    have slin : ∀ y, inRd sl y → ∃ k, inRd (sls k) y := fun y hy => by
      rcases hS.sl with ⟨he, _⟩ | ⟨k, _, he, _⟩
      · rw [he] at hy; obtain ⟨a, _, _, he, _⟩ := hy; cases he
      · exact ⟨k, by rw [← he]; exact hy⟩
    have shx : ShR W2 Os.x sl := by
      rcases hS.sl with ⟨he, hx⟩ | ⟨k, hk, he, hx⟩
      · rw [he, hx]; exact ⟨rfl, .inl ⟨rfl, _, _, rfl⟩⟩
      · rw [he, hx]; exact hS.sh k hk
    refine hK2 W' F5 v (fun y => y = v ∨ inSl (sv 0) y ∨ inSl (sv 1) y) (fun y => inRd sl y) rfl d5 (stp2 _ _ m5 n5) ⟨sl, sv, m25.keep hS.at_ (notF F' hS.nF v (Nat.le_refl _) L.lv.2), fun k hk => ⟨(hS.own k hk).mod m25 fun y hy => notF F' hS.nF y (Nat.le_of_lt (L.new k y (.inr hy)).1) (L.new k y (.inr hy)).2, fun hh => ?_⟩, shx.mod m25 fun y hy => ?_, fun _ => Iff.rfl, L.apart2, fun _ => Iff.rfl, fun y hy hg => ?_⟩ fun y hy => ?_
    · have := (L.new k v (.inr hh)).1; omega
    · obtain ⟨k, hk⟩ := slin y hy
      exact notF F' hS.nF y (Nat.le_of_lt (L.new k y (.inl hk)).1) (L.new k y (.inl hk)).2
    · obtain ⟨k, hk⟩ := slin y hy
      rcases hg with rfl | hg | hg
      · have := (L.new k y (.inl hk)).1; omega
      · exact L.apart k 0 y hk hg
      · exact L.apart k 1 y hk hg
    · have hb : v ≤ y ∧ y < W.heap.size := by
        rcases hy with (rfl | hy | hy) | hy
        · exact ⟨Nat.le_refl _, L.lv.2⟩
        · have := L.new 0 y (.inr hy); omega
        · have := L.new 1 y (.inr hy); omega
        · obtain ⟨k, hk⟩ := slin y hy
          have := L.new k y (.inl hk); omega
      exact ⟨by omega, notF F5 n5 y hb.1 hb.2⟩
  cases hcl : Os.cl
  · have e0 : slast (0, Os) = (0, { Os with D := Os.D }) := by simp [slast, hcl]
    refine joinK (fun s W' => W' = W2) (fun JJ hJJ => ?_) ?_
    · rw [ifB_bool, if_neg (by simp)]
      exact hJJ _ _ rfl
    · rintro s W' rfl
      unfold J42_1
      intro _
      exact fin _ F' Os.D e0 hS.disk hS.mod hS.nF (Mod.refl _ _)
  · have e1 : slast (0, Os) = (Os.D.sync.1, { Os with D := Os.D.sync.2 }) := by simp [slast, hcl]
    refine joinK (fun s W' => Os.D.sync.1 = 0 ∧ ∃ F5, DiskR W' d F5 Os.D.sync.2 ∧ Stp F' W2 W' F5) (fun JJ hJJ => ?_) ?_
    · rw [ifB_bool, if_pos rfl]
      refine ca_sync hS.disk (by have := hS.len; omega) fun W3 F5 d5 s5 => ?_
      refine rv_of (v := .bool (decide (Os.D.sync.1 ≠ 0))) (w' := W3) ?_ ?_
      · simp [go_sem]
        rw [Bool.eq_iff_iff]
        simp
      by_cases he : Os.D.sync.1 = 0
      · rw [decide_eq_false (by simpa using he), ifB_bool, if_neg (by simp)]
        exact hJJ _ _ ⟨he, F5, d5, s5⟩
      · rw [decide_eq_true he, ifB_bool, if_pos rfl]
        rw [e1] at hK1
        refine hK1 W3 F5 he d5 (stp2 _ _ (hS.mod.on s5.mod fun y hy => ?_) fun y hy => ?_)
        · rcases hS.nF y hy with h' | h'
          · exact .inl h'
          · exact .inr (by have := L.lv; omega)
        · rcases s5.sub y hy with h' | h'
          · exact hS.nF y h'
          · exact .inr (by have := hS.size; omega)
    · rintro s W' ⟨he, F5, d5, s5⟩
      unfold J42_1
      intro _
      rw [he] at e1
      refine fin _ F5 _ e1 d5 (hS.mod.on s5.mod fun y hy => ?_) (fun y hy => ?_) s5.mod
      · rcases hS.nF y hy with h' | h'
        · exact .inl h'
        · exact .inr (by have := L.lv; omega)
      · rcases s5.sub y hy with h' | h'
        · exact hS.nF y h'
        · exact .inr (by have := hS.size; omega)
end Go.Proofs
