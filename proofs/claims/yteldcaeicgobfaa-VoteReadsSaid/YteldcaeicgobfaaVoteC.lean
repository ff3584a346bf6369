/-
  The runs of law20's known, as data.
  The contract of law20's known.
  The walk of VoteNone.
  Conditions: where they ask for any, each theorem names them.
-/
import Derived.Test.YteldcaeicgobfaaVoteB
set_option linter.unusedSimpArgs false
set_option linter.unusedVariables false
namespace Go.Proofs
open Go Go.Vc

def mK0 : MarkM := ⟨0, -1, 0, 0, 0⟩
def mK3 : MarkM := ⟨3, 1, 0, 0, 0⟩
def mK4 : MarkM := ⟨4, 0, 0, 0, 0⟩
def kn1 : Int × OpenS := DM.new.vopen 0
def kn2 : Int × DM := kn1.2.D.vset 0 0 1 mK3
def kn3 : Int × DM := kn2.2.arm 2
def kn4 : Int × DM := kn3.2.vset 0 1 0 mK4
def kn5 : DM := kn4.2.crash 2 [3]
def kn6 : Int × OpenS := kn5.vopen 0
theorem kn1_is : kn1.1 = 0 ∧ kn1.2.m = mK0 ∧ kn1.2.n = 0 ∧ kn1.2.at_ = 1 := by
  refine ⟨?_, ?_, ?_, ?_⟩ <;> kernel_rfl
theorem kn2_is : kn2.1 = 0 ∧ kn2.2.off = false ∧ kn2.2.waits.length = 0 := by
  refine ⟨?_, ?_, ?_⟩ <;> kernel_rfl
theorem kn3_is : kn3.1 = 0 := by kernel_rfl
theorem kn4_is : kn4.1 = 180 := by kernel_rfl
theorem kn6_is : kn6.1 = 0 ∧ kn6.2.m = mK3 ∧ kn6.2.n = 1 := by
  refine ⟨?_, ?_, ?_⟩ <;> kernel_rfl
end Go.Proofs

namespace Go.Proofs
open Go Go.Vc

theorem uMark : Try.prog.underlying 59 = some (.struct (Try.prog.fieldsOf 59)) := by kernel_rfl
theorem eq_mark (a b : MarkM) (w : World) : (Op.equalIn 10000 59 (.agg (markV a).toArray) (.agg (markV b).toArray)).run Try.prog w = .ok (decide (a = b)) w := by
  have h : Try.prog.stoodInHeld 59 = false := by kernel_rfl
  obtain ⟨a1, a2, a3, a4, a5⟩ := a
  obtain ⟨b1, b2, b3, b4, b5⟩ := b
  rw [run_equalIn_struct w 9999 59 _ _ uMark h]
  unfold Program.fieldsOf
  rw [Try.underlying59]
  simp only [markV]
  have e1 : ∀ (x y : Int) (w : World), (Op.equalIn 9999 27 (.int .u64 x) (.int .u64 y)).run Try.prog w = .ok (x == y) w := fun x y w => run_equalIn_int w 9998 27 .u64 .u64 x y (by kernel_rfl)
  have e2 : ∀ (x y : Int) (w : World), (Op.equalIn 9999 57 (.int .i8 x) (.int .i8 y)).run Try.prog w = .ok (x == y) w := fun x y w => run_equalIn_int w 9998 57 .i8 .i8 x y (by kernel_rfl)
  have e3 : ∀ (x y : Int) (w : World), (Op.equalIn 9999 5 (.int .u8 x) (.int .u8 y)).run Try.prog w = .ok (x == y) w := fun x y w => run_equalIn_int w 9998 5 .u8 .u8 x y (by kernel_rfl)
  simp [Op.eqFields, part, isAgg, go_sem, e1, e2, e3]
  have c : ∀ x y : Nat, ((x : Int) = y) = (x = y) := fun x y => propext ⟨fun h => by omega, fun h => by omega⟩
  have c3 : (a3.toNat = b3.toNat) = (a3 = b3) := propext ⟨fun h => UInt8.toNat_inj.1 h, fun h => by rw [h]⟩
  simp only [c, c3]
  by_cases h1 : a1 = b1 <;> by_cases h2 : a2 = b2 <;> by_cases h3 : a3 = b3 <;> by_cases h4 : a4 = b4 <;> by_cases h5 : a5 = b5 <;> simp [h1, h2, h3, h4, h5]
theorem neq_mark {a b : MarkM} (w : World) : (bin .neq 59 false (.agg (markV a).toArray) (.agg (markV b).toArray)).run Try.prog w = .ok (.bool (decide (a ≠ b))) w := by
  have := eq_mark a b w
  generalize (markV a).toArray = A at this
  generalize (markV b).toArray = B at this
  simp [go_sem, this, Result.andThen]
theorem eql_mark {a b : MarkM} (w : World) : (bin .eql 59 false (.agg (markV a).toArray) (.agg (markV b).toArray)).run Try.prog w = .ok (.bool (decide (a = b))) w := by
  have := eq_mark a b w
  generalize (markV a).toArray = A at this
  generalize (markV b).toArray = B at this
  simp [go_sem, this, Result.andThen]

set_option maxRecDepth 10000 in
theorem ca_known20 {w : World} {K : Kont} (hK : ∀ w', Mod (fun _ => False) w w' → K (.bool true) w') : Ca Try.prog 35 #[] w K := by
  apply ca35
  unfold F35
  refine ca_new fun w1 d1 m1 => ?_
  have hlt : w.heap.size < w1.heap.size := d1.lt d1.self
  obtain ⟨d, hd⟩ : ∃ d, w.heap.size = d := ⟨_, rfl⟩
  have s1 : Stp (fun b => b = d) w w1 (fun b => b = d) := ⟨m1.mono fun _ _ h => h.elim, fun b hb => .inl hb⟩
  rw [hd] at d1 hlt ⊢
  have new1 : ∀ w' (F' : Nat → Prop), Stp (fun b => b = d) w w' F' → (∀ b, F' b → d ≤ b) := fun w' F' h b hb => by
    rcases h.sub b hb with h | h <;> omega
  have fin : ∀ w' (F' : Nat → Prop), Stp (fun b => b = d) w w' F' → Mod (fun _ => False) w w' := fun w' F' h => h.mod.mono fun b hb e => by omega
  refine ca_vopen d1 (by simp [DM.new]) (fun w' F' h => absurd kn1_is.1 h) fun w2 F2 v _ d2 s2 lv vF hv => ?_
  rw [show DM.new.vopen 0 = kn1 from rfl] at d2 hv
  rw [kn1_is.2.1, kn1_is.2.2.1, kn1_is.2.2.2] at hv
  have s2 := s1.trans s2
  have vd : d ≤ v := by omega
  refine rv_of (v := dptr v) (w' := w2) (by simp [go_sem]) ?_
  refine rv_of (v := .int .i64 0) (w' := w2) (by simp [go_sem]) ?_
  refine joinK (fun s W => s = (.bool false, ()) ∧ ∃ F', DiskR W d F' kn2.2 ∧ Stp (fun b => b = d) w W F' ∧ ¬ F' v ∧ VoteAt W v d 0 mK3 1 0) (fun JJ hJJ => ?_) ?_
  · refine rv_of (v := .bool false) (w' := w2) (by simp [go_sem]) ?_
    rw [ifB_bool, if_neg (by simp)]
    refine ca_mark hv fun w3 m3 => ?_
    refine rv_of (v := .agg (markV mK0).toArray) (w' := w3) (by simp [go_sem, markV, mK0]) ?_
    refine rv_of (neq_mark _) ?_
    rw [ifB_bool, if_neg (by simp)]
    refine rv_of (v := .agg (markV mK3).toArray) (w' := w3) (by simp [go_sem, markV, mK3]) ?_
    have d3 := d2.mod m3 fun _ _ h => h
    have hv3 := m3.keep hv id
    have s3 : Stp (fun b => b = d) w w3 F2 := s2.on m3 fun b h => h.elim
    refine ca_vset hv3 vF d3 (by show kn1.2.D.waits.length < _; rw [show kn1.2.D.waits.length = 0 by kernel_rfl]; decide) (by decide) (by decide) (by simp [MarkM.ok, mK3]) (fun h => by cases h) (fun _ h => absurd kn2_is.1 h) fun _ _ w4 F4 d4 s4 hv4 vF4 => ?_
    have s4' : Stp (fun b => b = d) w w4 F4 := ⟨s3.mod.on s4.mod fun b hb => by
      rcases hb with hb | hb
      · have := new1 _ _ s3 b hb; right; omega
      · right; omega, fun b hb => by
      rcases s4.sub b hb with (hb | hb) | hb
      · exact s3.sub b hb
      · right; omega
      · have := s3.mod.size; right; omega⟩
    refine rv_of (v := .bool false) (w' := w4) (by simp [go_sem]) ?_
    rw [ifB_bool, if_neg (by simp)]
    refine ca_number hv4 ?_
    refine rv_of (v := .bool false) (w' := w4) (by simp [go_sem]) ?_
    exact hJJ _ _ ⟨rfl, F4, d4, s4', vF4, hv4⟩
  rintro _ w4 ⟨rfl, F4, d4, s4, vF4, hv4⟩
  unfold J35_1
  intro _
  rw [ifB_bool, if_neg (by simp)]
  refine joinK (fun s W => s = (.bool false, ()) ∧ ∃ F', DiskR W d F' kn5 ∧ Stp (fun b => b = d) w W F') (fun JJ hJJ => ?_) ?_
  · refine ca_arm d4 (by decide) fun w5 d5 m5 => ?_
    rw [show kn2.2.arm 2 = kn3 from rfl] at d5
    have s5 : Stp (fun b => b = d) w w5 F4 := s4.on m5 fun b h => by omega
    have hv5 := m5.keep hv4 (fun e => vF4 (e ▸ d4.self))
    refine rv_of (v := .bool false) (w' := w5) (by simp [go_sem, show (kn2.2.arm 2).1 = 0 from kn3_is]) ?_
    rw [ifB_bool, if_neg (by simp)]
    refine rv_of (v := .agg (markV mK4).toArray) (w' := w5) (by simp [go_sem, markV, mK4]) ?_
    have e4 : (kn3.2.vset 0 1 0 mK4).1 = 180 := kn4_is
    refine ca_vset hv5 vF4 d5 (by show kn3.2.waits.length < _; rw [show kn3.2.waits.length = 0 by kernel_rfl]; decide) (by decide) (by decide) (by simp [MarkM.ok, mK4]) (fun h => by cases h) (fun _ _ w6 F6 d6 s6 hv6 vF6 => ?_) (fun _ h => by rw [e4] at h; cases h)
    rw [e4]
    rw [show kn3.2.vset 0 1 0 mK4 = kn4 from rfl] at d6
    have s6 := s5.trans s6
    refine rv_of (v := .bool false) (w' := w6) (by simp [go_sem]) ?_
    rw [ifB_bool, if_neg (by simp)]
    refine lit1 (u := 3) fun vl w7 o7 m7 n7 => ?_
    have d7 := d6.mod m7 fun _ _ h => h
    refine ca_crash (keep := 2) (torn := [3]) d7 (by rw [show kn4.2.waits.length = 2 by kernel_rfl]; decide) (by decide) o7.rd (fun b hb => ?_) fun w8 F8 d8 s8 => ?_
    · refine ⟨fun h => ?_, o7.lt hb.sl⟩
      have := n7 b hb.sl
      have := d6.lt h
      omega
    have s8 := (s6.on m7 fun b h => h.elim).trans s8
    refine rv_of (v := .bool false) (w' := w8) (by simp [go_sem]) ?_
    exact hJJ _ _ ⟨rfl, F8, d8, s8⟩
  rintro _ w8 ⟨rfl, F8, d8, s8⟩
  unfold J35_0
  intro _
  rw [ifB_bool, if_neg (by simp)]
  refine ca_vopen d8 (by rw [show kn5.waits.length = 0 by kernel_rfl]; decide) (fun w' F' h => absurd kn6_is.1 h) fun w9 F9 v9 _ d9 s9 lv9 vF9 hv9 => ?_
  rw [show kn5.vopen 0 = kn6 from rfl, kn6_is.2.1, kn6_is.2.2] at hv9
  have s9 := s8.trans s9
  refine rv_of (v := dptr v9) (w' := w9) (by simp [go_sem]) ?_
  refine rv_of (v := .int .i64 0) (w' := w9) (by simp [go_sem]) ?_
  refine rv_of (v := .bool true) (w' := w9) (by simp [go_sem]) ?_
  rw [ifB_bool, if_pos rfl]
  refine ca_mark hv9 fun wa ma => ?_
  refine rv_of (v := .agg (markV mK3).toArray) (w' := wa) (by simp [go_sem, markV, mK3]) ?_
  refine rv_of (eql_mark _) ?_
  rw [ifB_bool, if_pos (by simp)]
  refine ca_number (ma.keep hv9 id) ?_
  refine rv_of (v := .bool true) (w' := wa) (by simp [go_sem]) ?_
  exact hK _ ((fin _ _ s9).trans ma)
end Go.Proofs

namespace Go.Proofs
open Go Go.Vc

theorem readP_zero : readP z384 = (0, mark0) := by
  have h : rawNum z384 = 0 := by kernel_rfl
  unfold readP
  rw [if_pos (.inl h)]
theorem readB_new (file : Int) : DM.new.readB file 0 6 = List.replicate 768 0 := by kernel_rfl
theorem place_z0 : placeI (List.replicate 768 0) 0 = z384 := by kernel_rfl
theorem place_z1 : placeI (List.replicate 768 0) 1 = z384 := by kernel_rfl
theorem vopen_new {file : Int} (h1 : 0 ≤ file) (h2 : file < 5) : DM.new.vopen file = (0, open0 DM.new) := by
  have hm : mayB file 0 6 = true := by simp [mayB, h1, h2]
  have r : ∀ i, i < 2 → vround file (List.replicate 768 0) i (open0 DM.new) = (0, open0 DM.new) := by
    intro i hi
    have e : placeI (List.replicate 768 0) i = z384 := by
      have : i = 0 ∨ i = 1 := by omega
      rcases this with rfl | rfl
      · exact place_z0
      · exact place_z1
    unfold vround
    rw [e, readP_zero]
    simp [open0]
  unfold DM.vopen
  rw [if_neg (by simp [DM.new]), if_neg (by simp [hm]), readB_new]
  unfold vgo
  rw [r 0 (by omega), if_pos rfl]
  unfold vgo
  rw [r 1 (by omega), if_pos rfl]
  rfl
theorem vopen_not {file : Int} (h : ¬ (0 ≤ file ∧ file < 5)) : DM.new.vopen file = (2, open0 DM.new) := by
  have hm : mayB file 0 6 = false := by
    simp [mayB]
    omega
  unfold DM.vopen
  rw [if_neg (by simp [DM.new]), if_pos hm]

def T7 (v0 v16 : Value) (K : Kont) (w29 : World) : Prop :=
 rv Try.prog (Instr.loadAt 59 v0) w29 fun v30 w31 =>
 Ca Try.prog 32 #[(.pointer none), v30] w31 fun v32 w33 =>
 rv Try.prog (bin .eql 28 true v32 (.int .i64 1)) w33 fun v34 w35 =>
 ifB v34
 (rv Try.prog (Instr.loadAt 59 v0) w35 fun v36 w37 =>
 Ca Try.prog 32 #[v16, v36] w37 fun v38 w39 =>
 rv Try.prog (bin .eql 28 true v38 (.int .i64 1)) w39 fun v40 w41 =>
 ifB v40
 (Ca Try.prog 33 #[(.pointer none)] w41 fun v42 w43 =>
 rv Try.prog (Instr.build 59 #[]) w43 fun v44 w45 =>
 rv Try.prog (bin .eql 59 false v42 v44) w45 fun v46 w47 =>
 ifB v46
 (Ca Try.prog 33 #[v16] w47 fun v48 w49 =>
 rv Try.prog (Instr.build 59 #[]) w49 fun v50 w51 =>
 rv Try.prog (bin .eql 59 false v48 v50) w51 fun v52 w53 =>
 ifB v52
 (Ca Try.prog 34 #[(.pointer none)] w53 fun v54 w55 =>
 rv Try.prog (bin .eql 27 true v54 (.int .u64 0)) w55 fun v56 w57 =>
 ifB v56
 (Ca Try.prog 34 #[v16] w57 fun v58 w59 =>
 rv Try.prog (bin .eql 27 true v58 (.int .u64 0)) w59 fun v60 w61 =>
 ifB v60
 (Ca Try.prog 35 #[] w61 fun v62 w63 =>
 K v62 w63)
 (K (.bool false) w61))
 (K (.bool false) w57))
 (K (.bool false) w53))
 (K (.bool false) w47))
 (K (.bool false) w41))
 (K (.bool false) w35)
theorem T7_ok {w : World} {K : Kont} {q v : Nat} {m : MarkM} (hq : hp w q = some (.cells (markV m).toArray 59 (0, 0))) (hv : hp w v = some (.cells zeroVote.toArray 64 (0, 0))) (hK : ∀ w', Mod (fun _ => False) w w' → K (.bool true) w') :
    T7 (.pointer (some ⟨q, 0, none⟩)) (.pointer (some ⟨v, 0, none⟩)) K w := by
  have hv : NoVote w (dptr v) := .inr ⟨v, rfl, hv⟩
  have hn : NoVote w (.pointer none) := .inl rfl
  unfold T7
  refine rv_of (ld_mark hq) ?_
  refine ca_set_no hn fun w1 m1 => ?_
  refine rv_of (v := .bool true) (w' := w1) (by simp [go_sem]) ?_
  rw [ifB_bool, if_pos rfl]
  refine rv_of (ld_mark (m1.keep hq id)) ?_
  refine ca_set_no (hv.mod m1) fun w2 m2 => ?_
  have t2 := m1.trans m2
  refine rv_of (v := .bool true) (w' := w2) (by simp [go_sem]) ?_
  rw [ifB_bool, if_pos rfl]
  refine ca_mark_no (hn.mod t2) fun w3 m3 => ?_
  have t3 := t2.trans m3
  refine rv_of (v := .agg (markV mark0).toArray) (w' := w3) (by simp [go_sem, markV, mark0]) ?_
  refine rv_of (eql_mark _) ?_
  rw [ifB_bool, if_pos (by simp)]
  refine ca_mark_no (hv.mod t3) fun w4 m4 => ?_
  have t4 := t3.trans m4
  refine rv_of (v := .agg (markV mark0).toArray) (w' := w4) (by simp [go_sem, markV, mark0]) ?_
  refine rv_of (eql_mark _) ?_
  rw [ifB_bool, if_pos (by simp)]
  refine ca_number_no (hn.mod t4) ?_
  refine rv_of (v := .bool true) (w' := w4) (by simp [go_sem]) ?_
  rw [ifB_bool, if_pos rfl]
  refine ca_number_no (hv.mod t4) ?_
  refine rv_of (v := .bool true) (w' := w4) (by simp [go_sem]) ?_
  rw [ifB_bool, if_pos rfl]
  exact ca_known20 fun w5 m5 => hK _ (t4.trans m5)

theorem ca_voteNone {w : World} {K : Kont} {file : Int} {m : MarkM} (hK : ∀ w', Mod (fun _ => False) w w' → K (.bool true) w') : Ca Try.prog 7 #[.int .i64 file, .agg (markV m).toArray] w K := by
  apply ca7
  unfold F7
  refine rv_box ?_
  have mA : Mod (fun _ => False) w (w.alloc (.cells (markV m).toArray 59)) := (Mod.refl _ w).alloc _
  have hA : hp (w.alloc (.cells (markV m).toArray 59)) w.heap.size = some (.cells (markV m).toArray 59 (0, 0)) := by simp only [hp_alloc, if_pos]
  generalize (w.alloc (.cells (markV m).toArray 59)) = W at mA hA
  obtain ⟨q, hq⟩ : ∃ q, w.heap.size = q := ⟨_, rfl⟩
  rw [hq] at hA ⊢
  refine ca_vopen_nil ?_
  refine rv_of (v := .pointer none) (w' := W) (by simp [go_sem]) ?_
  refine rv_of (v := .int .i64 1) (w' := W) (by simp [go_sem]) ?_
  refine ca_new fun w1 d1 m1 => ?_
  have lW : W.heap.size = q + 1 ∨ q < W.heap.size := .inr (lt_of_heap hA)
  have hal : ∀ W, (Instr.alloc 64 true (.tuple #[])).run Try.prog W = .ok (.pointer (some ⟨W.heap.size, 0, none⟩)) (W.alloc (.cells zeroVote.toArray 64)) := fun W => by simp [go_sem, zeroVote]
  have t1 := mA.trans m1
  have sub1 : ∀ b, b = W.heap.size → w.heap.size ≤ b := fun b e => by have := mA.size; omega
  have fin : ∀ w2, Mod (fun _ => False) w w2 → hp w2 q = some (.cells (markV m).toArray 59 (0, 0)) → T7 (.pointer (some ⟨q, 0, none⟩)) (.pointer (some ⟨w2.heap.size, 0, none⟩)) K (w2.alloc (.cells zeroVote.toArray 64)) := fun w2 t2 hq2 => by
    have ma : Mod (fun _ => False) w2 (w2.alloc (.cells zeroVote.toArray 64)) := (Mod.refl _ w2).alloc _
    exact T7_ok (ma.keep hq2 id) (by simp only [hp_alloc, if_pos]) fun w' m' => hK _ ((t2.trans ma).trans m')
  have hA1 := m1.keep hA id
  by_cases hf : 0 ≤ file ∧ file < 5
  · have e := vopen_new hf.1 hf.2
    refine ca_vopen d1 (by simp [DM.new]) (fun w' F' h => absurd (by rw [e]) h) fun w2 F2 v _ d2 s2 lv vF hv => ?_
    have t2 : Mod (fun _ => False) w w2 := t1.on s2.mod fun b h => .inr (sub1 b h)
    have hA2 := s2.mod.keep hA1 (fun h => by omega)
    refine rv_of (v := dptr v) (w' := w2) (by simp [go_sem]) ?_
    refine rv_of (v := .int .i64 0) (w' := w2) (by simp [go_sem]) ?_
    refine rv_of (hal w2) ?_
    refine rv_of (v := .bool true) (by simp [go_sem]; rfl) ?_
    rw [ifB_bool, if_pos rfl]
    refine rv_of (v := .bool true) (by simp [go_sem]; rfl) ?_
    rw [ifB_bool, if_pos rfl]
    refine rv_of (v := .bool true) (by simp [go_sem]; rfl) ?_
    refine rv_of (v := .bool true) (by simp [go_sem, hf.1]; rfl) ?_
    rw [ifB_bool, if_pos rfl]
    refine rv_of (v := .bool true) (by simp [go_sem, hf.2]; rfl) ?_
    refine rv_of (v := .bool true) (by simp [go_sem]; rfl) ?_
    rw [ifB_bool, if_pos rfl]
    exact fin w2 t2 hA2
  · have e := vopen_not hf
    refine ca_vopen d1 (by simp [DM.new]) (fun w2 F2 _ d2 s2 => ?_) fun w' F' v h => absurd h (by rw [e]; simp)
    rw [e]
    have t2 : Mod (fun _ => False) w w2 := t1.on s2.mod fun b h => .inr (sub1 b h)
    have hA2 := s2.mod.keep hA1 (fun h => by omega)
    refine rv_of (v := .pointer none) (w' := w2) (by simp [go_sem]) ?_
    refine rv_of (v := .int .i64 2) (w' := w2) (by simp [go_sem]) ?_
    refine rv_of (hal w2) ?_
    refine rv_of (v := .bool true) (by simp [go_sem]; rfl) ?_
    rw [ifB_bool, if_pos rfl]
    refine rv_of (v := .bool false) (by simp [go_sem]; rfl) ?_
    rw [ifB_bool, if_neg (by simp)]
    refine rv_of (v := .bool true) (by simp [go_sem]; rfl) ?_
    rw [ifB_bool, if_pos rfl]
    refine rv_of (v := .bool false) (by simp [go_sem]; rfl) ?_
    by_cases h0 : 0 ≤ file
    · have h5 : ¬ file < 5 := fun h => hf ⟨h0, h⟩
      refine rv_of (v := .bool true) (by simp [go_sem, h0]; rfl) ?_
      rw [ifB_bool, if_pos rfl]
      refine rv_of (v := .bool false) (by simp [go_sem, h5]; rfl) ?_
      refine rv_of (v := .bool true) (by simp [go_sem]; rfl) ?_
      rw [ifB_bool, if_pos rfl]
      exact fin w2 t2 hA2
    · refine rv_of (v := .bool false) (by simp [go_sem, h0]; rfl) ?_
      rw [ifB_bool, if_neg (by simp)]
      refine rv_of (v := .bool true) (by simp [go_sem]; rfl) ?_
      rw [ifB_bool, if_pos rfl]
      exact fin w2 t2 hA2
end Go.Proofs
