/-
  The contract of law20's known.
  Conditions: none.
-/
import Derived.Test.YteldcaeicgobfaaVote9
set_option linter.unusedSimpArgs false
set_option linter.unusedVariables false
namespace Go.Proofs
open Go Go.Vc

theorem uMark : Try.prog.underlying 59 = some (.struct (Try.prog.fieldsOf 59)) := by kernel_rfl
theorem eq_mark (a b : MarkM) (w : World) : (Op.equalIn 10000 59 (.agg (markV a).toArray) (.agg (markV b).toArray)).run Try.prog w = .ok (decide (a = b)) w := by
  have h : Try.prog.stoodInHeld 59 = false := by kernel_rfl
  obtain ⟨a1, a2, a3, a4, a5⟩ := a
  obtain ⟨b1, b2, b3, b4, b5⟩ := b
  rw [run_equalIn_struct w 9999 59 _ _ uMark h]
  unfold Program.fieldsOf
  rw [Try.underlying59]
  simp only [markV]
  have e1 : ∀ (x y : Int) (w : World), (Op.equalIn 9999 27 (.int .u64 x) (.int .u64 y)).run Try.prog w = .ok (x == y) w := fun x y w => run_equalIn_int w 9998 27 .u64 .u64 x y (by kernel_rfl)
  have e2 : ∀ (x y : Int) (w : World), (Op.equalIn 9999 57 (.int .i8 x) (.int .i8 y)).run Try.prog w = .ok (x == y) w := fun x y w => run_equalIn_int w 9998 57 .i8 .i8 x y (by kernel_rfl)
  have e3 : ∀ (x y : Int) (w : World), (Op.equalIn 9999 5 (.int .u8 x) (.int .u8 y)).run Try.prog w = .ok (x == y) w := fun x y w => run_equalIn_int w 9998 5 .u8 .u8 x y (by kernel_rfl)
  simp [Op.eqFields, part, isAgg, go_sem, e1, e2, e3]
  have c : ∀ x y : Nat, ((x : Int) = y) = (x = y) := fun x y => propext ⟨fun h => by omega, fun h => by omega⟩
  have c3 : (a3.toNat = b3.toNat) = (a3 = b3) := propext ⟨fun h => UInt8.toNat_inj.1 h, fun h => by rw [h]⟩
  simp only [c, c3]
  by_cases h1 : a1 = b1 <;> by_cases h2 : a2 = b2 <;> by_cases h3 : a3 = b3 <;> by_cases h4 : a4 = b4 <;> by_cases h5 : a5 = b5 <;> simp [h1, h2, h3, h4, h5]
theorem neq_mark {a b : MarkM} (w : World) : (bin .neq 59 false (.agg (markV a).toArray) (.agg (markV b).toArray)).run Try.prog w = .ok (.bool (decide (a ≠ b))) w := by
  have := eq_mark a b w
  generalize (markV a).toArray = A at this
  generalize (markV b).toArray = B at this
  simp [go_sem, this, Result.andThen]
theorem eql_mark {a b : MarkM} (w : World) : (bin .eql 59 false (.agg (markV a).toArray) (.agg (markV b).toArray)).run Try.prog w = .ok (.bool (decide (a = b))) w := by
  have := eq_mark a b w
  generalize (markV a).toArray = A at this
  generalize (markV b).toArray = B at this
  simp [go_sem, this, Result.andThen]

set_option maxRecDepth 10000 in
theorem ca_known20 {w : World} {K : Kont} (hK : ∀ w', Mod (fun _ => False) w w' → K (.bool true) w') : Ca Try.prog 35 #[] w K := by
  apply ca35
  unfold F35
  refine ca_new fun w1 d1 m1 => ?_
  have hlt : w.heap.size < w1.heap.size := d1.lt d1.self
  obtain ⟨d, hd⟩ : ∃ d, w.heap.size = d := ⟨_, rfl⟩
  have s1 : Stp (fun b => b = d) w w1 (fun b => b = d) := ⟨m1.mono fun _ _ h => h.elim, fun b hb => .inl hb⟩
  rw [hd] at d1 hlt ⊢
  have new1 : ∀ w' (F' : Nat → Prop), Stp (fun b => b = d) w w' F' → (∀ b, F' b → d ≤ b) := fun w' F' h b hb => by
    rcases h.sub b hb with h | h <;> omega
  have fin : ∀ w' (F' : Nat → Prop), Stp (fun b => b = d) w w' F' → Mod (fun _ => False) w w' := fun w' F' h => h.mod.mono fun b hb e => by omega
  refine ca_vopen d1 (by simp [DM.new]) (fun w' F' h => absurd kn1_is.1 h) fun w2 F2 v _ d2 s2 lv vF hv => ?_
  rw [show DM.new.vopen 0 = kn1 from rfl] at d2 hv
  rw [kn1_is.2.1, kn1_is.2.2.1, kn1_is.2.2.2] at hv
  have s2 := s1.trans s2
  have vd : d ≤ v := by omega
  refine rv_of (v := dptr v) (w' := w2) (by simp [go_sem]) ?_
  refine rv_of (v := .int .i64 0) (w' := w2) (by simp [go_sem]) ?_
  refine joinK (fun s W => s = (.bool false, ()) ∧ ∃ F', DiskR W d F' kn2.2 ∧ Stp (fun b => b = d) w W F' ∧ ¬ F' v ∧ VoteAt W v d 0 mK3 1 0) (fun JJ hJJ => ?_) ?_
  · refine rv_of (v := .bool false) (w' := w2) (by simp [go_sem]) ?_
    rw [ifB_bool, if_neg (by simp)]
    refine ca_mark hv fun w3 m3 => ?_
    refine rv_of (v := .agg (markV mK0).toArray) (w' := w3) (by simp [go_sem, markV, mK0]) ?_
    refine rv_of (neq_mark _) ?_
    rw [ifB_bool, if_neg (by simp)]
    refine rv_of (v := .agg (markV mK3).toArray) (w' := w3) (by simp [go_sem, markV, mK3]) ?_
    have d3 := d2.mod m3 fun _ _ h => h
    have hv3 := m3.keep hv id
    have s3 : Stp (fun b => b = d) w w3 F2 := s2.on m3 fun b h => h.elim
    refine ca_vset hv3 vF d3 (by show kn1.2.D.waits.length < _; rw [show kn1.2.D.waits.length = 0 by kernel_rfl]; decide) (by decide) (by decide) (by simp [MarkM.ok, mK3]) (fun h => by cases h) (fun _ h => absurd kn2_is.1 h) fun _ _ w4 F4 d4 s4 hv4 vF4 => ?_
    have s4' : Stp (fun b => b = d) w w4 F4 := ⟨s3.mod.on s4.mod fun b hb => by
      rcases hb with hb | hb
      · have := new1 _ _ s3 b hb; right; omega
      · right; omega, fun b hb => by
      rcases s4.sub b hb with (hb | hb) | hb
      · exact s3.sub b hb
      · right; omega
      · have := s3.mod.size; right; omega⟩
    refine rv_of (v := .bool false) (w' := w4) (by simp [go_sem]) ?_
    rw [ifB_bool, if_neg (by simp)]
    refine ca_number hv4 ?_
    refine rv_of (v := .bool false) (w' := w4) (by simp [go_sem]) ?_
    exact hJJ _ _ ⟨rfl, F4, d4, s4', vF4, hv4⟩
  rintro _ w4 ⟨rfl, F4, d4, s4, vF4, hv4⟩
  unfold J35_1
  intro _
  rw [ifB_bool, if_neg (by simp)]
  refine joinK (fun s W => s = (.bool false, ()) ∧ ∃ F', DiskR W d F' kn5 ∧ Stp (fun b => b = d) w W F') (fun JJ hJJ => ?_) ?_
  · refine ca_arm d4 (by decide) fun w5 d5 m5 => ?_
    rw [show kn2.2.arm 2 = kn3 from rfl] at d5
    have s5 : Stp (fun b => b = d) w w5 F4 := s4.on m5 fun b h => by omega
    have hv5 := m5.keep hv4 (fun e => vF4 (e ▸ d4.self))
    refine rv_of (v := .bool false) (w' := w5) (by simp [go_sem, show (kn2.2.arm 2).1 = 0 from kn3_is]) ?_
    rw [ifB_bool, if_neg (by simp)]
    refine rv_of (v := .agg (markV mK4).toArray) (w' := w5) (by simp [go_sem, markV, mK4]) ?_
    have e4 : (kn3.2.vset 0 1 0 mK4).1 = 180 := kn4_is
    refine ca_vset hv5 vF4 d5 (by show kn3.2.waits.length < _; rw [show kn3.2.waits.length = 0 by kernel_rfl]; decide) (by decide) (by decide) (by simp [MarkM.ok, mK4]) (fun h => by cases h) (fun _ _ w6 F6 d6 s6 hv6 vF6 => ?_) (fun _ h => by rw [e4] at h; cases h)
    rw [e4]
    rw [show kn3.2.vset 0 1 0 mK4 = kn4 from rfl] at d6
    have s6 := s5.trans s6
    refine rv_of (v := .bool false) (w' := w6) (by simp [go_sem]) ?_
    rw [ifB_bool, if_neg (by simp)]
    refine lit1 (u := 3) fun vl w7 o7 m7 n7 => ?_
    have d7 := d6.mod m7 fun _ _ h => h
    refine ca_crash (keep := 2) (torn := [3]) d7 (by rw [show kn4.2.waits.length = 2 by kernel_rfl]; decide) (by decide) o7.rd (fun b hb => ?_) fun w8 F8 d8 s8 => ?_
    · refine ⟨fun h => ?_, o7.lt hb.sl⟩
      have := n7 b hb.sl
      have := d6.lt h
      omega
    have s8 := (s6.on m7 fun b h => h.elim).trans s8
    refine rv_of (v := .bool false) (w' := w8) (by simp [go_sem]) ?_
    exact hJJ _ _ ⟨rfl, F8, d8, s8⟩
  rintro _ w8 ⟨rfl, F8, d8, s8⟩
  unfold J35_0
  intro _
  rw [ifB_bool, if_neg (by simp)]
  refine ca_vopen d8 (by rw [show kn5.waits.length = 0 by kernel_rfl]; decide) (fun w' F' h => absurd kn6_is.1 h) fun w9 F9 v9 _ d9 s9 lv9 vF9 hv9 => ?_
  rw [show kn5.vopen 0 = kn6 from rfl, kn6_is.2.1, kn6_is.2.2] at hv9
  have s9 := s8.trans s9
  refine rv_of (v := dptr v9) (w' := w9) (by simp [go_sem]) ?_
  refine rv_of (v := .int .i64 0) (w' := w9) (by simp [go_sem]) ?_
  refine rv_of (v := .bool true) (w' := w9) (by simp [go_sem]) ?_
  rw [ifB_bool, if_pos rfl]
  refine ca_mark hv9 fun wa ma => ?_
  refine rv_of (v := .agg (markV mK3).toArray) (w' := wa) (by simp [go_sem, markV, mK3]) ?_
  refine rv_of (eql_mark _) ?_
  rw [ifB_bool, if_pos (by simp)]
  refine ca_number (ma.keep hv9 id) ?_
  refine rv_of (v := .bool true) (w' := wa) (by simp [go_sem]) ?_
  exact hK _ ((fin _ _ s9).trans ma)
end Go.Proofs
