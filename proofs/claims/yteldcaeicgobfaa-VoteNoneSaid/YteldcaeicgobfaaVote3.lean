/-
  The contract of vote.written.
  Conditions: none.
-/
import Derived.Test.YteldcaeicgobfaaVote2
set_option linter.unusedSimpArgs false
set_option linter.unusedVariables false
namespace Go.Proofs
open Go Go.Vc

theorem At.whole {W : World} {p : Nat} {T : TypeId} {l : List Value} {fz : Nat × Nat} (h : hp W p = some (.cells l.toArray T fz)) : At W p 0 l :=
  ⟨_, _, _, h, by rw [List.size_toArray]; omega, by simp only [List.drop_zero]; exact List.take_of_length_le (Nat.le_refl _)⟩
theorem slE : elemOk Try.prog 23 1 24 = true := by kernel_rfl
theorem Row.zero {W : World} {p : Nat} {T : TypeId} {C : List Value} {off : Nat} (h : W.heap[p]? = some (.cells C.toArray T (0, 0))) : Row W p T C off [] := ⟨by rw [bv_nil, lay_nil']; exact h⟩
theorem Row.rd {W : World} {p : Nat} {T : TypeId} {C0 : List Value} {off : Nat} {pre : List UInt8} (h : Row W p T C0 off pre) (hf : off + pre.length ≤ C0.length) (i n : Nat) (cap : Nat) (l : List UInt8) (hl : (pre.drop i).take n = l) (hn : l.length = n) (hi : i + n ≤ pre.length) (hc : n ≤ cap) :
    Rd W 1 (.slice (some ⟨p, off + i, none⟩) n cap) l.length (bv l) := by
  subst hn
  refine ⟨by simp, .inr ⟨p, off + i, cap, rfl, hc, _, _, _, h.at_, by rw [Row.size hf]; simp; omega, ?_⟩⟩
  show ((lay C0 off (bv pre)).drop (off + i)).take (bv l).length = bv l
  unfold lay
  have h1 : (C0.take off ++ bv pre ++ C0.drop (off + (bv pre).length)).drop (off + i) = (bv pre).drop i ++ C0.drop (off + (bv pre).length) := by
    rw [List.append_assoc, List.drop_append, List.drop_eq_nil_of_le (by simp; omega), List.nil_append]
    have : off + i - (C0.take off).length = i := by simp; omega
    rw [this, List.drop_append_of_le_length (by simp; omega)]
  rw [h1, List.take_append_of_le_length (by simp; omega), bv_drop, bv_take, bv_length, hl]

set_option maxRecDepth 10000 in
theorem ca_written {w : World} {K : Kont} {n : Nat} {m : MarkM} (hn : n < 18446744073709551616) (hm : m.ok) (hK : ∀ w', Mod (fun _ => False) w w' → K (.agg (bv (wr n m)).toArray) w') : Ca Try.prog 69 #[.int .u64 (n : Int), .agg (markV m).toArray] w K := by
  apply ca69
  unfold F69
  simp [go_sem]
  generalize hW : w.alloc _ = W
  have mW : Mod (fun _ => False) w W := by subst hW; exact (Mod.refl _ w).alloc _
  have hM : hp W w.heap.size = some (.cells (markV m).toArray 59 (0, 0)) := by subst hW; simp [go_sem]
  clear hW
  refine rx_bigA plT3 ?_
  rw [plT4]
  have e0 : bv (List.replicate 384 0) = bv (wrS n m 0) := by simp [wrS, wrN]
  rw [e0]
  have hp0 : hp (W.alloc (.cells (bv (wrS n m 0)).toArray 127)) W.heap.size = some (.cells (bv (wrS n m 0)).toArray 127 (0, 0)) := by simp only [hp_alloc, if_pos]
  have mP : Mod (fun _ => False) W (W.alloc (.cells (bv (wrS n m 0)).toArray 127)) := (Mod.refl _ W).alloc _
  generalize (W.alloc (.cells (bv (wrS n m 0)).toArray 127)) = W1 at hp0 mP
  obtain ⟨q, hq⟩ : ∃ q, w.heap.size = q := ⟨_, rfl⟩
  obtain ⟨p, hp'⟩ : ∃ p, W.heap.size = p := ⟨_, rfl⟩
  have hqp : q < p := by rw [← hq, ← hp']; exact lt_of_heap hM
  have hM1 := mP.keep hM id
  have t1 := mW.trans mP
  rw [hp'] at hp0 ⊢
  rw [hq] at hM1 ⊢
  clear hM mW mP hp' e0
  unfold L69_0
  refine loopK (fun s W' => ∃ i : Nat, i ≤ 3 ∧ s = (.int .i64 i, ()) ∧ Mod (fun _ => False) w W' ∧ hp W' q = some (.cells (markV m).toArray 59 (0, 0)) ∧ hp W' p = some (.cells (bv (wrS n m i)).toArray 127 (0, 0)))
    (fun s _ => match s.1 with | .int _ i => 3 - i.toNat | _ => 0) ⟨0, by omega, rfl, t1, hM1, hp0⟩ ?_
  clear t1 hM1 hp0
  rintro ⟨_, _⟩ W2 ⟨i, hi, ⟨⟩, m2, hM, hP⟩ KN hKN _
  have hw1 : IntKind.i64.wrap ((i : Int) + 1) = ((i + 1 : Nat) : Int) := by rw [IntKind.wrap_i64]; omega
  by_cases hlt : i < 3
  · have hlt' : (i : Int) < 3 := by omega
    have hu : IntKind.u8.wrap (((i + 1 : Nat) : Int)) = ((UInt8.ofNat (i + 1)).toNat : Int) := by rw [IntKind.wrap_u8]; simp
    have hMk : ∀ W', Mod (fun b => b = p) W2 W' → hp W' q = some (.cells #[.int .u64 (m.term : Int), .int .i8 m.for_, .int .u8 (m.file.toNat : Int), .int .u64 (m.base : Int), .int .u64 (m.bt : Int)] 59 (0, 0)) := fun W' mm => mm.keep hM (by show ¬ _ = _; omega)
    have hCl : (bv (wrS n m i)).length = 384 := by rw [bv_length, wrS_length n m i (by omega)]
    have r0 : Row W2 p 127 (bv (wrS n m i)) (i * 128) [] := Row.zero hP
    obtain ⟨a1, a2, a3, a4, a5⟩ := hm
    have hoff : i * 128 + 39 ≤ (bv (wrS n m i)).length := by omega
    simp [-Int.natCast_add, go_sem, hlt', hlt, hw1]
    rw [hu]
    have MP : ∀ {A B : World}, Mod (fun _ => False) A B → Mod (fun b => b = p) A B := fun h => h.mono fun _ _ h => h.elim
    refine litL [UInt8.ofNat (i + 1)] rfl rfl (by omega) fun v1 w3 o3 m3 n3 => ?_
    refine row_append (pre := []) (more := [UInt8.ofNat (i + 1)]) (r0.mod m3) o3.rd (by show i * 128 + 0 + 1 ≤ _; omega) (by simp) fun w4 p4 q4 l4 r4 m4 => ?_
    simp only [List.length_nil, List.length_cons] at l4
    refine row_append64 r4 hn (by omega) (by omega) fun w5 p5 q5 l5 r5 m5 => ?_
    have k5 := ((MP m3).trans m4).trans m5
    simp [-Int.natCast_add, go_sem, hMk w5 k5]
    refine row_append64 r5 a1 (by omega) (by omega) fun w6 p6 q6 l6 r6 m6 => ?_
    have k6 := k5.trans m6
    simp [-Int.natCast_add, go_sem, hMk w6 k6]
    rw [forB_eq _ a2 a3]
    refine litL [forB m.for_, m.file] rfl rfl (by omega) fun v7 w7 o7 m7 n7 => ?_
    refine row_append (more := [forB m.for_, m.file]) (r6.mod m7) o7.rd (by simp only [List.length_cons, List.length_nil]; omega) (by simp only [List.length_cons, List.length_nil]; omega) fun w8 p8 q8 l8 r8 m8 => ?_
    simp only [List.length_nil, List.length_cons] at l8
    have k8 := (k6.trans (MP m7)).trans m8
    simp [-Int.natCast_add, go_sem, hMk w8 k8]
    refine row_append64 r8 a4 (by omega) (by omega) fun w9 p9 q9 l9 r9 m9 => ?_
    have k9 := k8.trans m9
    simp [-Int.natCast_add, go_sem, hMk w9 k9]
    refine row_append64 r9 a5 (by omega) (by omega) fun wa pre qa la ra ma => ?_
    have ka := k9.trans ma
    have hpe : UInt8.ofNat (i + 1) :: hdr n m = pre := by rw [qa, q9, q8, q6, q5, q4]; simp [hdr]
    have hpl : pre.length = 35 := by omega
    have hd1 : (pre.drop 1).take 34 = hdr n m := by
      rw [← hpe]
      simp only [List.drop_succ_cons, List.drop_zero]
      exact List.take_of_length_le (by rw [hdr_length]; exact Nat.le_refl _)
    rw [hpl]
    simp [-Int.natCast_add, go_sem]
    refine rx_lit [.slice (some ⟨p, i * 128 + 1, none⟩) 34 127] Try.underlying108 (elemT_of slE) rfl rfl (by simp [Value.cells]) (by decide) ?_
    have mb : Mod (fun _ => False) wa (wa.alloc (.cells ([Value.slice (some ⟨p, i * 128 + 1, none⟩) 34 127].flatMap (·.cells.toList)).toArray 23)) := (Mod.refl _ wa).alloc _
    have hb : hp (wa.alloc (.cells ([Value.slice (some ⟨p, i * 128 + 1, none⟩) 34 127].flatMap (·.cells.toList)).toArray 23)) wa.heap.size = some (.cells [Value.slice (some ⟨p, i * 128 + 1, none⟩) 34 127].toArray 23 (0, 0)) := by simp [go_sem, Value.cells]
    generalize (wa.alloc (.cells ([Value.slice (some ⟨p, i * 128 + 1, none⟩) 34 127].flatMap (·.cells.toList)).toArray 23)) = wb at mb hb
    have rb := ra.mod mb
    have hrd : Rd wb 1 (.slice (some ⟨p, i * 128 + 1, none⟩) 34 127) (hdr n m).length (bv (hdr n m)) := rb.rd (by omega) 1 34 127 (hdr n m) hd1 (hdr_length n m) (by omega) (by omega)
    refine ca_crc (sl := .slice (some ⟨p, i * 128 + 1, none⟩) 34 127) (bs := hdr n m) ⟨rfl, .inr ⟨_, 0, 1, rfl, Nat.le_refl _, At.whole hb⟩⟩ hrd (by rw [hdr_length]; omega) fun wc mc => ?_
    have rc := rb.mod mc
    rw [← hpl]
    refine row_append32 rc (crcOf_lt _) (by omega) (by omega) fun wd pd qd ld rd md => ?_
    have kd := ((ka.trans (MP mb)).trans (MP mc)).trans md
    refine hKN _ _ ⟨i + 1, by omega, rfl, m2.on kd fun b hb => .inr (by omega), kd.keep hM (by show ¬ _ = _; omega), ?_⟩ (by simp; omega)
    have hfin := rd.at_
    have hbody : pre ++ be 4 (crcOf (hdr n m)) = body39 i n m := by rw [← hpe]; rfl
    rw [qd, hbody, wrS_lay n m i hlt] at hfin
    exact hfin
  · have : i = 3 := by omega
    subst this
    simp [go_sem]
    have e3 : wrS n m 3 = wr n m := by simp [wrS, wr]
    rw [e3] at hP
    have hl : (bv (wr n m)).length = 383 + 1 := by rw [← e3, bv_length, wrS_length n m 3 (by omega)]
    refine rx_bigS (bv (wr n m)) 383 plT1 plT2 hl (At.whole hP) ?_
    refine rux_bigU plT2 hl hP (by rw [List.size_toArray]; omega) (bv_one _) ?_
    have hlay : lay (bv (wr n m)).toArray.toList 0 (bv (wr n m)) = bv (wr n m) := lay_all rfl
    rw [hlay]
    have h2 : hp (W2.setRow p (bv (wr n m)).toArray) p = some (.cells (bv (wr n m)).toArray 127 (0, 0)) := by
      rw [hp_setRow, if_pos rfl, hP]
    refine rdX_bigS (b := p) (off := 0) (bv (wr n m)) 383 plT1 plT2 hl (At.whole h2) ?_
    exact hK _ (m2.setRow (.inr (by omega)) _)
end Go.Proofs
