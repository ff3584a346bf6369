/-
  The contract of Write.
  Conditions: the memory holds the disk and the slice.
-/
import Derived.Test.YteldcaeicgobfaaDisk5
import Derived.Test.YteldcaeicgobfaaChunk
set_option linter.unusedSimpArgs false
set_option linter.unusedVariables false
namespace Go.Proofs
open Go Go.Vc

def DM.write1 : DM → Int → Int → List Sec → Int × DM
  | D, _, _, [] => (0, D)
  | D, f, a, c :: cs => if D.step.1 then DM.write1 { D.step.2 with waits := D.step.2.waits ++ [((f, a), c)] } f (a + 1) cs else (180, D.step.2)
def chunks (bs : List UInt8) (k : Nat) : List Sec := (List.range k).map fun i => (bs.drop (128 * i)).take 128
def DM.write (D : DM) (f a : Int) (bs : List UInt8) : Int × DM :=
  if D.off then (180, D) else if bs.length % 128 = 0 ∧ mayB f a ((bs.length / 128 : Nat) : Int) = true then D.write1 f a (chunks bs (bs.length / 128)) else (2, D)

theorem builtPut2 (x y : Int) {S : Sec} (h : S.length = 128) : Try.prog.built 116 [(0, .agg #[.int .i64 x, .int .i64 y]), (1, .agg (bv S).toArray)] = some (cellsPut ((x, y), S)).toArray := by
  have h1 : ∀ parts, Try.prog.built 116 parts = Instr.fill (fun i => #[(0, 2), (2, 128)][i]?) (zeroC Try.prog 116).toArray parts := fun parts => by kernel_rfl
  have h2 : zeroC Try.prog 116 = cellsPut ((0, 0), zsec) := by kernel_rfl
  have e1 : lay (cellsPut ((0, 0), zsec)) 0 [.int .i64 x, .int .i64 y] = cellsPut ((x, y), zsec) := by simp [lay, cellsPut]
  have e2 : lay (cellsPut ((x, y), zsec)) 2 (bv S) = cellsPut ((x, y), S) := by
    simp only [lay, cellsPut, List.take_succ_cons, List.take_zero, bv_length, h, List.drop_succ_cons, show (2 + 128) = 128 + 1 + 1 from rfl]
    rw [List.drop_of_length_le (by simp [zsec_length])]
    simp
  rw [h1, h2, fill_part (off := 0) (size := 2) rfl rfl (by rw [cellsPut_length zsec_length]; omega)]
  rw [show (Value.agg #[.int .i64 x, .int .i64 y]).cells.toList = [.int .i64 x, .int .i64 y] from rfl, e1]
  rw [fill_part (off := 2) (size := 128) rfl (by simp [Value.cells, h]) (by rw [cellsPut_length zsec_length]; omega)]
  rw [show (Value.agg (bv S).toArray).cells.toList = bv S from rfl, e2, fill_nil]

theorem pE : elemOk Try.prog 116 130 144 = true := by kernel_rfl

theorem retD_hp {d : Nat} {ds : List Nat} {w : World} {K : World → Prop} : retD (d :: ds) w K ↔ hp w d = some (.deferred (some [])) ∧ retD ds (w.putObj d (.deferred none)) K := Iff.rfl
theorem retD_nil {w : World} {K : World → Prop} : retD [] w K ↔ K w := Iff.rfl
theorem chunks_len (bs : List UInt8) (k : Nat) (h : 128 * k ≤ bs.length) : ∀ c ∈ chunks bs k, c.length = 128 := by
  intro c hc
  obtain ⟨i, hi, rfl⟩ := List.mem_map.1 hc
  have := List.mem_range.1 hi
  simp only [List.length_take, List.length_drop]
  omega

set_option maxRecDepth 10000 in
theorem ca_write {w : World} {d : Nat} {F : Nat → Prop} {D : DM} {K : Kont} {f a : Int} {v : Value} {n : Nat} {bs : List UInt8} (h : DiskR w d F D) (hv : Rd w 1 v n (bv bs)) (hvF : ∀ b, inRd v b → ¬ F b ∧ b < w.heap.size)
    (hn : bs.length < 1099511627776) (hD : D.waits.length < 549755813888)
    (hK : ∀ w' F', DiskR w' d F' (D.write f a bs).2 → Stp F w w' F' → K (.int .i64 (D.write f a bs).1) w') :
    Ca Try.prog 17 #[dptr d, .int .i64 f, .int .i64 a, v] w K := by
  have h0 := h
  have hnl : n = bs.length := by simpa using hv.1.symm
  subst hnl
  obtain ⟨va, vc, rfl⟩ := Rd.isSl hv
  apply ca17
  unfold F17
  simp [go_sem, dptr]
  generalize hW : (((w.alloc _).alloc _).alloc _).alloc _ = W
  have m1 : Mod (fun _ => False) w W := by subst hW; exact ((((Mod.refl _ w).alloc _).alloc _).alloc _).alloc _
  have f0 : hp W w.heap.size = some (.cells #[.pointer (some ⟨d, 0, none⟩)] 25 (0, 0)) := by subst hW; simp [go_sem]
  have f1 : hp W (w.heap.size + 1) = some (.cells #[.int .i64 f] 3 (0, 0)) := by subst hW; simp [go_sem]
  have f2 : hp W (w.heap.size + 2) = some (.cells #[.int .i64 a] 3 (0, 0)) := by subst hW; simp [go_sem]
  have f3 : ∃ z, hp W (w.heap.size + 3) = some (.cells #[z] 28 (0, 0)) := by subst hW; simp [go_sem]
  have sW : W.heap.size = w.heap.size + 4 := by subst hW; simp [go_sem]
  have hW0 : DiskR W d F D := h.mod m1 fun _ _ h => h
  have hvW : Rd W 1 (.slice va bs.length vc) bs.length (bv bs) := hv.mod m1 fun _ _ h => h
  have s1 : Stp F w W F := ⟨m1.mono fun _ _ h => h.elim, fun b hb => .inl hb⟩
  obtain ⟨z, f3⟩ := f3
  clear hW
  refine ca_ready hW0 ?_
  unfold DM.write at hK
  cases ho : D.off
  · simp only [ho, Bool.false_eq_true, if_false] at hK
    have htm : ((bs.length : Int).tmod 128 = 0) = (bs.length % 128 = 0) := by
      rw [Int.tmod_eq_emod_of_nonneg (by omega)]
      simp; omega
    obtain ⟨k, hk⟩ : ∃ k, bs.length / 128 = k := ⟨_, rfl⟩
    rw [hk] at hK
    have hdv : IntKind.i64.wrap ((bs.length : Int) / 128) = (k : Int) := by rw [IntKind.wrap_i64]; omega
    have mset : ∀ v, Stp F w (W.setCell ⟨w.heap.size + 3, 0, none⟩ v) F := fun v => ⟨s1.mod.setCell (.inr (by omega)) 0 v, fun b hb => .inl hb⟩
    have dset : ∀ v, DiskR (W.setCell ⟨w.heap.size + 3, 0, none⟩ v) d F D := fun v => hW0.mod ((Mod.refl (fun b => b = w.heap.size + 3) W).setCell (b := w.heap.size + 3) (.inl (by simp)) 0 v) fun b hb e => by have := h0.lt hb; omega
    by_cases hmod : bs.length % 128 = 0
    · have hmod' : (bs.length : Int).tmod 128 = 0 := by rw [htm]; exact hmod
      simp [go_sem, f0, f1, f2, f3, hmod', hdv]
      refine ca_may ?_
      cases hm : mayB f a (k : Int)
      · simp [hmod, hm] at hK
        simp [go_sem, f3]
        exact hK _ _ (dset _) (mset _)
      · simp [hmod, hm] at hK
        simp [go_sem, f3]
        simp only [mayB, decide_eq_true_eq] at hm
        obtain ⟨q1, q2, q3, q4, q5, q6⟩ := hm
        have hlen : bs.length = 128 * k := by omega
        refine ca_chunk (by omega) fun W1 mW1 c1 c2 => ?_
        obtain ⟨b, off, cap, hva, hcap, hAt⟩ : ∃ b off cap, va = some ⟨b, off, none⟩ ∧ bs.length ≤ vc ∧ At W b off (bv bs) := by
          obtain ⟨_, ⟨h0, _⟩ | ⟨b, off, cap, he, hc, hh⟩⟩ := hvW
          · omega
          · injection he with e1 e2 e3
            subst e1; subst e3
            exact ⟨b, off, vc, rfl, hc, hh⟩
        subst hva
        rw [hlen] at c1 hcap
        have hbF : ¬ F b ∧ b < w.heap.size := hvF b ⟨_, _, _, rfl, by omega, rfl⟩
        have l1 := lt_of_heap c1
        have l2 := lt_of_heap c2
        refine RFW_top (iter_chunk (p1 := W.heap.size) (p2 := W.heap.size + 1) (b := b) (off := off) (n := 128) (k := k) (cap := vc) (by omega) hcap (by omega)) (by simp)
          (fun i W' => ∃ Di F', DiskR W' d F' Di ∧ Stp F w W' F' ∧ (∀ b, F' b → b < w.heap.size ∨ W1.heap.size + 1 < b) ∧ D.write1 f a (chunks bs k) = Di.write1 f (a + i) ((chunks bs k).drop i) ∧ Di.waits.length ≤ D.waits.length + i ∧ i ≤ k ∧
            hp W' w.heap.size = some (.cells #[.pointer (some ⟨d, 0, none⟩)] 25 (0, 0)) ∧ hp W' (w.heap.size + 1) = some (.cells #[.int .i64 f] 3 (0, 0)) ∧ hp W' (w.heap.size + 2) = some (.cells #[.int .i64 (a + i)] 3 (0, 0)) ∧
            (∃ z, hp W' (w.heap.size + 3) = some (.cells #[z] 28 (0, 0))) ∧ hp W' W.heap.size = some (.cells #[.slice (some ⟨b, off, none⟩) (128 * k) vc] 23 (0, 0)) ∧ hp W' (W.heap.size + 1) = some (.cells #[.int .i64 (128 : Nat)] 3 (0, 0)) ∧
            hp W' W1.heap.size = some (.deferred (some [])) ∧ At W' b off (bv bs))
          (fun c W' => c = .ret ∧ ∃ F', DiskR W' d F' (D.write1 f a (chunks bs k)).2 ∧ (D.write1 f a (chunks bs k)).1 = 180 ∧ Stp F w W' F' ∧ (∀ b, F' b → b < w.heap.size ∨ W1.heap.size + 1 < b) ∧ hp W' (w.heap.size + 3) = some (.cells #[.int .i64 180] 28 (0, 0)) ∧ hp W' W1.heap.size = some (.deferred (some [])))
          ?_ ?_ ?_ ?_ ?_ ?_
        · rintro i W' ⟨Di, F', -, -, -, -, -, -, -, -, -, -, j1, j2, -, -⟩
          exact ⟨j1, j2⟩
        · rintro i W' W2 ⟨Di, F', a1, a2, a3, a4, a5, a6, b0, b1, b2, ⟨z', b3⟩, j1, j2, j3, j4⟩ hm
          have hd : ∀ b, F' b → ¬ b = W1.heap.size + 1 := fun b hb e => by have := a3 b hb; omega
          exact ⟨Di, F', a1.mod hm hd, ⟨a2.mod.on hm (fun b e => .inr (by omega)), a2.sub⟩, a3, a4, a5, a6, hm.keep b0 (by show ¬ _ = _; omega), hm.keep b1 (by show ¬ _ = _; omega), hm.keep b2 (by show ¬ _ = _; omega),
            ⟨z', hm.keep b3 (by show ¬ _ = _; omega)⟩, hm.keep j1 (by show ¬ _ = _; omega), hm.keep j2 (by show ¬ _ = _; omega), hm.keep j3 (by show ¬ _ = _; omega), j4.mod hm (by show ¬ _ = _; omega)⟩
        · intro o
          have m9 : Mod (fun _ => False) W1 ((W1.alloc (.deferred (some []))).alloc (.loop o)) := ((Mod.refl _ W1).alloc _).alloc _
          have mm := mW1.trans m9
          have e9 : hp ((W1.alloc (.deferred (some []))).alloc (.loop o)) W1.heap.size = some (.deferred (some [])) := by simp [go_sem]
          generalize (W1.alloc (.deferred (some []))).alloc (.loop o) = W9 at m9 mm e9
          exact ⟨D, F, hW0.mod mm (fun _ _ h => h), s1.trans ⟨mm.mono fun _ _ h => h.elim, fun b hb => .inl hb⟩, fun b hb => .inl (h0.lt hb), by simp, by omega, by omega, mm.keep f0 id, mm.keep f1 id, by have := mm.keep f2 id; simpa [hp] using this, ⟨z, mm.keep f3 id⟩,
            m9.keep c1 id, m9.keep c2 id, e9, hAt.mod mm id⟩
        · rintro i x W2 rb hx ⟨Di, F', a1, a2, a3, a4, a5, a6, b0, b1, b2, ⟨z', b3⟩, j1, j2, j3, j4⟩ hrb hst KN KJ hKN hKJ W0 hbeg
          have hik : i < k := by
            have := (List.getElem?_eq_some_iff.1 hx).1
            simpa using this
          have hxe : x = [.slice (some ⟨b, off + 128 * i, none⟩) 128 128] := by
            simp [List.getElem?_range, hik] at hx
            exact hx.symm
          subst hxe
          unfold R17_0
          refine hbeg _ ?_
          simp [go_sem, b0]
          obtain ⟨s, hq⟩ := a1
          have hdl : d < w.heap.size := h0.lt h0.self
          have hbd : b ≠ d := fun e => hbF.1 (e ▸ h0.self)
          obtain ⟨S, hS⟩ : ∃ S, (bs.drop (128 * i)).take 128 = S := ⟨_, rfl⟩
          have hSl : S.length = 128 := by rw [← hS]; simp; omega
          have hdrop : (chunks bs k).drop i = S :: (chunks bs k).drop (i + 1) := by
            rw [List.drop_eq_getElem_cons (by simpa [chunks] using hik)]
            simp [chunks, hS]
          rw [hdrop] at a4
          simp only [DM.write1] at a4
          refine ca_step hq fun W3 hq3 m3 z3 => ?_
          have b0 := m3.keep b0 (by show ¬ _ = _; omega)
          have b1 := m3.keep b1 (by show ¬ _ = _; omega)
          have b2 := m3.keep b2 (by show ¬ _ = _; omega)
          have b3 := m3.keep b3 (by show ¬ _ = _; omega)
          have j1 := m3.keep j1 (by show ¬ _ = _; omega)
          have j2 := m3.keep j2 (by show ¬ _ = _; omega)
          have j3 := m3.keep j3 (by show ¬ _ = _; omega)
          have hrb := m3.keep hrb (by show ¬ _ = _; omega)
          have j4 := j4.mod m3 hbd
          have jS : At W3 b (off + 128 * i) (bv S) := by
            have := j4.sub (128 * i) 128 (by simp; omega)
            rw [bv_drop, bv_take, hS] at this
            exact this
          have a2 : Stp F w W3 F' := a2.trans ⟨m3.mono fun b _ e => e ▸ hq.self, fun b hb => .inl hb⟩
          cases hst1 : Di.step.1
          · rw [hst1] at a4
            simp only [Bool.false_eq_true, if_false] at a4
            simp [go_sem, hp_of b3]
            have mS : Mod (fun b => b = w.heap.size + 3) W3 (W3.setCell ⟨w.heap.size + 3, 0, none⟩ (.int .i64 180)) := (Mod.refl _ W3).setCell (by simp) _ _
            refine hKJ _ _ ⟨rfl, F', ?_, by rw [a4], ⟨a2.mod.setCell (.inr (by omega)) _ _, a2.sub⟩, a3, by simp [go_sem, hp_of b3], mS.keep j3 (by show ¬ _ = _; omega)⟩ (mS.keep hrb (by show ¬ _ = _; omega))
            rw [a4]
            exact ⟨s, hq3.mod mS fun b hb e => by have := a3 b hb; omega⟩
          · rw [hst1] at a4
            simp only [if_true] at a4
            obtain ⟨mb, g1, g2, g3, g4, g5, g6, g7⟩ := hq3.out
            have hAr : ∀ w, (Instr.arrayAt 114 (.slice (some ⟨b, off + 128 * i, none⟩) 128 128)).run Try.prog w = .ok (.pointer (some ⟨b, off + 128 * i, none⟩)) w := fun w =>
              run_arrayAt w _ 5 128 _ _ _ (by kernel_rfl) (Nat.le_refl _)
            simp [go_sem, hp_of b0, hp_of b1, hp_of b2, hp_of g1, hAr]
            have jS' : At W3.drew b (off + 128 * i) (bv S) := jS
            refine rdX_bigS (bv S) 127 sT1 sT2 (by simp [hSl]) jS' ?_
            refine rdPX_bigB (builtPut2 f (a + i) hSl) ?_
            refine rx_lit [.agg (cellsPut ((f, a + (i : Int)), S)).toArray] Try.underlying53 (elemT_of pE) rfl rfl (by simp [Value.cells, cellsPut_length (p := ((f, a + (i : Int)), S)) hSl]) (by decide) ?_
            have m4 : Mod (fun _ => False) W3 (W3.drew.alloc (.cells ([Value.agg (cellsPut ((f, a + (i : Int)), S)).toArray].flatMap (·.cells.toList)).toArray 116)) := ((Mod.refl _ W3).drew).alloc _
            have e4 : hp (W3.drew.alloc (.cells ([Value.agg (cellsPut ((f, a + (i : Int)), S)).toArray].flatMap (·.cells.toList)).toArray 116)) W3.heap.size = some (.cells (cellsPut ((f, a + (i : Int)), S)).toArray 116 (0, 0)) := by
              have e : [Value.agg (cellsPut ((f, a + (i : Int)), S)).toArray].flatMap (·.cells.toList) = cellsPut ((f, a + (i : Int)), S) := by simp [Value.cells]
              rw [e]
              simp [go_sem]
            rw [show W3.drew.heap.size = W3.heap.size from rfl]
            generalize W3.drew.alloc (.cells ([Value.agg (cellsPut ((f, a + (i : Int)), S)).toArray].flatMap (·.cells.toList)).toArray 116) = W4 at m4 e4
            have k0 := m4.keep b0 id
            have k1 := m4.keep g1 id
            simp only [hp_of k0, hp_of k1]
            have hw2 := hq3.waits
            have hwl : Di.step.2.waits.length < 600000000000 := by rw [Di.step_waits]; omega
            have hcl := cellsPut_length (p := ((f, a + (i : Int)), S)) hSl
            refine ⟨rfl, rfl, rx_append (cs := Di.step.2.waits.flatMap cellsPut) (n := Di.step.2.waits.length) (m := 1) (news := cellsPut ((f, a + (i : Int)), S)) Try.underlying53 Try.underlying53 (elemT_of pE) (g3.mod m4 fun _ _ h => h)
              ⟨by rw [hcl], .inr ⟨_, 0, 1, rfl, Nat.le_refl _, ⟨_, _, _, e4, by simp, by simp⟩⟩⟩ (cellsPut_one _) (by omega) fun s' W5 o5 m5 n5 => ?_⟩
            obtain ⟨sa, sc, rfl, hsc⟩ := o5.isSl
            have hns : ∀ b', b' < w.heap.size → b' ≠ d → ¬ F' b' → ¬ inSl s b' := fun b' _ _ hF hb => hF ((g4 b').2 (.inr (.inr hb)))
            have dist : ∀ b', w.heap.size ≤ b' → b' ≤ W1.heap.size + 1 → ¬ inSl s b' := fun b' h1 h2 hb => by
              have := a3 b' ((g4 b').2 (.inr (.inr hb))); omega
            have p0 := m5.keep k0 (dist _ (by omega) (by omega))
            have p1 := m5.keep (m4.keep b1 id) (dist _ (by omega) (by omega))
            have p2 := m5.keep (m4.keep b2 id) (dist _ (by omega) (by omega))
            have p3 := m5.keep (m4.keep b3 id) (dist _ (by omega) (by omega))
            have pd := m5.keep k1 g6
            have hwa : IntKind.i64.wrap (a + (i : Int) + 1) = a + ((i + 1 : Nat) : Int) := by rw [IntKind.wrap_i64]; omega
            have hnd : ¬ w.heap.size + 2 = d := by omega
            have hnd' : ¬ d = w.heap.size + 2 := by omega
            simp [go_sem, hp_of p0, hp_of p2, hp_of pd, hnd, hnd', hwa]
            have m6 : Mod (fun b' => b' = d ∨ b' = w.heap.size + 2) W5 ((W5.setCell ⟨d, 1, none⟩ (.slice sa (Di.step.2.waits.length + 1) sc)).setCell ⟨w.heap.size + 2, 0, none⟩ (.int .i64 (a + ((i : Int) + 1)))) :=
              ((Mod.refl _ W5).setCell (.inl (.inl rfl)) _ _).setCell (.inl (.inr rfl)) _ _
            have e6 : hp ((W5.setCell ⟨d, 1, none⟩ (.slice sa (Di.step.2.waits.length + 1) sc)).setCell ⟨w.heap.size + 2, 0, none⟩ (.int .i64 (a + ((i : Int) + 1)))) d = some (.cells #[.map mb, .slice sa (Di.step.2.waits.length + 1) sc, .int .i64 Di.step.2.left, .bool Di.step.2.armed, .bool Di.step.2.off] 55 (0, 0)) := by
              simp [go_sem, hp_of pd, hnd']
            have e7 : hp ((W5.setCell ⟨d, 1, none⟩ (.slice sa (Di.step.2.waits.length + 1) sc)).setCell ⟨w.heap.size + 2, 0, none⟩ (.int .i64 (a + ((i : Int) + 1)))) (w.heap.size + 2) = some (.cells #[.int .i64 (a + ((i + 1 : Nat) : Int))] 3 (0, 0)) := by
              simp [go_sem, hp_of p2, hnd]
            generalize (W5.setCell ⟨d, 1, none⟩ (.slice sa (Di.step.2.waits.length + 1) sc)).setCell ⟨w.heap.size + 2, 0, none⟩ (.int .i64 (a + ((i : Int) + 1))) = W6 at m6 e6 e7
            have hrl := lt_of_heap hrb
            have hm4 := m4.size
            have q1 : ∀ b', inSl (.slice sa (Di.step.2.waits.length + 1) sc) b' → b' ≠ d ∧ (b' < w.heap.size ∨ W1.heap.size + 1 < b') := fun b' hb' => by
              rcases n5 b' hb' with h1 | h1
              · exact ⟨fun e => g6 (e ▸ h1), a3 b' ((g4 b').2 (.inr (.inr h1)))⟩
              · omega
            have q2 : ∀ b', mb = some b' → b' ≠ d ∧ (b' < w.heap.size ∨ W1.heap.size + 1 < b') := fun b' hb' => ⟨fun e => g5 (e ▸ hb'), a3 b' ((g4 b').2 (.inr (.inl hb')))⟩
            have q3 : ∀ b', mb = some b' → b' < W3.heap.size := fun b' hb' => hq3.lt ((g4 b').2 (.inr (.inl hb')))
            have m36 : Mod (fun b' => inSl s b' ∨ b' = d ∨ b' = w.heap.size + 2) W3 W6 := ((m4.mono fun _ _ h => h.elim).on m5 (fun b' hb' => .inl (.inl hb'))).on m6 fun b' hb' => .inl (.inr hb')
            have q4 : ∀ b', mb = some b' → ¬ (inSl s b' ∨ b' = d ∨ b' = w.heap.size + 2) := fun b' hb' h => by
              rcases h with h | h | h
              · exact g7 b' hb' h
              · exact (q2 b' hb').1 h
              · have := (q2 b' hb').2; omega
            refine hKN _ ⟨{ Di.step.2 with waits := Di.step.2.waits ++ [((f, a + (i : Int)), S)] }, fun b' => b' = d ∨ mb = some b' ∨ inSl (.slice sa (Di.step.2.waits.length + 1) sc) b', ⟨_, ⟨mb, e6, ?_, ?_, fun _ => Iff.rfl, g5, fun h => (q1 d h).1 rfl, ?_⟩, hq3.lasts, ?_, hq3.left, fun h => absurd h (by simp)⟩, ?_, ?_, ?_, ?_, hik, ?_, ?_, e7, ?_, ?_, ?_, ?_, ?_⟩ ?_
            · rcases g2 with ⟨g2, g2'⟩ | ⟨b', g2, g2'⟩
              · exact .inl ⟨g2, g2'⟩
              · exact .inr ⟨b', g2, g2'.mod m36 (q4 b' (by cases g2; rfl))⟩
            · have o6 := o5.mod m6 fun b' hb' h => by
                have := q1 b' hb'
                rcases h with h | h <;> omega
              rw [List.flatMap_append, List.length_append]
              simpa using o6
            · intro b' hb' h
              rcases n5 b' h with h1 | h1
              · exact g7 b' hb' h1
              · have := q3 b' hb'; omega
            · intro p hp
              rcases List.mem_append.1 hp with hp | hp
              · exact hw2 p hp
              · have : p = ((f, a + (i : Int)), S) := by simpa using hp
                subst this
                exact ⟨hSl, by show 0 ≤ a + (i : Int); omega, by show a + (i : Int) < 8192; omega⟩
            · refine ⟨a2.mod.on m36 fun b' h => ?_, fun b' h => ?_⟩
              · rcases h with h | h | h
                · exact a2.sub b' ((g4 b').2 (.inr (.inr h)))
                · exact .inl (h ▸ h0.self)
                · exact .inr (by omega)
              · rcases h with h | h | h
                · exact .inl (h ▸ h0.self)
                · exact a2.sub b' ((g4 b').2 (.inr (.inl h)))
                · rcases n5 b' h with h1 | h1
                  · exact a2.sub b' ((g4 b').2 (.inr (.inr h1)))
                  · exact .inr (by omega)
            · rintro b' (h | h | h)
              · exact .inl (by omega)
              · exact (q2 b' h).2
              · exact (q1 b' h).2
            · rw [a4, show a + (i : Int) + 1 = a + ((i + 1 : Nat) : Int) by omega]
            · simp [Di.step_waits]; omega
            · exact m6.keep p0 (by show ¬ (_ ∨ _); omega)
            · exact m6.keep p1 (by show ¬ (_ ∨ _); omega)
            · exact ⟨_, m6.keep p3 (by show ¬ (_ ∨ _); omega)⟩
            · exact m36.keep j1 (by rintro (h | h | h); exact dist _ (by omega) (by omega) h; omega; omega)
            · exact m36.keep j2 (by rintro (h | h | h); exact dist _ (by omega) (by omega) h; omega; omega)
            · exact m36.keep j3 (by rintro (h | h | h); exact dist _ (by omega) (by omega) h; omega; omega)
            · refine j4.mod m36 ?_
              rintro (h | h | h)
              · rcases a2.sub b ((g4 b).2 (.inr (.inr h))) with h1 | h1
                · exact hbF.1 h1
                · omega
              · exact hbd h
              · omega
            · exact m36.keep hrb (by rintro (h | h | h); exact dist _ (by omega) (by omega) h; omega; omega)
        · rintro W2 o ⟨Di, F', a1, a2, a3, a4, a5, a6, b0, b1, b2, ⟨z', b3⟩, j1, j2, j3, j4⟩
          simp only [List.length_map, List.length_range] at a4 a5 a6 b2
          have hnil : (chunks bs k).drop k = [] := List.drop_of_length_le (by simp [chunks])
          rw [hnil] at a4
          have mo : Mod (fun b' => b' = W1.heap.size + 1) W2 (W2.putObj (W1.heap.size + 1) (.loop o)) := (Mod.refl _ W2).putObj (b := W1.heap.size + 1) (.inl (by simp)) _
          have b3 := mo.keep b3 (by show ¬ _ = _; omega)
          have j3 := mo.keep j3 (by show ¬ _ = _; omega)
          have a1 : DiskR (W2.putObj (W1.heap.size + 1) (.loop o)) d F' Di := a1.mod mo fun b' hb' e => by have := a3 b' hb'; omega
          have a2 : Stp F w (W2.putObj (W1.heap.size + 1) (.loop o)) F' := ⟨a2.mod.on mo (fun b' e => .inr (by omega)), a2.sub⟩
          generalize W2.putObj (W1.heap.size + 1) (.loop o) = W3 at mo b3 j3 a1 a2
          unfold A17_1
          have r1 : ¬ w.heap.size + 3 = W1.heap.size := by omega
          have r2 : ¬ W1.heap.size = w.heap.size + 3 := by omega
          simp [go_sem, afterK, retD_hp, retD_nil, hp_of b3, hp_of j3, r1, r2]
          have a4' : D.write1 f a (chunks bs k) = (0, Di) := a4
          rw [a4'] at hK
          have mf : Mod (fun b' => b' = w.heap.size + 3 ∨ b' = W1.heap.size) W3 ((W3.setCell ⟨w.heap.size + 3, 0, none⟩ (.int .i64 0)).putObj W1.heap.size (.deferred none)) := ((Mod.refl _ W3).setCell (.inl (.inl rfl)) _ _).putObj (.inl (.inr rfl)) _
          exact hK _ F' (a1.mod mf fun b' hb' h => by have := a3 b' hb'; rcases h with h | h <;> omega) ⟨a2.mod.on mf (fun b' h => .inr (by rcases h with h | h <;> omega)), a2.sub⟩
        · rintro c W2 o ⟨rfl, F', a1, a0, a2, a3, b3, j3⟩
          have mo : Mod (fun b' => b' = W1.heap.size + 1) W2 (W2.putObj (W1.heap.size + 1) (.loop o)) := (Mod.refl _ W2).putObj (b := W1.heap.size + 1) (.inl (by simp)) _
          have b3 := mo.keep b3 (by show ¬ _ = _; omega)
          have j3 := mo.keep j3 (by show ¬ _ = _; omega)
          have a1 : DiskR (W2.putObj (W1.heap.size + 1) (.loop o)) d F' _ := a1.mod mo fun b' hb' e => by have := a3 b' hb'; omega
          have a2 : Stp F w (W2.putObj (W1.heap.size + 1) (.loop o)) F' := ⟨a2.mod.on mo (fun b' e => .inr (by omega)), a2.sub⟩
          generalize W2.putObj (W1.heap.size + 1) (.loop o) = W3 at mo b3 j3 a1 a2
          unfold A17_1
          have r1 : ¬ w.heap.size + 3 = W1.heap.size := by omega
          have r2 : ¬ W1.heap.size = w.heap.size + 3 := by omega
          simp [go_sem, afterK, retD_hp, retD_nil, hp_of b3, hp_of j3, r1, r2]
          rw [a0] at hK
          have mf : Mod (fun b' => b' = W1.heap.size) W3 (W3.putObj W1.heap.size (.deferred none)) := (Mod.refl _ W3).putObj (b := W1.heap.size) (.inl (by simp)) _
          exact hK _ F' (a1.mod mf fun b' hb' h => by have := a3 b' hb'; omega) ⟨a2.mod.on mf (fun b' h => .inr (by omega)), a2.sub⟩
    · have hmod' : ¬ (bs.length : Int).tmod 128 = 0 := by rw [htm]; exact hmod
      simp [hmod] at hK
      simp [go_sem, f0, f1, f2, f3, hmod']
      exact hK _ _ (dset _) (mset _)
  · simp [ho] at hK
    simp [go_sem, f3]
    exact hK _ _ (hW0.mod ((Mod.refl (fun b => b = w.heap.size + 3) W).setCell (b := w.heap.size + 3) (.inl (by simp)) 0 _) fun b hb e => by have := h0.lt hb; omega) ⟨s1.mod.setCell (.inr (by omega)) 0 _, fun b hb => .inl hb⟩
end Go.Proofs
