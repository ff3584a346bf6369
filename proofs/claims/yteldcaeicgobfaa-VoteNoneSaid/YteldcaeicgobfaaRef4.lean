/-
  The contract of the document's Write.
  Conditions: the memory holds the disk and the slice.
-/
import Derived.Test.YteldcaeicgobfaaRef3
set_option linter.unusedSimpArgs false
set_option linter.unusedVariables false
namespace Go.Proofs
open Go Go.Vc

set_option maxRecDepth 10000 in
theorem ca_rwrite {w : World} {r : Nat} {F : Nat → Prop} {R : DM} {K : Kont} {f a : Int} {v : Value} {bs : List UInt8} (h : RefQ w r F R) (hv : Rd w 1 v bs.length (bv bs)) (hvF : ∀ b, inRd v b → ¬ F b)
    (hn : bs.length < 1099511627776) (hD : R.waits.length < 549755813888)
    (hK : ∀ w' F', RefQ w' r F' (R.write f a bs).2 → Stp F w w' F' → K (.int .i64 (R.write f a bs).1) w') :
    Ca Try.prog 23 #[dptr r, .int .i64 f, .int .i64 a, v] w K := by
  have h0 := h
  obtain ⟨sL, sW, h1, h2, h3, h4, h5, h6, h7⟩ := h.add
  obtain ⟨va, vc, rfl⟩ := hv.isSl
  apply ca23
  unfold F23
  simp [go_sem, dptr, h1]
  unfold DM.write at hK
  cases ho : R.off
  · simp only [ho, Bool.false_eq_true, if_false] at hK ⊢
    have htm : ((bs.length : Int).tmod 128 = 0) = (bs.length % 128 = 0) := by
      rw [Int.tmod_eq_emod_of_nonneg (by omega)]
      simp; omega
    obtain ⟨k, hk⟩ : ∃ k, bs.length / 128 = k := ⟨_, rfl⟩
    rw [hk] at hK
    have hdv : IntKind.i64.wrap ((bs.length : Int) / 128) = (k : Int) := by rw [IntKind.wrap_i64]; omega
    refine JoinW.at (fun s W => W = w ∧ s = (.bool (decide (¬ (bs.length % 128 = 0 ∧ mayB f a (k : Int) = true))), ())) ?_ ?_
    · by_cases hmod : bs.length % 128 = 0
      · have hmod' : (bs.length : Int).tmod 128 = 0 := by rw [htm]; exact hmod
        simp [go_sem, hmod', hdv]
        refine ca_rmay ?_
        cases hm : mayB f a (k : Int) <;> simp [go_sem, hmod, hm]
      · have hmod' : ¬ (bs.length : Int).tmod 128 = 0 := by rw [htm]; exact hmod
        simp [go_sem, hmod, hmod']
    rintro _ W ⟨rfl, rfl⟩
    unfold J23_1
    intro _
    by_cases hc : bs.length % 128 = 0 ∧ mayB f a (k : Int) = true
    · rw [if_pos hc] at hK
      simp only [hc, not_true, decide_false, and_self]
      simp [go_sem]
      obtain ⟨hmod, hm⟩ := hc
      simp only [mayB, decide_eq_true_eq] at hm
      obtain ⟨q1, q2, q3, q4, q5, q6⟩ := hm
      have hlen : bs.length = 128 * k := by omega
      obtain ⟨b, off, cap, hva, hcap, hAt⟩ : ∃ b off cap, va = some ⟨b, off, none⟩ ∧ bs.length ≤ vc ∧ At W b off (bv bs) := by
        obtain ⟨_, ⟨h0, _⟩ | ⟨b, off, cap, he, hc, hh⟩⟩ := hv
        · omega
        · injection he with e1 e2 e3
          subst e1; subst e3
          exact ⟨b, off, vc, rfl, hc, hh⟩
      subst hva
      have hbF : ¬ F b := hvF b ⟨_, _, _, rfl, by omega, rfl⟩
      have hbl := hAt.lt
      unfold L23_0
      refine loopK (fun s W' => ∃ (i : Nat) (x : Value) (Ri : DM) (F' : Nat → Prop), i ≤ k ∧ s = (x, .int .i64 i, ()) ∧ RefQ W' r F' Ri ∧ Stp F W W' F' ∧ R.write1 f a (chunks bs k) = Ri.write1 f (a + i) ((chunks bs k).drop i) ∧ Ri.waits.length ≤ R.waits.length + i)
        (fun s _ => match s.2.1 with | .int _ i => k - i.toNat | _ => 0) ⟨0, _, R, F, by omega, rfl, h0, Stp.refl _ _, by simp, by omega⟩ ?_
      rintro ⟨_, _⟩ W1 ⟨i, x, Ri, F', hi, ⟨⟩, a1, a2, a4, a5⟩ KN hKN _
      by_cases hik : i < k
      · have hik' : (i : Int) < k := by omega
        have hw1 : IntKind.i64.wrap ((i : Int) + 1) = ((i + 1 : Nat) : Int) := by rw [IntKind.wrap_i64]; omega
        have hw2 : IntKind.i64.wrap ((i : Int) * 128) = ((i * 128 : Nat) : Int) := by rw [IntKind.wrap_i64]; omega
        have hw3 : IntKind.i64.wrap (((i + 1 : Nat) : Int) * 128) = (((i + 1) * 128 : Nat) : Int) := by rw [IntKind.wrap_i64]; omega
        have hw4 : IntKind.i64.wrap (a + (i : Int)) = a + i := by rw [IntKind.wrap_i64]; omega
        obtain ⟨S, hS⟩ : ∃ S, (bs.drop (128 * i)).take 128 = S := ⟨_, rfl⟩
        have hSl : S.length = 128 := by rw [← hS]; simp; omega
        have hdrop : (chunks bs k).drop i = S :: (chunks bs k).drop (i + 1) := by
          rw [List.drop_eq_getElem_cons (by simpa [chunks] using hik)]
          simp [chunks, hS]
        rw [hdrop] at a4
        simp only [DM.write1] at a4
        simp [go_sem, hdv, hik']
        refine ca_rstep a1 fun W2 q2' m2 => ?_
        have hrF : F' r := a1.self
        have b2 : Stp F W W2 F' := a2.trans ⟨m2.mono fun b _ e => e ▸ hrF, fun b hb => .inl hb⟩
        cases hs : Ri.step.1
        · rw [hs] at a4
          simp only [Bool.false_eq_true, if_false] at a4
          rw [a4] at hK
          simp [go_sem]
          exact hK _ _ q2' b2
        · rw [hs] at a4
          simp only [if_true] at a4
          obtain ⟨tL, tW, g1, g2, g3, g4, g5, g6, g7⟩ := q2'.add
          have hbF' : ¬ F' b := fun h => by
            rcases a2.sub b h with h | h
            · exact hbF h
            · omega
          have hA2 : At W2 b off (bv bs) := hAt.mod b2.mod hbF
          have hsl1 : ((i * 128 : Nat) : Int) ≤ (((i + 1) * 128 : Nat) : Int) := by omega
          have hsl2 : (i + 1) * 128 ≤ vc := by omega
          have hsl3 : (((i + 1) * 128 : Nat) : Int) ≤ vc := by omega
          have hsl4 : ¬ vc = i * 128 := by omega
          have hsl5 : i * 128 ≤ (i + 1) * 128 := by omega
          have hS0 : (0 : Int) ≤ ((i * 128 : Nat) : Int) := by omega
          have hS0' : (0 : Int) ≤ (((i + 1) * 128 : Nat) : Int) := by omega
          have htn : ((i * 128 : Nat) : Int).toNat = i * 128 := by omega
          have htn' : (((i + 1) * 128 : Nat) : Int).toNat = (i + 1) * 128 := by omega
          simp [-Int.natCast_mul, -Int.natCast_add, go_sem, g1, hw1, hw2, hw3, hw4, hsl1, hsl2, hsl3, hsl4, hsl5, hS0, hS0', htn, htn']
          have hS5 : (i + 1) * 128 - i * 128 = 128 := by omega
          have jS : At W2.drew b (off + i * 128) (bv S) := by
            have := hA2.sub (i * 128) 128 (by simp; omega)
            rw [bv_drop, bv_take, Nat.mul_comm i 128, hS] at this
            rw [Nat.mul_comm i 128]
            exact this
          rw [hS5]
          refine rdX_toStr (n := 128) (l := S) Try.underlying23 Try.underlying5 Try.underlying9 ⟨by simp [hSl], .inr ⟨_, _, _, rfl, by omega, jS⟩⟩ ?_
          simp [-Int.natCast_mul, -Int.natCast_add, go_sem]
          refine rx_lit [.agg (cellsP ((f, a + (i : Int)), S)).toArray] Try.underlying44 (elemT_of pE3) rfl rfl (by simp [Value.cells, cellsP]) (by decide) ?_
          have e8 : [Value.agg (cellsP ((f, a + (i : Int)), S)).toArray].flatMap (·.cells.toList) = cellsP ((f, a + (i : Int)), S) := by simp [Value.cells]
          rw [e8]
          have m8 : Mod (fun _ => False) W2 (W2.drew.alloc (.cells (cellsP ((f, a + (i : Int)), S)).toArray 122)) := ((Mod.refl _ W2).drew).alloc _
          have h8 : hp (W2.drew.alloc (.cells (cellsP ((f, a + (i : Int)), S)).toArray 122)) W2.heap.size = some (.cells (cellsP ((f, a + (i : Int)), S)).toArray 122 (0, 0)) := by simp [go_sem]
          rw [size_drew]
          generalize (W2.drew.alloc (.cells (cellsP ((f, a + (i : Int)), S)).toArray 122)) = W8 at m8 h8
          have n8 : hp W8 r = _ := m8.keep g1 id
          have hws := Ri.step_waits
          simp only [n8]
          refine ⟨rfl, rx_append (n := Ri.step.2.waits.length) (m := 1) (news := cellsP ((f, a + (i : Int)), S)) Try.underlying44 Try.underlying44 (elemT_of pE3) (g3.mod m8 fun _ _ h => h)
            ⟨rfl, .inr ⟨_, 0, 1, rfl, Nat.le_refl _, ⟨_, _, _, h8, by simp [cellsP], by simp⟩⟩⟩ (by simp [cellsP, Value.oneCell']) (by rw [hws]; omega) fun v9 W9 o9 m9 n9 => ?_⟩
          have n9' : hp W9 r = _ := m9.keep n8 g6
          obtain ⟨va9, vc9, rfl, -⟩ := o9.isSl
          simp [-Int.natCast_mul, -Int.natCast_add, go_sem, n9', hw1]
          generalize hv9 : (Value.slice va9 (Ri.step.2.waits.length + 1) vc9) = v9 at o9 n9
          have m10 : Mod (fun b => b = r) W9 (W9.setCell ⟨r, 1, none⟩ v9) := (Mod.refl (fun b => b = r) W9).setCell (b := r) (.inl (by simp)) _ _
          have l8 := m8.size
          have hrl := q2'.lt q2'.self
          have hv9r : ¬ inSl v9 r := fun hb => by
            rcases n9 r hb with h | h
            · exact g6 h
            · omega
          have k8 : Stp F' W2 (W9.setCell ⟨r, 1, none⟩ v9) (fun b => b = r ∨ inSl tL b ∨ inSl v9 b) := by
            refine ⟨((m8.mono fun _ _ h => h.elim).on m9 fun b hb => .inl ((g4 b).2 (.inr (.inr hb)))).on m10 fun b hb => .inl (hb ▸ hrF), fun b hb => ?_⟩
            rcases hb with rfl | hb | hb
            · exact .inl hrF
            · exact .inl ((g4 b).2 (.inr (.inl hb)))
            · rcases n9 b hb with h | h
              · exact .inl ((g4 b).2 (.inr (.inr h)))
              · exact .inr (by omega)
          refine hKN _ _ ⟨i + 1, _, { Ri.step.2 with waits := Ri.step.2.waits ++ [((f, a + (i : Int)), S)] }, fun b => b = r ∨ inSl tL b ∨ inSl v9 b, hik, rfl, ⟨⟨tL, v9, by show hp _ _ = _; simp [go_sem, n9'], ?_, ?_, fun _ => Iff.rfl, g5, hv9r, ?_⟩, q2'.left⟩, b2.trans k8, ?_, ?_⟩ (by simp; omega)
          · exact ((g2.mod m8 fun _ _ h => h).mod m9 fun b hb => g7 b hb).mod m10 fun b hb e => g5 (e ▸ hb)
          · have := o9.mod m10 fun b hb e => hv9r (e ▸ hb)
            rw [List.length_append, List.flatMap_append]
            simpa using this
          · intro b hb hb9
            rcases n9 b hb9 with h | h
            · exact g7 b hb h
            · have := g2.lt hb; omega
          · rw [a4, show a + (i : Int) + 1 = a + ((i + 1 : Nat) : Int) by omega]
          · simp [hws]; omega
      · obtain rfl : i = k := by omega
        have hnil : (chunks bs i).drop i = [] := List.drop_of_length_le (by simp [chunks])
        rw [hnil] at a4
        have a4' : R.write1 f a (chunks bs i) = (0, Ri) := a4
        rw [a4'] at hK
        simp [go_sem, hdv]
        exact hK _ _ a1 a2
    · rw [if_neg hc] at hK
      simp only [hc, not_false_eq_true, decide_true]
      simp [go_sem]
      exact hK _ _ h0 (Stp.refl _ _)
  · simp [ho] at hK ⊢
    exact hK _ _ h0 (Stp.refl _ _)
end Go.Proofs
