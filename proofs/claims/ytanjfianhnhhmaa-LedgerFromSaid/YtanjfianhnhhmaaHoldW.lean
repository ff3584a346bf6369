/-
  The law's own comparison of holders.
  Conditions: where they ask for any, each theorem names them.
-/
import Derived.Test.YtanjfianhnhhmaaPlayW
import Derived.Test.YtanjfianhnhhmaaRfF
set_option linter.unusedVariables false
set_option linter.unusedSimpArgs false
namespace Go.Proofs
open Go Go.Vc

set_option maxRecDepth 10000 in
set_option maxHeartbeats 2000000 in
theorem ca_eqHolders {w : World} {l r : Nat} {F G : Nat → Prop} {S : Led} {K : Kont} {c : Int} (h : LedQ w l F S) (h' : RfQ w r G S) (hl : S.held.length < 4294967000)
    (hK : ∀ w', Mod (fun _ => False) w w' → K (.bool true) w') : Ca Try.prog 32 #[lptr l, lptr r, .int .u32 c] w K := by
  apply ca32
  unfold F32
  simp [go_sem]
  obtain ⟨n0, hn0⟩ : ∃ n0, n0 = w.heap.size := ⟨_, rfl⟩
  rw [← hn0]
  generalize hw1 : World.alloc _ _ = w1
  have m1 : Mod (fun _ => False) w w1 := by subst hw1; exact (Mod.refl _ w).alloc _
  have g0 : hp w1 n0 = some (.cells #[.bool false] 4 (0, 0)) := by subst hw1 hn0; simp [go_sem]
  refine ca_rholders (h'.modF m1) (by omega) fun w2 v o2 f2 m2 => ?_
  have hH : (S.holders c).length ≤ S.held.length := List.length_filter_le ..
  have g02 := m2.keep g0 id
  obtain ⟨sa, sc, rfl, -⟩ := o2.isSl
  obtain ⟨n1, hn1⟩ : ∃ n1, n1 = w2.heap.size := ⟨_, rfl⟩
  have l02 := lt_of_heap g02
  simp [go_sem]
  rw [← hn1]
  generalize hw3 : World.alloc _ _ = w3
  have m3 : Mod (fun _ => False) w2 w3 := by subst hw3; exact ((Mod.refl _ w2).alloc _).alloc _
  have g1 : hp w3 n1 = some (.cells #[.slice sa (S.holders c).length sc] 59 (0, 0)) := by subst hw3 hn1; simp [go_sem]
  have g2 : hp w3 (n1 + 1) = some (.cells #[.int .i64 0] 3 (0, 0)) := by subst hw3 hn1; simp [go_sem]
  have m03 := (m1.trans m2).trans m3
  have q3 := h.mod m03 fun _ _ h => h
  refine ca_holders q3 (by omega) fun gv1 w4 tl1 m4 => ?_
  obtain ⟨f1, cap1, rfl⟩ := tl1.fn
  simp [go_sem, eql_func_nil tSeqP]
  refine ca_holders (q3.mod m4 fun _ _ h => h) (by omega) fun gv2 w7 tl2 m7 => ?_
  obtain ⟨Ok, hit, hOk⟩ := tl2.out
  have m37 : Mod (fun _ => False) w3 w7 := m4.trans m7
  have m07 := m03.trans m37
  have q7 := h.mod m07 fun _ _ h => h
  have g07 := (m3.trans m37).keep g02 id
  have g17 := m37.keep g1 id
  have g27 := m37.keep g2 id
  have o7 := o2.mod (m3.trans m37) fun _ _ h => h
  have lv : ∀ b, inSl (.slice sa (S.holders c).length sc) b → b < n1 := fun b hb => by have := o2.lt hb; omega
  have l27 := lt_of_heap g27
  generalize S.holders c = H at *
  have e3 : ∀ o, Mod (fun _ => False) w7 ((w7.alloc (.deferred (some []))).alloc (.loop o)) := fun o => ((Mod.refl _ w7).alloc _).alloc _
  let J : (Nat → Prop) → Nat → World → Prop := fun Q j W => hp W (n1 + 1) = some (.cells #[.int .i64 j] 3 (0, 0)) ∧
      hp W w7.heap.size = some (.deferred (some [])) ∧ Mod (fun b => b = n1 + 1) w7 W ∧ ∀ b, Q b → w7.heap.size + 1 < b ∧ b < W.heap.size
  refine RFW_topN hit (by simp) J (fun _ _ => False) (fun o => hOk _ (e3 o)) ?_ ?_ ?_ ?_ (fun _ _ _ h => h.elim)
  · intro o Q W1 mo hQ
    have m71 := (e3 o).trans mo
    have hd : hp ((w7.alloc (.deferred (some []))).alloc (.loop o)) w7.heap.size = some (.deferred (some [])) := by simp [go_sem]
    exact ⟨m71.keep g27 id, mo.keep hd id, m71.mono fun _ _ h => h.elim, hQ⟩
  · rintro Q j W1 W2 ⟨j2, j4, j6, j7⟩ mm
    exact ⟨mm.keep j2 (by omega), mm.keep j4 (by omega), j6.on mm fun b hb => .inr (by omega), fun b hb => ⟨(j7 b hb).1, Nat.lt_of_lt_of_le (j7 b hb).2 mm.size⟩⟩
  · rintro Q j x W1 r1 hx ⟨j2, j4, j6, j7⟩ hrec hready KN' KJ' hKN' hKJ'
    obtain ⟨p, hpi, rfl⟩ : ∃ p, H[j]? = some p ∧ x = [poV p] := by
      simp only [List.getElem?_map] at hx
      cases hh : H[j]? with
      | none => rw [hh] at hx; cases hx
      | some p => rw [hh] at hx; exact ⟨p, rfl, (Option.some.inj hx).symm⟩
    obtain ⟨hjl, hpe⟩ := List.getElem?_eq_some_iff.1 hpi
    obtain ⟨rc, hrc⟩ : ∃ rc, rc = w7.heap.size + 1 := ⟨_, rfl⟩
    rw [← hrc] at hrec hKN' j7 ⊢
    have hrl := lt_of_heap hrec
    unfold R32_5
    simp [go_sem, poV]
    refine beginK_of (r := r1) ?_ hready ?_
    · rw [heap_alloc, if_neg (by omega)]
      exact hrec
    generalize hW2 : World.putObj _ _ _ = W2
    have m2' : Mod (fun b => b = rc) W1 W2 := by subst hW2; exact ((Mod.refl (fun b => b = rc) W1).alloc _).putObj (b := rc) (.inl rfl) _
    have k0 : hp W2 n0 = some (.cells #[.bool false] 4 (0, 0)) := m2'.keep (j6.keep g07 (by omega)) (by omega)
    have k1 : hp W2 n1 = some (.cells #[.slice sa H.length sc] 59 (0, 0)) := m2'.keep (j6.keep g17 (by omega)) (by omega)
    have k2 : hp W2 (n1 + 1) = some (.cells #[.int .i64 j] 3 (0, 0)) := m2'.keep j2 (by omega)
    have k3 : hp W2 W1.heap.size = some (.cells #[.int .u32 p.c, .int .u32 p.a, .int .i64 p.q, .int .i64 p.b] 31 (0, 0)) := by
      subst hW2
      rw [hp_putObj, if_neg (by omega)]
      simp [go_sem]
    have k4 : W2.heap[rc]? = some (.loop { r1 with state := .busy }) := by
      subst hW2
      rw [heap_putObj, if_pos rfl, heap_alloc, if_neg (by omega), hrec]
      rfl
    have kO := (o7.mod j6 fun b hb e => by have := lv b hb; omega).mod m2' fun b hb e => by have := lv b hb; omega
    have kq : ∀ b, Q b → W2.heap[b]? = W1.heap[b]? := fun b hb => by
      have := j7 b hb
      subst hW2
      rw [heap_putObj, if_neg (by omega), heap_alloc, if_neg (by omega)]
    refine JoinW.at (fun s W' => s = (.bool false, ()) ∧ W' = W2.drew) ?_ ?_
    · obtain ⟨b', cap', hsl', hAt'⟩ := Own.elem kO hjl
      injection hsl' with e1 e2 e3
      subst e1 e3
      rw [flat_get cellsPo 4 _ _ (fun _ _ => rfl) hjl, hpe] at hAt'
      obtain ⟨D, e', fz', hD, hDg⟩ := hAt'.get
      have hD0 := hDg 0 _ rfl
      have hD1 := hDg 1 _ rfl
      have hD2 := hDg 2 _ rfl
      have hD3 := hDg 3 _ rfl
      (try simp only [Nat.zero_add, Nat.add_zero] at hD0 hD1 hD2 hD3)
      simp [-Int.natCast_add, go_sem, hp_of k0, hp_of k1, hp_of k2, hp_of k3, hD, hD0, hD1, hD2, hD3, hjl]
    rintro _ _ ⟨rfl, rfl⟩
    unfold J32_0
    intro _
    have hw := wr_add1 (i := j) (by omega)
    simp [-Int.natCast_add, go_sem, hp_of k2, hw]
    have mm : Mod (fun b => b = n1 + 1) W2 (W2.drew.setCell ⟨n1 + 1, 0, none⟩ (.int .i64 ((j + 1 : Nat) : Int))) := ((Mod.refl (fun b => b = n1 + 1) W2).drew).setCell (b := n1 + 1) (.inl rfl) _ _
    have m12 : Mod (fun b => b = n1 + 1 ∨ b = rc) W1 _ := (m2'.mono fun b _ hb => .inr hb).trans (mm.mono fun b _ hb => .inl hb)
    refine hKN' _ ?_ ?_ ?_
    · refine ⟨by simp [go_sem, hp_of k2], m12.keep j4 (by omega), j6.on m12 fun b hb => ?_, fun b hb => ⟨by have := (j7 b hb).1; omega, Nat.lt_of_lt_of_le (j7 b hb).2 m12.size⟩⟩
      rcases hb with hb | hb
      · exact .inl hb
      · exact .inr (by omega)
    · exact mm.keep k4 (by omega)
    · intro b hb
      have hb7 := j7 b hb
      rw [← kq b hb]
      show hp _ b = hp W2 b
      simp [go_sem, show b ≠ n1 + 1 by omega]
  · rintro Q W1 o ⟨j2, j4, j6, j7⟩
    rw [List.length_map] at j2
    generalize hw8 : W1.putObj (w7.heap.size + 1) (.loop o) = w8
    have m8 : Mod (fun b => b = w7.heap.size + 1) W1 w8 := by subst hw8; exact (Mod.refl (fun b => b = w7.heap.size + 1) W1).putObj (.inl rfl) _
    have m78 : Mod (fun b => b = n1 + 1) w7 w8 := j6.on m8 fun b hb => .inr (by omega)
    have m08 : Mod (fun _ => False) w w8 := m07.on m78 fun b hb => .inr (by omega)
    have q8 := h.mod m08 fun _ _ h => h
    have k2 := m8.keep j2 (by omega)
    have k4 := m8.keep j4 (by omega)
    have k0 := m78.keep g07 (by omega)
    have k1 := m78.keep g17 (by omega)
    unfold A32_6
    simp only [afterK]
    refine ca_holders q8 (by omega) fun gv3 w9 tl3 m9 => ?_
    obtain ⟨f3, cap3, rfl⟩ := tl3.fn
    simp [go_sem, eql_func_nil tSeqP]
    refine ca_holders (q8.mod m9 fun _ _ h => h) (by omega) fun gv4 w10 tl4 m10 => ?_
    obtain ⟨Ok4, hit4, hOk4⟩ := tl4.out
    have m810 := m9.trans m10
    have k2' := m810.keep k2 id
    have k4' := m810.keep k4 id
    have k0' := m810.keep k0 id
    have k1' := m810.keep k1 id
    have m010 := m08.trans m810
    have l4' := lt_of_heap k4'
    have e10 : ∀ o, Mod (fun _ => False) w10 ((w10.alloc (.deferred (some []))).alloc (.loop o)) := fun o => ((Mod.refl _ w10).alloc _).alloc _
    -- what stands at the end
    have fin : ∀ W', Mod (fun _ => False) w10 W' → hp W' w10.heap.size = some (.deferred (some [])) →
        (∀ {K1 : World → Prop}, (∀ w', Mod (fun _ => False) w w' → hp w' n0 = some (.cells #[.bool true] 4 (0, 0)) → K1 w') → retD ([w10.heap.size] ++ ([w7.heap.size] ++ [])) (W'.setCell ⟨n0, 0, none⟩ (.bool true)) K1) := by
      intro W' mW hd K1 hK1
      have ms : Mod (fun b => b = n0) W' (W'.setCell ⟨n0, 0, none⟩ (.bool true)) := (Mod.refl (fun b => b = n0) W').setCell (b := n0) (.inl rfl) _ _
      have g0' : hp (W'.setCell ⟨n0, 0, none⟩ (.bool true)) n0 = some (.cells #[.bool true] 4 (0, 0)) := by simp [go_sem, hp_of (mW.keep k0' id)]
      refine retD_all ?_ ?_ fun w' m' => hK1 w' ((m010.trans mW).on (ms.mono fun b _ hb => (show b = n0 by exact hb)) (fun b hb => .inr (by omega)) |>.on m' fun b hb => .inr ?_) (m'.keep g0' ?_)
      · simp; omega
      · intro d hd'
        simp only [List.append_nil, List.mem_append, List.mem_singleton] at hd'
        rcases hd' with rfl | rfl
        · exact ms.keep hd (by omega)
        · exact ms.keep (mW.keep k4' id) (by omega)
      · simp only [List.append_nil, List.mem_append, List.mem_singleton] at hb
        have := m07.size
        have := m010.size
        rcases hb with rfl | rfl <;> omega
      · simp only [List.append_nil, List.mem_append, List.mem_singleton]
        omega
    let J2 : (Nat → Prop) → Nat → World → Prop := fun Q j W => hp W w10.heap.size = some (.deferred (some [])) ∧ Mod (fun _ => False) w10 W
    refine RFW_topN hit4 (by simp) J2 (fun c W => c = .exit 2 ∧ J2 (fun _ => False) 0 W) (fun o => hOk4 _ (e10 o)) ?_ ?_ ?_ ?_ ?_
    · intro o Q W1 mo hQ
      have hd : hp ((w10.alloc (.deferred (some []))).alloc (.loop o)) w10.heap.size = some (.deferred (some [])) := by simp [go_sem]
      exact ⟨mo.keep hd id, (e10 o).trans mo⟩
    · rintro Q j W1 W2 ⟨i1, i2⟩ mm
      exact ⟨mm.keep i1 (by omega), i2.on mm fun b hb => .inr (by omega)⟩
    · rintro Q j x W1 r1 hx ⟨i1, i2⟩ hrec hready KN' KJ' hKN' hKJ'
      unfold R32_1
      refine beginK_of (r := r1) hrec hready ?_
      have mm : Mod (fun b => b = w10.heap.size + 1) W1 (W1.putObj (w10.heap.size + 1) (.loop { r1 with state := .busy })) := (Mod.refl (fun b => b = w10.heap.size + 1) W1).putObj (.inl rfl) _
      refine hKJ' _ _ ⟨rfl, mm.keep i1 (by omega), i2.on mm fun b hb => .inr (by omega)⟩ ?_
      rw [heap_putObj, if_pos rfl, hrec]
      rfl
    · rintro Q W1 o ⟨i1, i2⟩
      generalize hw11 : W1.putObj (w10.heap.size + 1) (.loop o) = w11
      have mm : Mod (fun b => b = w10.heap.size + 1) W1 w11 := by subst hw11; exact (Mod.refl (fun b => b = w10.heap.size + 1) W1).putObj (.inl rfl) _
      have m11 : Mod (fun _ => False) w10 w11 := i2.on mm fun b hb => .inr (by omega)
      have i1' := mm.keep i1 (by omega)
      have k2'' := m11.keep k2' id
      have k1'' := m11.keep k1' id
      have k0'' := m11.keep k0' id
      unfold A32_2
      simp only [afterK]
      simp [go_sem, hp_of k2'', hp_of k1'', hp_of k0'']
      refine fin _ m11 i1' fun w' m' g' => ?_
      simp [go_sem, hp_of g']
      exact hK _ m'
    · rintro cc W1 o ⟨rfl, i1, i2⟩
      generalize hw11 : W1.putObj (w10.heap.size + 1) (.loop o) = w11
      have mm : Mod (fun b => b = w10.heap.size + 1) W1 w11 := by subst hw11; exact (Mod.refl (fun b => b = w10.heap.size + 1) W1).putObj (.inl rfl) _
      have m11 : Mod (fun _ => False) w10 w11 := i2.on mm fun b hb => .inr (by omega)
      have i1' := mm.keep i1 (by omega)
      have k2'' := m11.keep k2' id
      have k1'' := m11.keep k1' id
      have k0'' := m11.keep k0' id
      unfold A32_2
      simp only [afterK]
      simp [go_sem, hp_of k2'', hp_of k1'', hp_of k0'']
      refine fin _ m11 i1' fun w' m' g' => ?_
      simp [go_sem, hp_of g']
      exact hK _ m'
end Go.Proofs
