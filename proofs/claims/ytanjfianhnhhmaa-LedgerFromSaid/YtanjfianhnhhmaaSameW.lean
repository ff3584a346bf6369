/-
  The law's own comparison of two ledgers.
  Conditions: where they ask for any, each theorem names them.
-/
import Derived.Test.YtanjfianhnhhmaaHoldW
set_option linter.unusedVariables false
set_option linter.unusedSimpArgs false
namespace Go.Proofs
open Go Go.Vc

theorem Ca_cong {P : Program} {f : FuncId} {args args' : Array Value} {w w' : World} {K : Kont} (h1 : args = args') (h2 : w = w') : Ca P f args w K = Ca P f args' w' K := by subst h1 h2; rfl
attribute [local congr] Ca_cong

set_option maxRecDepth 10000 in
set_option maxHeartbeats 4000000 in
theorem ca_same {w : World} {l r : Nat} {F G : Nat → Prop} {S : Led} {K : Kont} (h : LedQ w l F S) (h' : RfQ w r G S) (hl : S.held.length < 4294967000)
    (hK : ∀ w', Mod (fun _ => False) w w' → K (.bool true) w') : Ca Try.prog 31 #[lptr l, lptr r] w K := by
  have hok := h.ok
  have hA64 := hok.len
  apply ca31
  unfold F31
  obtain ⟨n0, hn0⟩ : ∃ n0, n0 = w.heap.size := ⟨_, rfl⟩
  simp [go_sem, lptr]
  rw [← hn0]
  generalize hw1 : World.alloc _ _ = w1
  have m1 : Mod (fun _ => False) w w1 := by subst hw1; exact ((((Mod.refl _ w).alloc _).alloc _).alloc _).alloc _
  have g0 : hp w1 n0 = some (.cells #[lptr l] 23 (0, 0)) := by subst hw1 hn0; simp [go_sem, lptr]
  have g1 : hp w1 (n0 + 1) = some (.cells #[lptr r] 57 (0, 0)) := by subst hw1 hn0; simp [go_sem, lptr]
  have g2 : hp w1 (n0 + 2) = some (.cells #[.bool false] 4 (0, 0)) := by subst hw1 hn0; simp [go_sem]
  have g3 : hp w1 (n0 + 3) = some (.cells #[.int .i64 0] 3 (0, 0)) := by subst hw1 hn0; simp [go_sem]
  have q1 := h.mod m1 fun _ _ h => h
  refine ca_accounts q1 fun gv1 w4 tl1 m4 => ?_
  obtain ⟨f1, cap1, rfl⟩ := tl1.fn
  simp [go_sem, eql_func_nil tSeqA, hp_of (m4.keep g0 id)]
  refine ca_accounts (q1.mod m4 fun _ _ h => h) fun gv2 w7 tl2 m7 => ?_
  obtain ⟨Ok, hit, hOk⟩ := tl2.out
  have m17 := m4.trans m7
  have m07 := m1.trans m17
  have g07 := m17.keep g0 id
  have g17 := m17.keep g1 id
  have g27 := m17.keep g2 id
  have g37 := m17.keep g3 id
  have l37 := lt_of_heap g37
  have e3 : ∀ o, Mod (fun _ => False) w7 ((w7.alloc (.deferred (some []))).alloc (.loop o)) := fun o => ((Mod.refl _ w7).alloc _).alloc _
  let J : (Nat → Prop) → Nat → World → Prop := fun Q j W => hp W (n0 + 3) = some (.cells #[.int .i64 j] 3 (0, 0)) ∧
      hp W w7.heap.size = some (.deferred (some [])) ∧ Mod (fun b => b = n0 + 3) w7 W ∧ ∀ b, Q b → w7.heap.size + 1 < b ∧ b < W.heap.size
  refine RFW_topN hit (by simp) J (fun _ _ => False) (fun o => hOk _ (e3 o)) ?_ ?_ ?_ ?_ (fun _ _ _ h => h.elim)
  · intro o Q W1 mo hQ
    have m71 := (e3 o).trans mo
    have hd : hp ((w7.alloc (.deferred (some []))).alloc (.loop o)) w7.heap.size = some (.deferred (some [])) := by simp [go_sem]
    exact ⟨m71.keep g37 id, mo.keep hd id, m71.mono fun _ _ h => h.elim, hQ⟩
  · rintro Q j W1 W2 ⟨j2, j4, j6, j7⟩ mm
    exact ⟨mm.keep j2 (by omega), mm.keep j4 (by omega), j6.on mm fun b hb => .inr (by omega), fun b hb => ⟨(j7 b hb).1, Nat.lt_of_lt_of_le (j7 b hb).2 mm.size⟩⟩
  · rintro Q j x W1 r1 hx ⟨j2, j4, j6, j7⟩ hrec hready KN' KJ' hKN' hKJ'
    obtain ⟨p, hpi, rfl⟩ : ∃ p, S.all[j]? = some p ∧ x = [acV p] := by
      simp only [List.getElem?_map] at hx
      cases hh : S.all[j]? with
      | none => rw [hh] at hx; cases hx
      | some p => rw [hh] at hx; exact ⟨p, rfl, (Option.some.inj hx).symm⟩
    obtain ⟨hjl, hpe⟩ := List.getElem?_eq_some_iff.1 hpi
    obtain ⟨rc, hrc⟩ : ∃ rc, rc = w7.heap.size + 1 := ⟨_, rfl⟩
    rw [← hrc] at hrec hKN' j7 ⊢
    have hrl := lt_of_heap hrec
    unfold R31_8
    obtain ⟨na, hna⟩ : ∃ na, na = W1.heap.size := ⟨_, rfl⟩
    simp [go_sem, acV]
    refine beginK_of (r := r1) ?_ hready ?_
    · rw [heap_alloc, if_neg (by omega)]
      exact hrec
    rw [← hna]
    generalize hW2 : World.putObj _ _ _ = W2
    have m2' : Mod (fun b => b = rc) W1 W2 := by subst hW2; exact ((Mod.refl (fun b => b = rc) W1).alloc _).putObj (b := rc) (.inl rfl) _
    have m72 : Mod (fun b => b = n0 + 3) w7 W2 := j6.on m2' fun b hb => .inr (by omega)
    have k0 : hp W2 n0 = some (.cells #[lptr l] 23 (0, 0)) := m72.keep g07 (by omega)
    have k1 : hp W2 (n0 + 1) = some (.cells #[lptr r] 57 (0, 0)) := m72.keep g17 (by omega)
    have k2 : hp W2 (n0 + 2) = some (.cells #[.bool false] 4 (0, 0)) := m72.keep g27 (by omega)
    have k3 : hp W2 (n0 + 3) = some (.cells #[.int .i64 j] 3 (0, 0)) := m2'.keep j2 (by omega)
    have ka : hp W2 na = some (.cells #[.int .u32 p.num, .int .i64 p.cash, .bool p.kil, .bool p.dfl] 34 (0, 0)) := by
      subst hW2 hna
      rw [hp_putObj, if_neg (by omega)]
      simp [go_sem]
    have kr : W2.heap[rc]? = some (.loop { r1 with state := .busy }) := by
      subst hW2
      rw [heap_putObj, if_pos rfl, heap_alloc, if_neg (by omega), hrec]
      rfl
    have kq : ∀ b, Q b → W2.heap[b]? = W1.heap[b]? := fun b hb => by
      have := j7 b hb
      subst hW2
      rw [heap_putObj, if_neg (by omega), heap_alloc, if_neg (by omega)]
    have m02 : Mod (fun _ => False) w W2 := m07.on m72 fun b hb => .inr (by omega)
    have q2 := h.mod m02 fun _ _ h => h
    have r2 := h'.modF m02
    have lka := lt_of_heap ka
    have hka : w7.heap.size < na := by have := j6.size; omega
    refine JoinW.at (fun s W' => s = (.bool false, ()) ∧ W' = W2.drew) ?_ ?_
    · obtain ⟨⟨sA, sH, h1, h2, -, -, -⟩, -, -⟩ := r2
      obtain ⟨b, off, cap, C, e', fz, e, hC, c0, c1, c2, c3⟩ := rdAc h2 hjl
      rw [hpe] at c0 c1 c2 c3
      subst e
      simp [-Int.natCast_add, go_sem, lptr, hp_of k0, hp_of k1, hp_of k3, hp_of ka, hp_of h1, hC, c0, c1, c2, c3, hjl]
    rintro _ _ ⟨rfl, rfl⟩
    unfold J31_3
    intro _
    have hw := wr_add1 (i := j) (by omega)
    obtain ⟨nk, hnk⟩ : ∃ nk, nk = W2.heap.size := ⟨_, rfl⟩
    have lk2 : na < nk := by omega
    simp [-Int.natCast_add, go_sem, ← hnk, lptr, hp_of k0, hp_of k1, hp_of k3, hp_of ka, hw, show n0 + 1 ≠ nk by omega, show na ≠ nk by omega, show na ≠ n0 + 3 by omega]
    generalize hW3 : World.drew (World.alloc _ _) = W3
    have m23 : Mod (fun b => b = n0 + 3) W2 W3 := by subst hW3; exact (((Mod.refl (fun b => b = n0 + 3) W2).setCell (b := n0 + 3) (.inl rfl) _ _).alloc _).drew
    have b3 : hp W3 (n0 + 3) = some (.cells #[.int .i64 ((j + 1 : Nat) : Int)] 3 (0, 0)) := by subst hW3; simp [-Int.natCast_add, go_sem, hp_of k3, ← hnk, show n0 + 3 ≠ nk by omega]
    have bk : hp W3 nk = some (.cells #[.int .i64 0] 3 (0, 0)) := by subst hW3 hnk; simp [go_sem]
    have b0 := m23.keep k0 (by omega)
    have b1 := m23.keep k1 (by omega)
    have b2 := m23.keep k2 (by omega)
    have ba := m23.keep ka (by omega)
    have br := m23.keep kr (by omega)
    have m03 : Mod (fun _ => False) w W3 := m02.on m23 fun b hb => .inr (by omega)
    have q3 := h.mod m03 fun _ _ h => h
    have r3 := h'.modF m03
    have hHl : (S.ofA p.num).length ≤ S.held.length := List.length_filter_le ..
    refine ca_rof r3 (by omega) fun W4 v o4 f4 m4 => ?_
    obtain ⟨sa, sc, rfl, -⟩ := o4.isSl
    have b0 := m4.keep b0 id
    have b1 := m4.keep b1 id
    have b2 := m4.keep b2 id
    have b3 := m4.keep b3 id
    have bk := m4.keep bk id
    have ba := m4.keep ba id
    have br := m4.keep br id
    have lk4 := lt_of_heap bk
    obtain ⟨no, hno⟩ : ∃ no, no = W4.heap.size := ⟨_, rfl⟩
    simp [go_sem, lptr, hp_of b0, hp_of b1, hp_of b2, hp_of b3, hp_of ba, ← hno, show n0 ≠ no by omega, show na ≠ no by omega]
    generalize hW5 : World.alloc _ _ = W5
    have m45 : Mod (fun _ => False) W4 W5 := by subst hW5; exact (Mod.refl _ W4).alloc _
    have bo : hp W5 no = some (.cells #[.slice sa (S.ofA p.num).length sc] 59 (0, 0)) := by subst hW5 hno; simp [go_sem]
    have b0 := m45.keep b0 id
    have b1 := m45.keep b1 id
    have b2 := m45.keep b2 id
    have b3 := m45.keep b3 id
    have bk := m45.keep bk id
    have ba := m45.keep ba id
    have br := m45.keep br id
    have q5 := (q3.mod m4 fun _ _ h => h).mod m45 fun _ _ h => h
    refine ca_held q5 (by omega) fun gv5 W6 tl5 m6 => ?_
    obtain ⟨f5, cap5, rfl⟩ := tl5.fn
    have b0 := m6.keep b0 id
    have ba := m6.keep ba id
    simp [go_sem, eql_func_nil tSeqP, lptr, hp_of b0, hp_of ba]
    refine ca_held (q5.mod m6 fun _ _ h => h) (by omega) fun gv6 W7 tl6 m7' => ?_
    obtain ⟨Ok6, hit6, hOk6⟩ := tl6.out
    have m57 := m6.trans m7'
    have bo := m57.keep bo id
    have b0 := m7'.keep b0 id
    have b1 := m57.keep b1 id
    have b2 := m57.keep b2 id
    have b3 := m57.keep b3 id
    have bk := m57.keep bk id
    have br := m57.keep br id
    have o7 := o4.mod (m45.trans m57) fun _ _ h => h
    have lv : ∀ b, inSl (.slice sa (S.ofA p.num).length sc) b → nk < b ∧ b < no := fun b hb => by
      have := o4.lt hb
      have := f4 b hb
      have := lt_of_heap (show hp W3 nk = _ by subst hW3 hnk; simp [go_sem]; rfl)
      omega
    have m37 : Mod (fun _ => False) W3 W7 := (m4.trans m45).trans m57
    have lo7 := lt_of_heap bo
    generalize S.ofA p.num = H at *
    have e7 : ∀ o, Mod (fun _ => False) W7 (W7.alloc (.loop o)) := fun o => (Mod.refl _ W7).alloc _
    have m17' : Mod (fun b => b = n0 + 3 ∨ b = rc) W1 W7 := ((m2'.mono fun b _ hb => .inr hb).trans (m23.mono fun b _ hb => .inl hb)).trans (m37.mono fun _ _ h => h.elim)
    have hQ7 : ∀ b, Q b → W7.heap[b]? = W1.heap[b]? := fun b hb => by
      have hb7 := j7 b hb
      exact m17'.blk b hb7.2 (by omega)
    let J2 : (Nat → Prop) → Nat → World → Prop := fun Q i W => hp W nk = some (.cells #[.int .i64 i] 3 (0, 0)) ∧ Mod (fun b => b = nk) W7 W ∧ ∀ b, Q b → W7.heap.size < b ∧ b < W.heap.size
    refine RFW_inN (l0 := rc) (r0 := { r1 with state := .busy }) br hit6 (by simp) J2 (fun _ _ => False) (fun o => hOk6 _ (e7 o)) ?_ ?_ ?_ ?_ (fun _ _ _ h => h.elim)
    · intro o Q' W8 mo hQ'
      exact ⟨((e7 o).trans mo).keep bk id, ((e7 o).trans mo).mono fun _ _ h => h.elim, hQ'⟩
    · rintro Q' i W8 W9 ⟨i1, i2, i3⟩ mm
      exact ⟨mm.keep i1 (by omega), i2.on mm fun b hb => .inr (by omega), fun b hb => ⟨(i3 b hb).1, Nat.lt_of_lt_of_le (i3 b hb).2 mm.size⟩⟩
    · rintro Q' i x W8 r2' hx ⟨i1, i2, i3⟩ hrec2 hready2 KN2 KJ2 hKN2 hKJ2
      obtain ⟨p2, hpi2, rfl⟩ : ∃ p, H[i]? = some p ∧ x = [poV p] := by
        simp only [List.getElem?_map] at hx
        cases hh : H[i]? with
        | none => rw [hh] at hx; cases hx
        | some p => rw [hh] at hx; exact ⟨p, rfl, (Option.some.inj hx).symm⟩
      obtain ⟨hil, hpe2⟩ := List.getElem?_eq_some_iff.1 hpi2
      obtain ⟨rd, hrd⟩ : ∃ rd, rd = W7.heap.size := ⟨_, rfl⟩
      rw [← hrd] at hrec2 hKN2 i3 ⊢
      have hrdl := lt_of_heap hrec2
      unfold R31_1
      obtain ⟨np, hnp⟩ : ∃ np, np = W8.heap.size := ⟨_, rfl⟩
      simp [go_sem, poV]
      refine beginK_of (r := r2') ?_ hready2 ?_
      · rw [heap_alloc, if_neg (by omega)]
        exact hrec2
      rw [← hnp]
      generalize hW9 : World.putObj _ _ _ = W9
      have m9' : Mod (fun b => b = rd) W8 W9 := by subst hW9; exact ((Mod.refl (fun b => b = rd) W8).alloc _).putObj (b := rd) (.inl rfl) _
      have c0 : hp W9 (n0 + 2) = some (.cells #[.bool false] 4 (0, 0)) := m9'.keep (i2.keep b2 (by omega)) (by omega)
      have c1 := m9'.keep (i2.keep bo (by omega)) (by omega)
      have c2 : hp W9 nk = some (.cells #[.int .i64 i] 3 (0, 0)) := m9'.keep i1 (by omega)
      have c3 : hp W9 np = some (.cells #[.int .u32 p2.c, .int .u32 p2.a, .int .i64 p2.q, .int .i64 p2.b] 31 (0, 0)) := by
        subst hW9 hnp
        rw [hp_putObj, if_neg (by omega)]
        simp [go_sem]
      have c4 : W9.heap[rd]? = some (.loop { r2' with state := .busy }) := by
        subst hW9
        rw [heap_putObj, if_pos rfl, heap_alloc, if_neg (by omega), hrec2]
        rfl
      have cO := (o7.mod i2 fun b hb e => by have := lv b hb; omega).mod m9' fun b hb e => by have := lv b hb; omega
      have cq : ∀ b, Q' b → W9.heap[b]? = W8.heap[b]? := fun b hb => by
        have := i3 b hb
        exact m9'.blk b this.2 (by omega)
      refine JoinW.at (fun s W' => s = (.bool false, ()) ∧ W' = W9.drew) ?_ ?_
      · obtain ⟨b', cap', hsl', hAt'⟩ := Own.elem cO hil
        injection hsl' with e1 e2 e3
        subst e1 e3
        rw [flat_get cellsPo 4 _ _ (fun _ _ => rfl) hil, hpe2] at hAt'
        obtain ⟨D, e', fz', hD, hDg⟩ := hAt'.get
        have hD0 := hDg 0 _ rfl
        have hD1 := hDg 1 _ rfl
        have hD2 := hDg 2 _ rfl
        have hD3 := hDg 3 _ rfl
        (try simp only [Nat.zero_add, Nat.add_zero] at hD0 hD1 hD2 hD3)
        simp [-Int.natCast_add, go_sem, hp_of c0, hp_of c1, hp_of c2, hp_of c3, hD, hD0, hD1, hD2, hD3, hil]
      rintro _ _ ⟨rfl, rfl⟩
      unfold J31_0
      intro _
      have hw2 := wr_add1 (i := i) (by omega)
      simp [-Int.natCast_add, go_sem, hp_of c2, hw2]
      have mm : Mod (fun b => b = nk) W9 (W9.drew.setCell ⟨nk, 0, none⟩ (.int .i64 ((i + 1 : Nat) : Int))) := ((Mod.refl (fun b => b = nk) W9).drew).setCell (b := nk) (.inl rfl) _ _
      have m12 : Mod (fun b => b = nk ∨ b = rd) W8 _ := (m9'.mono fun b _ hb => .inr hb).trans (mm.mono fun b _ hb => .inl hb)
      refine hKN2 _ ?_ ?_ ?_
      · refine ⟨by simp [go_sem, hp_of c2], i2.on m12 fun b hb => ?_, fun b hb => ⟨by have := (i3 b hb).1; omega, Nat.lt_of_lt_of_le (i3 b hb).2 m12.size⟩⟩
        rcases hb with hb | hb
        · exact .inl hb
        · exact .inr (by omega)
      · exact mm.keep c4 (by omega)
      · intro b hb
        have hb7 := i3 b hb
        exact m12.blk b hb7.2 (by omega)
    · rintro Q' W8 o ⟨i1, i2, i3⟩
      rw [List.length_map] at i1
      generalize hW9 : W8.putObj W7.heap.size (.loop o) = W9
      have m9 : Mod (fun b => b = W7.heap.size) W8 W9 := by subst hW9; exact (Mod.refl (fun b => b = W7.heap.size) W8).putObj (.inl rfl) _
      have m79 : Mod (fun b => b = nk) W7 W9 := i2.on m9 fun b hb => .inr (by omega)
      have c1 := m79.keep bo (by omega)
      have c2 := m9.keep i1 (by omega)
      have c3 := m79.keep b3 (by omega)
      have c4 := m79.keep br (by omega)
      unfold A31_2
      simp only [afterK]
      simp [go_sem, hp_of c2, hp_of c1]
      have m19 : Mod (fun b => b = n0 + 3 ∨ b = rc) W1 W9 := m17'.on m79 fun b hb => .inr (by omega)
      refine hKN' _ ?_ c4 fun b hb => ?_
      · refine ⟨c3, m19.keep j4 (by omega), j6.on m19 fun b hb => ?_, fun b hb => ⟨by have := (j7 b hb).1; omega, Nat.lt_of_lt_of_le (j7 b hb).2 m19.size⟩⟩
        rcases hb with hb | hb
        · exact .inl hb
        · exact .inr (by omega)
      · have hb7 := j7 b hb
        exact m19.blk b hb7.2 (by omega)
  · rintro Q W1 o ⟨j2, j4, j6, j7⟩
    rw [List.length_map] at j2
    generalize hw8 : W1.putObj (w7.heap.size + 1) (.loop o) = w8
    have m8 : Mod (fun b => b = w7.heap.size + 1) W1 w8 := by subst hw8; exact (Mod.refl (fun b => b = w7.heap.size + 1) W1).putObj (.inl rfl) _
    have m78 : Mod (fun b => b = n0 + 3) w7 w8 := j6.on m8 fun b hb => .inr (by omega)
    have m08 : Mod (fun _ => False) w w8 := m07.on m78 fun b hb => .inr (by omega)
    have q8 := h.mod m08 fun _ _ h => h
    have k3 := m8.keep j2 (by omega)
    have k4 := m8.keep j4 (by omega)
    have k0 := m78.keep g07 (by omega)
    have k1 := m78.keep g17 (by omega)
    have k2 := m78.keep g27 (by omega)
    unfold A31_9
    simp only [afterK]
    simp [go_sem, hp_of k0, lptr]
    refine ca_accounts q8 fun gv3 w9 tl3 m9 => ?_
    obtain ⟨f3, cap3, rfl⟩ := tl3.fn
    simp [go_sem, eql_func_nil tSeqA, hp_of (m9.keep k0 id), lptr]
    refine ca_accounts (q8.mod m9 fun _ _ h => h) fun gv4 w10 tl4 m10 => ?_
    obtain ⟨Ok4, hit4, hOk4⟩ := tl4.out
    have m810 := m9.trans m10
    have k0' := m810.keep k0 id
    have k1' := m810.keep k1 id
    have k2' := m810.keep k2 id
    have k3' := m810.keep k3 id
    have k4' := m810.keep k4 id
    have m010 := m08.trans m810
    have q10 := h.mod m010 fun _ _ h => h
    have r10 := h'.modF m010
    have l4' := lt_of_heap k4'
    have e10 : ∀ o, Mod (fun _ => False) w10 ((w10.alloc (.deferred (some []))).alloc (.loop o)) := fun o => ((Mod.refl _ w10).alloc _).alloc _
    let J3 : World → Prop := fun W => hp W w10.heap.size = some (.deferred (some [])) ∧ Mod (fun _ => False) w10 W ∧ True
    refine RFW_topN hit4 (by simp) (fun _ _ W => J3 W) (fun c W => c = .exit 4 ∧ J3 W) (fun o => hOk4 _ (e10 o)) ?_ ?_ ?_ ?_ ?_
    · intro o Q W1 mo hQ
      have hd : hp ((w10.alloc (.deferred (some []))).alloc (.loop o)) w10.heap.size = some (.deferred (some [])) := by simp [go_sem]
      exact ⟨mo.keep hd id, (e10 o).trans mo, trivial⟩
    · rintro Q j W1 W2 ⟨i1, i2, i3⟩ mm
      exact ⟨mm.keep i1 (by omega), i2.on mm fun b hb => .inr (by omega), i3⟩
    · rintro Q j x W1 r1 hx ⟨i1, i2, i3⟩ hrec hready KN' KJ' hKN' hKJ'
      unfold R31_4
      refine beginK_of (r := r1) hrec hready ?_
      have mm : Mod (fun b => b = w10.heap.size + 1) W1 (W1.putObj (w10.heap.size + 1) (.loop { r1 with state := .busy })) := (Mod.refl (fun b => b = w10.heap.size + 1) W1).putObj (.inl rfl) _
      refine hKJ' _ _ ⟨rfl, mm.keep i1 (by omega), i2.on mm fun b hb => .inr (by omega), i3⟩ ?_
      rw [heap_putObj, if_pos rfl, hrec]
      rfl
    · rintro Q W1 o hINV
      generalize hw11 : W1.putObj (w10.heap.size + 1) (.loop o) = w11
      have mm : Mod (fun b => b = w10.heap.size + 1) W1 w11 := by subst hw11; exact (Mod.refl (fun b => b = w10.heap.size + 1) W1).putObj (.inl rfl) _
      obtain ⟨i1, i2, i3⟩ := hINV
      have m11 : Mod (fun _ => False) w10 w11 := i2.on mm fun b hb => .inr (by omega)
      have i1' := mm.keep i1 (by omega)
      have z0 := m11.keep k0' id
      have z1 := m11.keep k1' id
      have z2 := m11.keep k2' id
      have z3 := m11.keep k3' id
      have z4 := m11.keep k4' id
      have q11 := q10.mod m11 fun _ _ h => h
      have r11 := r10.modF m11
      have l1' := lt_of_heap i1'
      unfold A31_5
      simp only [afterK]
      simp [go_sem, hp_of z0, lptr]
      refine ca_get q11 fun w12 m12 => ?_
      have y0 := m12.keep z0 id
      have y1 := m12.keep z1 id
      have y2 := m12.keep z2 id
      have y3 := m12.keep z3 id
      have y4 := m12.keep z4 id
      have y5 := m12.keep i1' id
      have r12 := r11.modF m12
      have q12 := q11.mod m12 fun _ _ h => h
      have hg : S.getV 0 = (fundAc S.fund, 0) := rfl
      obtain ⟨ne, hne⟩ : ∃ ne, ne = w12.heap.size := ⟨_, rfl⟩
      have l12 : n0 + 3 < ne := by have := lt_of_heap y3; omega
      have l12r : r < ne := by have := r12.lt'; omega
      have r12o := r12
      obtain ⟨⟨sA, sH, h1, h2, -, -, -⟩, -, -⟩ := r12o
      obtain ⟨aA, cA, rfl⟩ := h2.isSl
      simp only [hg, acV, fundAc]
      simp [-Int.natCast_add, go_sem, lptr, ← hne, hp_of y3, hp_of y1, hp_of y0, hp_of h1, show n0 + 3 ≠ ne by omega, show n0 + 1 ≠ ne by omega, show n0 ≠ ne by omega, show r ≠ ne by omega]
      generalize hw13 : World.alloc _ _ = w13
      have m13 : Mod (fun _ => False) w12 w13 := by subst hw13; exact (Mod.refl _ w12).alloc _
      have xe : hp w13 ne = some (.cells #[.int .u32 0, .int .i64 S.fund, .bool false, .bool false] 34 (0, 0)) := by subst hw13 hne; simp [go_sem]
      have x0 := m13.keep y0 id
      have x1 := m13.keep y1 id
      have x2 := m13.keep y2 id
      have x3 := m13.keep y3 id
      have x4 := m13.keep y4 id
      have x5 := m13.keep y5 id
      have h1 := m13.keep h1 id
      have r13 := r12.modF m13
      have q13 := q12.mod m13 fun _ _ h => h
      refine ca_funds (q13.mod ((Mod.refl (fun _ => False) w13).drew) fun _ _ h => h) fun w14 m14' => ?_
      have m14 : Mod (fun _ => False) w13 w14 := ((Mod.refl _ w13).drew).trans m14'
      have v0 := m14.keep x0 id
      have v1 := m14.keep x1 id
      have v2 := m14.keep x2 id
      have v4 := m14.keep x4 id
      have v5 := m14.keep x5 id
      have ve := m14.keep xe id
      have vr := m14.keep h1 id
      simp [go_sem, lptr, hp_of v1]
      refine ca_rfunds (r13.modF m14) hok ?_
      simp [go_sem, lptr, hp_of v1, hp_of ve, hp_of vr, hp_of v2]
      have ms : Mod (fun b => b = n0 + 2) w14 (w14.setCell ⟨n0 + 2, 0, none⟩ (.bool true)) := (Mod.refl (fun b => b = n0 + 2) w14).setCell (b := n0 + 2) (.inl rfl) _ _
      have v2' : hp (w14.setCell ⟨n0 + 2, 0, none⟩ (.bool true)) (n0 + 2) = some (.cells #[.bool true] 4 (0, 0)) := by simp [go_sem, hp_of v2]
      refine retD_all ?_ ?_ fun w' m' => ?_
      · simp; omega
      · intro d hd'
        simp only [List.append_nil, List.mem_append, List.mem_singleton, List.mem_cons, List.not_mem_nil, or_false] at hd'
        rcases hd' with rfl | rfl
        · exact ms.keep v5 (by omega)
        · exact ms.keep v4 (by omega)
      have hds : ∀ b, b ∈ [w10.heap.size, w7.heap.size] → w.heap.size ≤ b ∧ b ≠ n0 + 2 := by
        intro b hb
        have := m07.size
        have := m010.size
        simp only [List.mem_cons, List.not_mem_nil, or_false] at hb
        rcases hb with rfl | rfl <;> omega
      simp [go_sem, hp_of (m'.keep v2' fun hb => (hds _ (by simpa using hb)).2 rfl)]
      exact hK _ ((((((m010.trans m11).trans m12).trans m13).trans m14).on ms fun b hb => .inr (by omega)).on m' fun b hb => .inr (hds b (by simpa using hb)).1)
    · rintro cc W1 o ⟨rfl, hINV⟩
      generalize hw11 : W1.putObj (w10.heap.size + 1) (.loop o) = w11
      have mm : Mod (fun b => b = w10.heap.size + 1) W1 w11 := by subst hw11; exact (Mod.refl (fun b => b = w10.heap.size + 1) W1).putObj (.inl rfl) _
      obtain ⟨i1, i2, i3⟩ := hINV
      have m11 : Mod (fun _ => False) w10 w11 := i2.on mm fun b hb => .inr (by omega)
      have i1' := mm.keep i1 (by omega)
      have z0 := m11.keep k0' id
      have z1 := m11.keep k1' id
      have z2 := m11.keep k2' id
      have z3 := m11.keep k3' id
      have z4 := m11.keep k4' id
      have q11 := q10.mod m11 fun _ _ h => h
      have r11 := r10.modF m11
      have l1' := lt_of_heap i1'
      unfold A31_5
      simp only [afterK]
      simp [go_sem, hp_of z0, lptr]
      refine ca_get q11 fun w12 m12 => ?_
      have y0 := m12.keep z0 id
      have y1 := m12.keep z1 id
      have y2 := m12.keep z2 id
      have y3 := m12.keep z3 id
      have y4 := m12.keep z4 id
      have y5 := m12.keep i1' id
      have r12 := r11.modF m12
      have q12 := q11.mod m12 fun _ _ h => h
      have hg : S.getV 0 = (fundAc S.fund, 0) := rfl
      obtain ⟨ne, hne⟩ : ∃ ne, ne = w12.heap.size := ⟨_, rfl⟩
      have l12 : n0 + 3 < ne := by have := lt_of_heap y3; omega
      have l12r : r < ne := by have := r12.lt'; omega
      have r12o := r12
      obtain ⟨⟨sA, sH, h1, h2, -, -, -⟩, -, -⟩ := r12o
      obtain ⟨aA, cA, rfl⟩ := h2.isSl
      simp only [hg, acV, fundAc]
      simp [-Int.natCast_add, go_sem, lptr, ← hne, hp_of y3, hp_of y1, hp_of y0, hp_of h1, show n0 + 3 ≠ ne by omega, show n0 + 1 ≠ ne by omega, show n0 ≠ ne by omega, show r ≠ ne by omega]
      generalize hw13 : World.alloc _ _ = w13
      have m13 : Mod (fun _ => False) w12 w13 := by subst hw13; exact (Mod.refl _ w12).alloc _
      have xe : hp w13 ne = some (.cells #[.int .u32 0, .int .i64 S.fund, .bool false, .bool false] 34 (0, 0)) := by subst hw13 hne; simp [go_sem]
      have x0 := m13.keep y0 id
      have x1 := m13.keep y1 id
      have x2 := m13.keep y2 id
      have x3 := m13.keep y3 id
      have x4 := m13.keep y4 id
      have x5 := m13.keep y5 id
      have h1 := m13.keep h1 id
      have r13 := r12.modF m13
      have q13 := q12.mod m13 fun _ _ h => h
      refine ca_funds (q13.mod ((Mod.refl (fun _ => False) w13).drew) fun _ _ h => h) fun w14 m14' => ?_
      have m14 : Mod (fun _ => False) w13 w14 := ((Mod.refl _ w13).drew).trans m14'
      have v0 := m14.keep x0 id
      have v1 := m14.keep x1 id
      have v2 := m14.keep x2 id
      have v4 := m14.keep x4 id
      have v5 := m14.keep x5 id
      have ve := m14.keep xe id
      have vr := m14.keep h1 id
      simp [go_sem, lptr, hp_of v1]
      refine ca_rfunds (r13.modF m14) hok ?_
      simp [go_sem, lptr, hp_of v1, hp_of ve, hp_of vr, hp_of v2]
      have ms : Mod (fun b => b = n0 + 2) w14 (w14.setCell ⟨n0 + 2, 0, none⟩ (.bool true)) := (Mod.refl (fun b => b = n0 + 2) w14).setCell (b := n0 + 2) (.inl rfl) _ _
      have v2' : hp (w14.setCell ⟨n0 + 2, 0, none⟩ (.bool true)) (n0 + 2) = some (.cells #[.bool true] 4 (0, 0)) := by simp [go_sem, hp_of v2]
      refine retD_all ?_ ?_ fun w' m' => ?_
      · simp; omega
      · intro d hd'
        simp only [List.append_nil, List.mem_append, List.mem_singleton, List.mem_cons, List.not_mem_nil, or_false] at hd'
        rcases hd' with rfl | rfl
        · exact ms.keep v5 (by omega)
        · exact ms.keep v4 (by omega)
      have hds : ∀ b, b ∈ [w10.heap.size, w7.heap.size] → w.heap.size ≤ b ∧ b ≠ n0 + 2 := by
        intro b hb
        have := m07.size
        have := m010.size
        simp only [List.mem_cons, List.not_mem_nil, or_false] at hb
        rcases hb with rfl | rfl <;> omega
      simp [go_sem, hp_of (m'.keep v2' fun hb => (hds _ (by simpa using hb)).2 rfl)]
      exact hK _ ((((((m010.trans m11).trans m12).trans m13).trans m14).on ms fun b hb => .inr (by omega)).on m' fun b hb => .inr (hds b (by simpa using hb)).1)
end Go.Proofs
