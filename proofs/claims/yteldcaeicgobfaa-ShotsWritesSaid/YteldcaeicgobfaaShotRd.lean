/-
  The walk of ShotsReads.
  Conditions: where they ask for any, each theorem names them.
-/
import Derived.Test.YteldcaeicgobfaaShotY2
set_option linter.unusedVariables false
set_option linter.unusedSimpArgs false
namespace Go.Proofs
open Go Go.Vc

theorem bothC_ok {C0 C1 : Nat → Sec} (h0 : ∀ i, (C0 i).length = 128) (h1 : ∀ i, (C1 i).length = 128) : (bothC C0 C1).1.data.length ≤ 524288 ∧ ((bothC C0 C1).1.idx = 0 → (bothC C0 C1).1 = shot0) ∧ (bothC C0 C1).2 ≤ 1 := by
  have one : ∀ C : Nat → Sec, (∀ i, (C i).length = 128) → (countF C).data.length ≤ 524288 ∧ ((countF C).idx = 0 → countF C = shot0) := fun C h => ⟨(counted_ok C h _).2.2, (counted_ok C h _).2.1⟩
  unfold bothC
  split
  · exact ⟨(one C1 h1).1, (one C1 h1).2, by omega⟩
  · split
    · exact ⟨by simp [shot0], fun _ => rfl, by omega⟩
    · exact ⟨(one C0 h0).1, (one C0 h0).2, by omega⟩
theorem readB_file {D : DM} {f : Int} {C : Nat → Sec} (hw : D.waits = []) (h : CF D f = C) (k : Nat) : D.readB f 0 k = (List.range k).flatMap C := by
  rw [readB_now hw, ← h]
  unfold CF
  simp
/-- The bytes of a row of its own, each one more. -/
theorem u8_inc (u : UInt8) : IntKind.u8.wrap ((u.toNat : Int) + 1) = ((u + 1).toNat : Int) := by
  rw [IntKind.wrap_u8, UInt8.toNat_add]
  simp
/-- A row filled with noughts, appended. -/
theorem padded {w : World} {K : Kont} {a m : Value} {A : List UInt8} (hA : Rd w 1 a A.length (bv A)) (hm : Rd w 1 m 25600 (bv (List.replicate 25600 0))) (hl : A.length ≤ 24400) (hK : ∀ v w', Nw w w' v (A.length + 25600) (A ++ List.replicate 25600 0) → K v w') :
    rx Try.prog (xLit 23 0 []) w fun v31 w32 => rx Try.prog (xAppend #[23, 23] 23 [v31, a]) w32 fun v33 w34 => rx Try.prog (xAppend #[23, 23] 23 [v33, m]) w34 K := by
  refine lit0 fun v0 W0 o0 m0 n0 => ?_
  have A0 : Nw w W0 v0 0 [] := ⟨o0, m0, n0⟩
  refine nw_append (l' := A) A0 (hA.mod m0 fun _ _ h => h) (by omega) fun v2 W2 A2 m2 => ?_
  simp only [Nat.zero_add, List.nil_append] at A2
  exact nw_append A2 (hm.mod A2.mod fun _ _ h => h) (by omega) fun v3 W3 A3 m3 => hK _ _ A3

set_option maxRecDepth 10000 in
theorem ca_shotsReads {w : World} {K : Kont} {a0 a1 : Value} {A0 B0 : List UInt8} (h0 : Rd w 1 a0 A0.length (bv A0)) (h1 : Rd w 1 a1 B0.length (bv B0)) (hK : ∀ w', Mod (fun _ => False) w w' → K (.bool true) w') : Ca Try.prog 12 #[a0, a1] w K := by
  obtain ⟨pa, ca_, rfl⟩ := h0.isSl
  obtain ⟨pb, cb_, rfl⟩ := h1.isSl
  apply ca12
  unfold F12
  refine joinK (fun s W => W = w ∧ s = (.bool (decide (20000 < A0.length ∨ 20000 < B0.length)), ())) (fun JJ hJJ => ?_) ?_
  · refine rn_len23 ?_
    refine rv_of (v := .bool (decide (20000 < A0.length))) (w' := w) (by simp [go_sem]; omega) ?_
    by_cases hl : 20000 < A0.length
    · rw [decide_eq_true hl, ifB_bool, if_pos rfl]
      exact hJJ _ _ ⟨rfl, by simp [hl]⟩
    · rw [decide_eq_false hl, ifB_bool, if_neg (by simp)]
      refine rn_len23 ?_
      refine rv_of (v := .bool (decide (20000 < B0.length))) (w' := w) (by simp [go_sem]; omega) ?_
      exact hJJ _ _ ⟨rfl, by simp [hl]⟩
  rintro _ W ⟨hW, rfl⟩
  subst hW
  unfold J12_3
  intro _
  by_cases hbig : 20000 < A0.length ∨ 20000 < B0.length
  · rw [decide_eq_true hbig, ifB_bool, if_pos rfl]
    exact ca_known21 hK
  rw [decide_eq_false hbig, ifB_bool, if_neg (by simp)]
  refine ca_whole21 h0 (by omega) fun va W1 NA => ?_
  have nwA := wholeN_le A0.length
  have nwB := wholeN_le B0.length
  have lA := wholeL_len A0
  have lB := wholeL_len B0
  generalize wholeL A0 = A at NA lA
  rw [← lA] at NA nwA
  refine ca_whole21 (h1.mod NA.mod fun _ _ h => h) (by omega) fun vb W2 NB => ?_
  generalize wholeL B0 = B at NB lB
  rw [← lB] at NB nwB
  clear lA lB
  obtain ⟨k, hA⟩ : ∃ k, A.length = 128 * k := ⟨A.length / 128, by omega⟩
  obtain ⟨l, hB⟩ : ∃ l, B.length = 128 * l := ⟨B.length / 128, by omega⟩
  have hk : 3 ≤ k ∧ k ≤ 200 := by omega
  have hl : 3 ≤ l ∧ l ≤ 200 := by omega
  have mw2 : Mod (fun _ => False) W W2 := NA.mod.trans NB.mod
  have rA2 : Rd W2 1 va A.length (bv A) := NA.own.rd.mod NB.mod fun _ _ h => h
  have rB2 : Rd W2 1 vb B.length (bv B) := NB.own.rd
  refine ca_laid21 rA2 rB2 hA hB (by omega) (by omega) fun W3 d F3 d3 m3 n3 => ?_
  obtain ⟨-, -, -, q1, q2, q3, q4, q5, -, -⟩ := laid_is hA hB (by omega) (by omega)
  generalize (lay3 A B).2 = D at d3 q1 q2 q3 q4 q5
  obtain ⟨o1, o2, o3, o4, o5, o6, o7, o8⟩ := open_any (fs := fs01) d3.len fs01_ne fs01_ok q1 q3 q2
  rw [show CF D (fs01 0) = secL A from q4] at o5 o6
  rw [show CF D (fs01 1) = secL B from q5] at o5 o7
  have bok := bothC_ok (secL_len hA) (secL_len hB)
  have hbo := bothL_is hA hB hk.1 hl.1
  rw [← o5] at bok hbo
  refine rv_of (v := dptr d) (w' := W3) (by simp [go_sem]) ?_
  refine rv_of (v := .bool true) (w' := W3) (by simp [go_sem]) ?_
  refine ca_sopen (fs := fs01) d3 (by rw [q3]; decide) (fun w' F' h => absurd o1 h) fun W4 F4 v G R _ d4 s4 hv nG => ?_
  generalize (D.sopen fs01).2 = X at d4 hv o2 o3 o4 o5 o6 o7 o8 bok hbo
  obtain ⟨D4, z, at_, cl, ms⟩ := X
  simp only at d4 hv o2 o3 o4 o5 o6 o7 o8 bok hbo
  obtain ⟨zl, z0, zat⟩ := bok
  have mw4 : Mod (fun _ => False) W W4 := (mw2.trans m3).on s4.mod fun y hy => .inr (by have := n3 y hy; have := mw2.size; omega)
  have m24 : Mod (fun _ => False) W2 W4 := m3.on s4.mod fun y hy => .inr (n3 y hy)
  refine rv_of (v := dptr v) (w' := W4) (by simp [go_sem]) ?_
  refine rv_of (v := .int .i64 0) (w' := W4) (by simp [go_sem]) ?_
  refine mk_zero (n := 25600) (c := 25600) (by omega) (by omega) fun W5 hz5 m5 => ?_
  have rz5 := (own_zero hz5 (c := 25600) List.length_replicate).rd
  generalize (Value.slice (some ⟨W4.heap.size, 0, none⟩) 25600 25600) = vz at rz5 ⊢
  have m25 := m24.trans m5
  refine padded (rA2.mod m25 fun _ _ h => h) rz5 (by omega) fun v35 W6 N6 => ?_
  have m26 := m25.trans N6.mod
  refine padded (rB2.mod m26 fun _ _ h => h) (rz5.mod N6.mod fun _ _ h => h) (by omega) fun v41 W7 N7 => ?_
  have lZ : ∀ L : List UInt8, (L ++ List.replicate 25600 (0 : UInt8)).length = L.length + 25600 := fun L => by rw [List.length_append, List.length_replicate]
  refine ca_both21 (A := A ++ List.replicate 25600 0) (B := B ++ List.replicate 25600 0) (by rw [lZ]; exact N6.own.rd.mod N7.mod fun _ _ h => h) (by rw [lZ]; exact N7.own.rd) (by rw [lZ]; omega) (by rw [lZ]; omega) fun W8 sx rx8 m8 fx => ?_
  rw [hbo] at rx8 ⊢
  obtain ⟨x, hx⟩ : ∃ x, (if z.idx = 0 then (shot0, (-1 : Int)) else (z, (at_ : Int))).1 = x := ⟨_, rfl⟩
  obtain ⟨n, hn⟩ : ∃ n, (if z.idx = 0 then (shot0, (-1 : Int)) else (z, (at_ : Int))).2 = n := ⟨_, rfl⟩
  have hxz : x = z := by
    rw [← hx]
    by_cases h : z.idx = 0
    · rw [if_pos h]; exact (z0 h).symm
    · rw [if_neg h]
  have hnz : n = if z.idx = 0 then -1 else (at_ : Int) := by
    rw [← hn]
    by_cases h : z.idx = 0
    · rw [if_pos h, if_pos h]
    · rw [if_neg h, if_neg h]
  rw [hx] at rx8 ⊢
  rw [hn]
  subst hxz
  clear hx hn hbo
  obtain ⟨xa, xc, rfl⟩ := rx8.isSl
  have m48 := ((m5.trans N6.mod).trans N7.mod).trans m8
  refine rv_of (v := .agg (shotC x (.slice xa x.data.length xc)).toArray) (w' := W8) (by simp [go_sem]) ?_
  refine rv_of (v := .int .i64 n) (w' := W8) (by simp [go_sem]) ?_
  refine rv_shvar fun W9 p m9 hp9 h9 z9 => ?_
  refine ru_shot h9 ⟨_, _, _, rfl⟩ fun W10 m10 h10 => ?_
  have m810 : Mod (fun _ => False) W8 W10 := m9.on m10 fun b hb => .inr (by omega)
  have rx10 : ShR W10 x (.slice xa x.data.length xc) := rx8.mod m810 fun _ _ h => h
  have m410 := m48.trans m810
  have hv10 := hv.mod m410 fun _ _ h => h
  have d10 := d4.mod m410 fun _ _ h => h
  have m210 := m24.trans m410
  have mw10 := mw4.trans m410
  have rA10 := rA2.mod m210 fun _ _ h => h
  have rB10 := rB2.mod m210 fun _ _ h => h
  have GW4 : ∀ u, G u ∨ R u → u < W4.heap.size := fun u hu => hv.lt hu
  -- what the code tells of it
  have key : ∀ (W11 : World) (ya : Option Addr) (yc : Nat) (e : Int), Mod (fun _ => False) W10 W11 → Own W11 5 1 (.slice ya x.data.length yc) x.data.length (bv x.data) → (∀ u, inSl (.slice ya x.data.length yc) u → W10.heap.size ≤ u) → ((x.idx = 0 ∧ e = 7) ∨ (x.idx ≠ 0 ∧ e = 0)) →
      rv Try.prog (Instr.extract (.tuple #[.agg (shotC x (.slice ya x.data.length yc)).toArray, .int .i64 e]) 0) W11 fun v54 w55 =>
       rv Try.prog (Instr.extract (.tuple #[.agg (shotC x (.slice ya x.data.length yc)).toArray, .int .i64 e]) 1) w55 fun v56 w57 =>
       rv Try.prog (Instr.alloc 83 true (.tuple #[])) w57 fun v58 w59 =>
       ru Try.prog (Instr.storeAt 83 v58 v54) w59 fun w60 =>
       rn Try.prog (builtin .len #[23] 3 #[false] #[va]) w60 fun v61 w62 =>
       rv Try.prog (bin .quo 3 true v61 (.int .i64 128)) w62 fun v63 w64 =>
       Ca Try.prog 20 #[dptr d, (.int .i64 0), (.int .i64 0), v63] w64 fun v65 w66 =>
       rv Try.prog (Instr.extract v65 0) w66 fun v67 w68 =>
       rv Try.prog (Instr.extract v65 1) w68 fun v69 w70 =>
       rn Try.prog (builtin .len #[23] 3 #[false] #[vb]) w70 fun v71 w72 =>
       rv Try.prog (bin .quo 3 true v71 (.int .i64 128)) w72 fun v73 w74 =>
       Ca Try.prog 20 #[dptr d, (.int .i64 1), (.int .i64 0), v73] w74 fun v75 w76 =>
       rv Try.prog (Instr.extract v75 0) w76 fun v77 w78 =>
       rv Try.prog (Instr.extract v75 1) w78 fun v79 w80 =>
       JoinW (S := Value × Unit) (fun J83 =>
       rdP Try.prog (Op.unary .not (.bool true)) fun v84 =>
       ifB v84
       (J83 ((.bool true), ()) w80.drew)
       (rdP Try.prog (bin .neq 28 true (.int .i64 0) (.int .i64 0)) fun v85 =>
       ifB v85
       (J83 ((.bool true), ()) w80.drew)
       (Ca Try.prog 21 #[dptr d] w80.drew fun v86 w87 =>
       rdP Try.prog (bin .neq 3 true v86 (.int .i64 0)) fun v88 =>
       ifB v88
       (J83 ((.bool true), ()) w87)
       (rdP Try.prog (bin .neq 28 true v69 (.int .i64 0)) fun v89 =>
       ifB v89
       (J83 ((.bool true), ()) w87)
       (rdP Try.prog (bin .neq 28 true v79 (.int .i64 0)) fun v90 =>
       ifB v90
       (J83 ((.bool true), ()) w87)
       (rdX Try.prog (xConv 23 9 v67) w87 fun v91 =>
       Ca Try.prog 51 #[va] w87 fun v92 w93 =>
       Sem.run Try.prog (xConv 23 9 v67) w93 = .ok v91 w93 ∧ 
       (rdX Try.prog (xConv 23 9 v92) w93 fun v94 =>
       rdP Try.prog (bin .neq 9 false v91 v94) fun v95 =>
       ifB v95
       (J83 ((.bool true), ()) w93)
       (rdX Try.prog (xConv 23 9 v77) w93 fun v96 =>
       Ca Try.prog 51 #[vb] w93 fun v97 w98 =>
       Sem.run Try.prog (xConv 23 9 v77) w98 = .ok v96 w98 ∧ 
       (rdX Try.prog (xConv 23 9 v97) w98 fun v99 =>
       rdP Try.prog (bin .neq 9 false v96 v99) fun v100 =>
       J83 (v100, ()) w98)))))))))
       (J12_2 K (.int .i64 n) v56 v58 (.pointer (some ⟨p, 0, none⟩)) (dptr v)) := by
    intro W11 ya yc e m11 oy fy hze
    have hd11 := d10.mod m11 fun _ _ h => h
    refine rv_of (v := .agg (shotC x (.slice ya x.data.length yc)).toArray) (w' := W11) (by simp [go_sem]) ?_
    refine rv_of (v := .int .i64 e) (w' := W11) (by simp [go_sem]) ?_
    refine rv_shvar fun W12 r m12 hr12 h12 z12 => ?_
    refine ru_shot h12 ⟨_, _, _, rfl⟩ fun W13 m13 h13 => ?_
    have m1113 : Mod (fun _ => False) W11 W13 := m12.on m13 fun b hb => .inr (by omega)
    have oy13 := oy.mod m1113 fun _ _ h => h
    have m1013 := m11.trans m1113
    have d13 := d10.mod m1013 fun _ _ h => h
    obtain ⟨ea, ec, eva⟩ := rA2.isSl
    obtain ⟨eb, ed, evb⟩ := rB2.isSl
    have fin : ∀ W14, Mod (fun _ => False) W13 W14 → J12_2 K (.int .i64 n) (.int .i64 e) (.pointer (some ⟨r, 0, none⟩)) (.pointer (some ⟨p, 0, none⟩)) (dptr v) (.bool false, ()) W14 := by
      intro W14 m14
      have m1014 := m1013.trans m14
      have mw14 := mw10.trans m1014
      have hR14 := m14.keep h13 id
      have hP14 := m1014.keep h10 id
      have rx14 := rx10.mod m1014 fun _ _ h => h
      have oy14 := oy13.mod m14 fun _ _ h => h
      unfold J12_2
      intro _
      rw [ifB_bool, if_neg (by simp)]
      by_cases hz : x.idx = 0
      · rw [if_pos hz] at hnz
        have he : e = 7 := (hze.resolve_right fun h => h.1 hz).2
        have hxs := z0 hz
        refine rv_of (v := .bool true) (w' := W14) (by simp [go_sem, hnz]) ?_
        rw [ifB_bool, if_pos rfl]
        refine rv_of (v := .bool true) (w' := W14) (by simp [go_sem, he]) ?_
        rw [ifB_bool, if_pos rfl]
        refine rv_of (sload hR14).2.2.2 ?_
        refine rv_of (shot_zero W14) ?_
        refine ca_sameS (x := x) (y := shot0) oy14.rd ⟨by simp [shot0], .inl ⟨rfl, _, _, rfl⟩⟩ fun W15 m15 => ?_
        rw [decide_eq_true hxs, ifB_bool, if_pos rfl]
        exact ca_known21 fun w' m' => hK _ ((mw14.trans m15).trans m')
      · rw [if_neg hz] at hnz
        have he : e = 0 := (hze.resolve_left fun h => hz h.1).2
        refine rv_of (v := .bool false) (w' := W14) (by simp [go_sem, hnz]; try omega) ?_
        rw [ifB_bool, if_neg (by simp)]
        refine joinK (fun s W15 => s = (.bool false, ()) ∧ Mod (fun _ => False) W14 W15) (fun JJ hJJ => ?_) ?_
        · refine rv_of (v := .bool false) (w' := W14) (by simp [go_sem, he]) ?_
          rw [ifB_bool, if_neg (by simp)]
          refine rv_of (sload hP14).2.2.2 ?_
          refine rv_of (sload hR14).2.2.2 ?_
          refine ca_sameS (x := x) (y := x) rx14 oy14.rd fun W15 m15 => ?_
          refine rv_of (v := .bool false) (w' := W15) (by simp [go_sem]) ?_
          exact hJJ _ _ ⟨rfl, m15⟩
        rintro _ W15 ⟨rfl, m15⟩
        unfold J12_1
        intro _
        rw [ifB_bool, if_neg (by simp)]
        unfold L12_0
        have rl : r < W14.heap.size := lt_of_heap hR14
        have pl : p < W10.heap.size := lt_of_heap h10
        have yr : ∀ u, inSl (.slice ya x.data.length yc) u → u ≠ r := fun u hu e => by have := oy.lt hu; omega
        refine loopK (fun s W' => ∃ (i : Nat) (l' : List UInt8), i ≤ x.data.length ∧ s = (.int .i64 (i : Int), ()) ∧ Mod (inSl (.slice ya x.data.length yc)) W15 W' ∧ Own W' 5 1 (.slice ya x.data.length yc) x.data.length (bv l')) (fun s _ => match s.1 with | .int _ i => x.data.length - i.toNat | _ => 0) ⟨0, x.data, by omega, rfl, Mod.refl _ _, oy14.mod m15 fun _ _ h => h⟩ ?_
        rintro ⟨_, _⟩ W16 ⟨i, l', hi, ⟨⟩, m16, o16⟩ KN hKN _
        have hR16 := m16.keep (m15.keep hR14 id) fun hu => yr r hu rfl
        have m1516 : Mod (fun _ => False) W10 W16 := (m1014.trans m15).on m16 fun b hb => .inr (fy b hb)
        obtain ⟨-, -, g2⟩ := sfield (q := r) (o := 0)
        refine rv_of (g2 _) (rv_of (sload hR16).2.2.1 ?_)
        refine rn_len23 ?_
        refine rv_of (v := .bool (decide (i < x.data.length))) (w' := W16) (by simp [go_sem]) ?_
        have e1 : IntKind.i64.wrap ((i : Int) + 1) = ((i + 1 : Nat) : Int) := by rw [IntKind.wrap_i64]; omega
        by_cases hlt : i < x.data.length
        · rw [decide_eq_true hlt, ifB_bool, if_pos rfl]
          have hl' : l'.length = x.data.length := by simpa using o16.1
          obtain ⟨b, cap, hv2, hcap, hst, hO, hM⟩ := own_put o16 hlt (l'[i] + 1)
          obtain ⟨b', off', cap', C, e', fz, hv3, hC, hCj⟩ := rd_at o16.rd (i := i) hlt
          rw [hv2] at hv3
          injection hv3 with d1 d2 d3
          injection d1 with d1
          injection d1 with d1 d4 d5
          subst d1 d4 d3
          have hcj : C[0 + i]? = some (.int .u8 (l'[i].toNat : Int)) := by
            rw [hCj, bv, List.getElem?_map, List.getElem?_eq_getElem (by omega)]
            rfl
          refine rv_of (g2 _) (rv_of (sload hR16).2.2.1 ?_)
          rw [hv2]
          refine rv_of (index8 hlt W16) ?_
          refine rv_of (v := .int .u8 (l'[i].toNat : Int)) (w' := W16) (by simp only [Nat.zero_add] at hcj; simp [go_sem, hC, hcj]) ?_
          refine rv_of (v := .int .u8 ((l'[i] + 1).toNat : Int)) (w' := W16) (by simp [-UInt8.toNat_add, go_sem, u8_inc]) ?_
          refine rv_of (index8 hlt W16) ?_
          rw [Nat.zero_add]
          refine ru_of hst ?_
          refine rv_of (v := .int .i64 ((i + 1 : Nat) : Int)) (w' := W16.setCell ⟨b, i, none⟩ (.int .u8 ((l'[i] + 1).toNat : Int))) (by simp [-Int.natCast_add, go_sem, e1]) ?_
          exact hKN _ _ ⟨i + 1, _, hlt, rfl, m16.trans hM, hO⟩ (by simp; omega)
        · rw [decide_eq_false hlt, ifB_bool, if_neg (by simp)]
          have hv16 := hv10.mod m1516 fun _ _ h => h
          refine ca_slast hv16 (by omega) (fun h => absurd h hz) fun _ W17 sl17 o17 m17 f17 => ?_
          obtain ⟨a17, c17, rfl, -⟩ := o17.isSl
          refine rv_of (v := .agg (shotC x (.slice a17 x.data.length c17)).toArray) (w' := W17) (by simp [go_sem]) ?_
          refine rv_of (v := .int .i64 0) (w' := W17) (by simp [go_sem]) ?_
          refine rv_shvar fun W18 t m18 ht18 h18 z18 => ?_
          refine ru_shot h18 ⟨_, _, _, rfl⟩ fun W19 m19 h19 => ?_
          have m1719 : Mod (fun _ => False) W17 W19 := m18.on m19 fun b hb => .inr (by omega)
          have m1019 := (m1516.trans m17).trans m1719
          refine rv_of (v := .bool true) (w' := W19) (by simp [go_sem]) ?_
          rw [ifB_bool, if_pos rfl]
          refine rv_of (sload (m1019.keep h10 id)).2.2.2 ?_
          refine rv_of (sload h19).2.2.2 ?_
          refine ca_sameS (x := x) (y := x) (rx10.mod m1019 fun _ _ h => h) (o17.rd.mod m1719 fun _ _ h => h) fun W20 m20 => ?_
          rw [decide_eq_true rfl, ifB_bool, if_pos rfl]
          exact ca_known21 fun w' m' => hK _ (((mw10.trans m1019).trans m20).trans m')
    have quo : ∀ (W : World) (k : Nat), k ≤ 200 → (bin .quo 3 true (.int .i64 ((128 * k : Nat) : Int)) (.int .i64 128)).run Try.prog W = .ok (.int .i64 (k : Int)) W := fun W k hk => by
      have e2 : IntKind.i64.wrap (((128 * k : Nat) : Int) / 128) = (k : Int) := by rw [IntKind.wrap_i64]; omega
      simp [-Int.natCast_mul, go_sem, e2]
    rw [eva, evb]
    refine rn_len23 ?_
    rw [hA]
    refine rv_of (quo _ k (by omega)) ?_
    have fins : ∀ e : Int, e = 0 → (bin .neq 28 true (.int .i64 e) (.int .i64 0)) = (bin .neq 28 true (.int .i64 0) (.int .i64 0)) := fun e h => by rw [h]
    refine ca_read d13 (by rw [o4]; decide) (fun h => by rw [o2] at h; cases h) (fun _ h => by simp [mayB] at h; omega) fun _ _ W14 v14 o14 m14 n14 => ?_
    rw [show ((k : Nat) : Int).toNat = k from rfl, show D4.readB 0 0 k = _ from readB_file (f := fs01 0) o4 o6 k, ← cleanB_is hA hk.1] at o14
    refine rv_of (v := v14) (w' := W14) (by simp [go_sem]) ?_
    refine rv_of (v := .int .i64 0) (w' := W14) (by simp [go_sem]) ?_
    refine rn_len23 ?_
    rw [hB]
    refine rv_of (quo _ l (by omega)) ?_
    refine ca_read (d13.mod m14 fun _ _ h => h) (by rw [o4]; decide) (fun h => by rw [o2] at h; cases h) (fun _ h => by simp [mayB] at h; omega) fun _ _ W15 v15 o15 m15 n15 => ?_
    rw [show ((l : Nat) : Int).toNat = l from rfl, show D4.readB 1 0 l = _ from readB_file (f := fs01 1) o4 o7 l, ← cleanB_is hB hl.1] at o15
    refine rv_of (v := v15) (w' := W15) (by simp [go_sem]) ?_
    refine rv_of (v := .int .i64 0) (w' := W15) (by simp [go_sem]) ?_
    have m1315 := m14.trans m15
    have md : Mod (fun _ => False) W15 W15.drew := (Mod.refl _ W15).drew
    refine joinK (fun s W' => s = (.bool false, ()) ∧ Mod (fun _ => False) W13 W') (fun JJ hJJ => ?_) (by rintro _ W' ⟨rfl, m'⟩; exact fin W' m')
    have T8 := Try.underlying23
    refine rdP_of (v := .bool false) (fun w => by simp [go_sem]) ?_
    rw [ifB_bool, if_neg (by simp)]
    refine rdP_of (v := .bool false) (fun w => by simp [go_sem]) ?_
    rw [ifB_bool, if_neg (by simp)]
    refine ca_waits (d13.mod (m1315.trans md) fun _ _ h => h) ?_
    rw [o4]
    refine rdP_of (v := .bool false) (fun w => by simp [go_sem]) ?_
    rw [ifB_bool, if_neg (by simp)]
    refine rdP_of (v := .bool false) (fun w => by simp [go_sem]) ?_
    rw [ifB_bool, if_neg (by simp)]
    refine rdP_of (v := .bool false) (fun w => by simp [go_sem]) ?_
    rw [ifB_bool, if_neg (by simp)]
    have mWd := m1315.trans md
    have rA' : ∀ W', Mod (fun _ => False) W13 W' → Rd W' 1 (.slice ea (128 * k) ec) A.length (bv A) := fun W' m => by
      have := rA10.mod (m1013.trans m) fun _ _ h => h
      rw [eva] at this
      rw [hA] at this ⊢
      exact this
    have rB' : ∀ W', Mod (fun _ => False) W13 W' → Rd W' 1 (.slice eb (128 * l) ed) B.length (bv B) := fun W' m => by
      have := rB10.mod (m1013.trans m) fun _ _ h => h
      rw [evb] at this
      rw [hB] at this ⊢
      exact this
    have s14 : ∀ W', Mod (fun _ => False) W14 W' → (xConv 23 9 v14).run Try.prog W' = .ok (.string (strOf (cleanB A))) W' := fun W' m => run_toStr Try.underlying23 Try.underlying5 Try.underlying9 (o14.rd.mod m fun _ _ h => h)
    have s15 : ∀ W', Mod (fun _ => False) W15 W' → (xConv 23 9 v15).run Try.prog W' = .ok (.string (strOf (cleanB B))) W' := fun W' m => run_toStr Try.underlying23 Try.underlying5 Try.underlying9 (o15.rd.mod m fun _ _ h => h)
    refine rdX_of (s14 _ (m15.trans md)) ?_
    refine ca_clean21 (rA' _ mWd) (by omega) (by omega) fun v92 W16 N16 => ?_
    refine ⟨s14 _ ((m15.trans md).trans N16.mod), ?_⟩
    refine rdX_toStr Try.underlying23 Try.underlying5 Try.underlying9 N16.own.rd ?_
    refine rdP_of (neq_str _ _) ?_
    rw [decide_eq_false (by simp), ifB_bool, if_neg (by simp)]
    refine rdX_of (s15 _ (md.trans N16.mod)) ?_
    refine ca_clean21 (rB' _ (mWd.trans N16.mod)) (by omega) (by omega) fun v97 W17 N17 => ?_
    refine ⟨s15 _ ((md.trans N16.mod).trans N17.mod), ?_⟩
    refine rdX_toStr Try.underlying23 Try.underlying5 Try.underlying9 N17.own.rd ?_
    refine rdP_of (neq_str _ _) ?_
    rw [decide_eq_false (by simp)]
    exact hJJ _ _ ⟨rfl, (mWd.trans N16.mod).trans N17.mod⟩
  refine ca_slast hv10 (by omega) (fun hz W11 m11 => ?_) fun hz W11 sl' ow m11 fr => ?_
  · have hxs := z0 hz
    have := key W11 none 0 7 m11 (by rw [hxs]; exact Own.nil ..) (fun u hu => by cases hu) (.inl ⟨hz, rfl⟩)
    have e1 : shotC x (.slice none x.data.length 0) = shotC shot0 (.slice none 0 0) := by rw [hxs]; rfl
    rw [e1] at this
    exact this
  · obtain ⟨a, c, rfl, -⟩ := ow.isSl
    exact key W11 a c 0 m11 ow (fun u hu => fr u hu) (.inr ⟨hz, rfl⟩)
end Go.Proofs
