/-
  A round of DiskPlays: one call on both disks, and what is asked behind it.
  Conditions: the memory holds the call and both disks.
-/
import Derived.Test.YteldcaeicgobfaaPlays3
set_option linter.unusedSimpArgs false
set_option linter.unusedVariables false
namespace Go.Proofs
open Go Go.Vc

theorem Rnd.later {w0 W W' : World} {o : OpM} {p q cap : Nat} {rest : List Value} {d r : Nat} {F G : Nat → Prop} {D R : DM} (h : Rnd w0 W o p q cap rest d r F G D R) (hm : Mod (fun _ => False) W W') : Rnd w0 W' o p q cap rest d r F G D R :=
  ⟨h.both.on hm (fun _ _ h => h) (fun _ _ h => h) (fun _ h => h.elim), hm.keep h.op id, hm.keep h.row id, h.p0, h.q0, h.pf, h.qf, h.pq, h.cap1, h.restl, h.sW⟩

set_option maxRecDepth 10000 in
theorem plays_round {w W : World} {K : Kont} {o : OpM} {p q cap : Nat} {rest : List Value} {d r : Nat} {F G : Nat → Prop} {D R : DM} {x : Value} {i T : Nat} {KN : Value × Value × Value × Unit → World → Prop}
    (hR : Rnd w W o p q cap rest d r F G D R) (ho : OpOk w o) (hb1 : D.waits.length ≤ T) (hb2 : R.lasts.length + R.waits.length ≤ T + i) (hT : T + o.bs.length ≤ 131072) (hi : i < 100)
    (hKN : ∀ W' d' F' G' D' R', Both w W' d' r F' G' D' R' → D'.waits.length ≤ T + o.bs.length → R'.lasts.length + R'.waits.length ≤ T + o.bs.length + (i + 1) → KN (x, dptr d', .int .i64 ((i + 1 : Nat) : Int), ()) W') :
    J5_5 (.pointer (some ⟨p, 0, none⟩)) (x, dptr d, .int .i64 i, ()) (dptr r) K KN (.slice (some ⟨q, 0, none⟩) o.bs.length cap, ()) W := by
  unfold J5_5
  intro _
  obtain ⟨ba, bc, hoB⟩ := ho.rd.isSl
  have hop : ∀ W', hp W' p = some (.cells (opCells o).toArray 48 (0, 0)) → hp W' p = some (.cells #[.int .i64 o.kind, .int .i64 o.file, .int .i64 o.at_, .int .i64 o.n, .slice ba o.bs.length bc] 48 (0, 0)) := fun W' h => by
    rw [h]; simp [opCells, hoB]
  have hP := hop _ hR.op
  have rB : ∀ W', Mod (fun _ => False) w W' → Rd W' 1 (.slice ba o.bs.length bc) o.bs.length (bv o.bs) := fun W' m => by
    have := ho.rd
    rw [hoB] at this
    exact this.mod m fun _ _ h => h
  have rBlt : ∀ b, inRd (.slice ba o.bs.length bc) b → b < w.heap.size := fun b hb => by
    have := ho.rd
    rw [hoB] at this
    exact this.lt hb
  obtain ⟨n1, n2⟩ := ho.n
  refine joinK (fun s W' => ∃ d' F' G' D' R', ∃ e : Int, s = (dptr d', x, .int .i64 e, .int .i64 e, ()) ∧ Rnd w W' o p q cap rest d' r F' G' D' R' ∧ D'.waits.length ≤ T + o.bs.length ∧ R'.lasts.length + R'.waits.length ≤ T + o.bs.length + (i + 1)) (fun JJ hJJ => ?_) ?_
  · have hRd := hR.later (Mod.refl (fun _ => False) W).drew
    have idle : JJ (dptr d, x, .int .i64 0, .int .i64 0, ()) W := hJJ _ _ ⟨d, F, G, D, R, 0, rfl, hR, by omega, by omega⟩
    simp [go_sem, hP]
    by_cases k0 : o.kind = 0
    · simp [go_sem, hP, k0]
      refine ca_write hRd.both.disk hRd.rdIn (fun b hb => ?_) (by omega) (by omega) fun W1 F1 d1 s1 => ?_
      · rw [inRd_at hb]
        exact ⟨hR.qf.1, lt_of_heap hRd.row⟩
      have hP1 := hop _ (s1.mod.keep hRd.op hRd.pf.1)
      simp [go_sem, hP1]
      have m1 : Mod (fun _ => False) w W1 := hRd.both.mod.on s1.mod fun b hb => .inr (hR.both.f b hb)
      refine ca_rwrite (hRd.both.refAt s1) (rB _ m1) (fun b hb hg => ?_) (by omega) (by omega) fun W2 G2 r2 s2 => ?_
      · have h1 := rBlt b hb
        have h2 := hR.both.g b hg
        omega
      obtain ⟨e1, e2⟩ := hR.both.sim.write o.file o.at_ o.bs
      obtain ⟨l1, l2⟩ := write_len D o.file o.at_ o.bs
      obtain ⟨l3, l4⟩ := write_len R o.file o.at_ o.bs
      rw [e1]
      exact hJJ _ _ ⟨d, F1, G2, _, _, _, rfl, hRd.two d1 s1 r2 s2 e2 (by rw [l4]; omega), by omega, by rw [l4]; omega⟩
    by_cases k1 : o.kind = 1
    · simp [go_sem, hP, k0, k1]
      refine ca_sync hR.both.disk (by omega) fun W1 F1 d1 s1 => ?_
      refine ca_rsync (hR.both.refAt s1) (by omega) fun W2 G2 r2 s2 => ?_
      obtain ⟨e1, e2⟩ := hR.both.sim.sync hR.both.lens
      have l1 := sync_len D
      have l2 := rsync_len R
      rw [e1]
      exact hJJ _ _ ⟨d, F1, G2, _, _, _, rfl, hR.two d1 s1 r2 s2 e2 (by omega), by omega, by omega⟩
    by_cases k2 : o.kind = 2
    · simp [go_sem, hP, k0, k1, k2]
      refine ca_arm hRd.both.disk (by omega) fun W1 d1 m1 => ?_
      have s1 : Stp F W.drew W1 F := ⟨m1.mono fun b _ e => e ▸ hRd.both.disk.self, fun b hb => .inl hb⟩
      have hP1 := hop _ (s1.mod.keep hRd.op hRd.pf.1)
      simp [go_sem, hP1]
      refine ca_rarm (hRd.both.refAt s1) (by omega) fun W2 r2 m2 => ?_
      have s2 : Stp G W1 W2 G := ⟨m2.mono fun b _ e => e ▸ hRd.both.ref.self, fun b hb => .inl hb⟩
      obtain ⟨e1, e2⟩ := hR.both.sim.arm o.n
      obtain ⟨l1, l2⟩ := arm_len D o.n
      obtain ⟨l3, l4⟩ := arm_len R o.n
      rw [e1]
      exact hJJ _ _ ⟨d, F, G, _, _, _, rfl, hRd.two d1 s1 r2 s2 e2 (by rw [l1, l4]; omega), by rw [l1]; omega, by rw [l3, l4]; omega⟩
    by_cases k3 : o.kind = 3
    · simp [go_sem, hP, k0, k1, k2, k3]
      by_cases hn : o.n < 0
      · refine ca_crash_neg hn ?_
        have hPd := hop _ hRd.op
        simp [go_sem, hPd]
        refine ca_rcrash_neg hn ?_
        exact hJJ _ _ ⟨d, F, G, D, R, _, rfl, hRd, by omega, by omega⟩
      · obtain ⟨N, hN⟩ : ∃ N : Nat, o.n = N := ⟨o.n.toNat, by omega⟩
        rw [hN]
        refine ca_crash hRd.both.disk (by omega) (by omega) hRd.rdIn (fun b hb => ?_) fun W1 F1 d1 s1 => ?_
        · rw [inRd_at hb]
          exact ⟨hR.qf.1, lt_of_heap hRd.row⟩
        have hP1 := hop _ (s1.mod.keep hRd.op hRd.pf.1)
        simp [go_sem, hP1, hN]
        have m1 : Mod (fun _ => False) w W1 := hRd.both.mod.on s1.mod fun b hb => .inr (hR.both.f b hb)
        refine ca_rcrash (hRd.both.refAt s1) (by omega) (by omega) (rB _ m1) (fun b hb hg => ?_) fun W2 G2 r2 s2 => ?_
        · have h1 := rBlt b hb
          have h2 := hR.both.g b hg
          omega
        have e2 := hR.both.sim.crash hR.both.lens N o.bs
        have l1 := rcrash_len R N o.bs
        have l2 : (D.crash N o.bs).waits = [] := rfl
        exact hJJ _ _ ⟨d, F1, G2, _, _, _, rfl, hRd.two d1 s1 r2 s2 e2 (by rw [l2]; simp; omega), by rw [l2]; simp, by omega⟩
    by_cases k4 : o.kind = 4
    · simp [go_sem, hP, k0, k1, k2, k3, k4]
      refine ca_copy hR.both.disk (by omega) fun W1 d' F' d1 m1 n1 => ?_
      have hR1 := hR.later m1
      refine ca_crash (keep := 0) (torn := []) hR1.both.disk (by omega) (by omega) (Own.nil W1 5 1).rd (fun b hb => ?_) fun W2 F2 d2 s2 => ?_
      · obtain ⟨a, n, c, e, _⟩ := hb
        cases e
      refine ca_sector (c := 120) fun W3 v3 o3 m3 n3 => ?_
      refine ca_write (d2.mod m3 fun _ _ h => h) o3.rd (fun b hb => ⟨fun h => ?_, o3.lt hb.sl⟩) (by rw [secOf_length]; decide) (by simp [DM.crash]) fun W4 F4 d4 s4 => ?_
      · have := (n3 b hb.sl).1
        have := d2.lt h
        omega
      refine ca_sync d4 ?_ fun W5 F5 d5 s5 => ?_
      · have := (write_len (D.crash 0 []) 0 0 (secOf 120)).1
        rw [secOf_length] at this
        have hz : (D.crash 0 []).waits.length = 0 := rfl
        omega
      have sall : Stp F W1 W5 F5 := ((s2.trans ⟨m3.mono fun _ _ h => h.elim, fun b hb => .inl hb⟩).trans s4).trans s5
      have lF : ∀ b, F b → b < W.heap.size := fun b hb => hR.both.disk.lt hb
      refine hJJ _ _ ⟨d', F', G, D, R, 0, rfl, ⟨⟨d1.mod sall.mod fun b hb hf => by have := n1 b hb; have := lF b hf; omega, hR1.both.ref.mod sall.mod fun b hg hf => hR.both.apart b hf hg, hR.both.sim, hR1.both.mod.on sall.mod fun b hb => .inr (hR.both.f b hb),
        fun b hb => by have := n1 b hb; have := hR.both.mod.size; omega, hR.both.g, fun b hb hg => by have := n1 b hb; have := hR.both.ref.lt hg; omega⟩,
        sall.mod.keep hR1.op hR1.pf.1, sall.mod.keep hR1.row hR1.qf.1, hR.p0, hR.q0, ⟨fun h => by have := n1 p h; have := lt_of_heap hR.op; omega, hR.pf.2⟩, ⟨fun h => by have := n1 q h; have := lt_of_heap hR.row; omega, hR.qf.2⟩, hR.pq, hR.cap1, hR.restl, hR.sW⟩, by omega, by omega⟩
    by_cases k5 : o.kind = 5
    · simp [go_sem, hP, k0, k1, k2, k3, k4, k5]
      refine JoinW.at (fun s W' => W' = W ∧ s = (.bool (decide (o.n ≤ 40 ∨ 8192 < o.n)), ())) ?_ ?_
      · by_cases hn : o.n ≤ 40
        · simp [go_sem, hP, hn]
        · simp [go_sem, hP, hn]
      rintro _ W' ⟨rfl, rfl⟩
      unfold J5_0
      intro _
      by_cases hc : o.n ≤ 40 ∨ 8192 < o.n
      · simp [go_sem, hP, hc]
        refine ca_same hR.both.disk hR.both.ref hR.both.sim (by omega) (by omega) fun W2 m2 => ?_
        simp [go_sem]
        exact hJJ _ _ ⟨d, F, G, D, R, 0, rfl, hR.later m2, by omega, by omega⟩
      · simp [go_sem, hc]
        exact idle
    simp [go_sem, hP, k0, k1, k2, k3, k4, k5]
    exact idle
  rintro _ W2 ⟨d', F', G', D', R', e, rfl, hR2, hb3, hb4⟩
  clear hR hP hb1 hb2
  unfold J5_4
  intro _
  have hP2 := hop _ hR2.op
  have hcap := hR2.cap1
  refine JoinW.at (fun s W' => W' = W2 ∧ s = (.bool false, ())) ?_ ?_
  · refine rx_toStr Try.underlying23 Try.underlying5 Try.underlying9 hR2.rdIn ?_
    simp [go_sem, hP2]
    refine rx_toStr Try.underlying23 Try.underlying5 Try.underlying9 (rB _ hR2.both.mod) ?_
    have hw1 : IntKind.i64.wrap ((o.bs.length : Int) + 1) = ((o.bs.length + 1 : Nat) : Int) := by rw [IntKind.wrap_i64]; omega
    have h1 : (0 : Int) ≤ ((o.bs.length + 1 : Nat) : Int) := by omega
    have h2 : ((o.bs.length + 1 : Nat) : Int) ≤ cap := by omega
    have h3 : ((o.bs.length + 1 : Nat) : Int).toNat = o.bs.length + 1 := by omega
    have h4 : (o.bs.length : Int) < ((o.bs.length + 1 : Nat) : Int) := by omega
    obtain ⟨C, hC⟩ : ∃ C, (bv (o.bs ++ [77]) ++ rest).toArray = C := ⟨_, rfl⟩
    have hq : hp W2 q = some (.cells C 5 (0, 0)) := by rw [← hC]; exact hR2.row
    have hCn : C[o.bs.length]? = some (.int .u8 77) := by
      rw [← hC, List.getElem?_toArray, bv_append, List.append_assoc, List.getElem?_append_right (by simp)]
      simp [bv]
    simp [-Int.natCast_add, go_sem, hw1, h1, h2, h3, h4, hq, hCn, hcap]
  rintro _ W3 ⟨rfl, rfl⟩
  unfold J5_3
  intro _
  simp [go_sem]
  unfold L5_2
  refine loopK (fun s W' => ∃ (k : Nat) (l' : List UInt8), k ≤ o.bs.length ∧ l'.length = o.bs.length ∧ s = (.int .i64 k, ()) ∧ Both w W' d' r F' G' D' R' ∧ hp W' p = some (.cells (opCells o).toArray 48 (0, 0)) ∧
      hp W' q = some (.cells (bv l' ++ (bv [77] ++ rest)).toArray 5 (0, 0)))
    (fun s _ => match s.1 with | .int _ k => o.bs.length - k.toNat | _ => 0) ⟨0, o.bs, by omega, rfl, rfl, hR2.both, hR2.op, by rw [hR2.row, bv_append, List.append_assoc]⟩ ?_
  have qf := hR2.qf
  have pq := hR2.pq
  have q0 := hR2.q0
  clear hR2 hP2
  rintro ⟨_, _⟩ W' ⟨k, l', hk, hl', ⟨⟩, hB, hp1, hq1⟩ KN2 hKN2 _
  have hw1 : IntKind.i64.wrap ((k : Int) + 1) = ((k + 1 : Nat) : Int) := by rw [IntKind.wrap_i64]; omega
  by_cases hlt : k < o.bs.length
  · obtain ⟨C, hC⟩ : ∃ C, (bv l' ++ (bv [77] ++ rest)).toArray = C := ⟨_, rfl⟩
    have hh' : hp W' q = some (.cells C 5 (0, 0)) := by rw [← hC]; exact hq1
    have hCi : C[k]? = some (.int .u8 (l'[k]'(by omega)).toNat) := by
      rw [← hC, List.getElem?_toArray, List.getElem?_append_left (by simp; omega), bv, List.getElem?_map, List.getElem?_eq_getElem (by omega)]
      rfl
    simp [-Int.natCast_add, go_sem, hlt, hh', hCi, hw1]
    have mS : Mod (fun b => b = q) W' (W'.setCell ⟨q, k, none⟩ (.int .u8 (((l'[k]'(by omega)).toNat + 1 : Int) % 256))) := (Mod.refl (fun b => b = q) W').setCell (b := q) (.inl (by simp)) _ _
    refine hKN2 _ _ ⟨k + 1, l'.set k (l'[k]'(by omega) + 1), by omega, by simp [hl'], rfl, hB.on mS (fun b hb e => qf.1 (e ▸ hb)) (fun b hb e => qf.2 (e ▸ hb)) (fun b hb => by omega), mS.keep hp1 (fun e => pq e), ?_⟩ (by simp; omega)
    simp [go_sem, hh']
    rw [← hC]
    apply Array.ext'
    rw [Array.toList_setIfInBounds]
    show (bv l' ++ (bv [77] ++ rest)).set k _ = bv _ ++ (bv [77] ++ rest)
    rw [List.set_append_left _ _ (by simp; omega), u8_succ, bv_set]
  · have hkl : k = o.bs.length := by omega
    subst hkl
    have hP3 := hop _ hp1
    obtain ⟨N, hN⟩ : ∃ N, o.bs.length / 128 = N := ⟨_, rfl⟩
    have hdv : IntKind.i64.wrap ((o.bs.length : Int) / 128) = (N : Int) := by rw [IntKind.wrap_i64]; omega
    simp [go_sem, hP3, hdv]
    refine JoinW.at (fun s W4 => Mod (fun _ => False) W' W4 ∧ s = (.bool false, ())) ?_ ?_
    · obtain ⟨sL, sW, g1, g2, g3, g4, g5, g6, g7⟩ := hB.ref.add
      obtain ⟨wa, wc, rfl, -⟩ := g3.isSl
      simp [go_sem, dptr, g1]
      refine ca_down (hB.disk.mod ((Mod.refl (fun _ => False) W').drew) fun _ _ h => h) ?_
      simp [go_sem, dptr, g1, hB.sim.off]
      refine ca_waits (hB.disk.mod ((Mod.refl (fun _ => False) W').drew) fun _ _ h => h) ?_
      simp [go_sem, dptr, g1, hB.sim.waits]
      by_cases hn0 : 0 < N
      · by_cases hn1 : (N : Int) ≤ 40
        · simp [go_sem, hn0, hn1, hP3]
          refine ca_same (hB.disk.mod ((Mod.refl (fun _ => False) W').drew) fun _ _ h => h) (hB.ref.mod ((Mod.refl (fun _ => False) W').drew) fun _ _ h => h) hB.sim (by omega) (by omega) fun W5 m5 => ?_
          simp [go_sem]
          exact ((Mod.refl _ W').drew).trans m5
        · simp [go_sem, hn0, hn1]
          exact (Mod.refl _ W').drew
      · simp [go_sem, hn0]
        exact (Mod.refl _ W').drew
    rintro _ W4 ⟨m4, rfl⟩
    unfold J5_1
    intro _
    have hw2 : IntKind.i64.wrap ((i : Int) + 1) = ((i + 1 : Nat) : Int) := by rw [IntKind.wrap_i64]; omega
    simp [-Int.natCast_add, go_sem, hw2]
    exact hKN _ _ _ _ _ _ (hB.on m4 (fun _ _ h => h) (fun _ _ h => h) (fun _ h => h.elim)) hb3 hb4
end Go.Proofs
