/-
  The plain laws of the snapshots: a save over any sectors, as the document says it.
  The walk of ShotsWrites: what is looked at in the end.
  The walk of ShotsWrites: what is wanted of the file that is written.
  The walk of ShotsWrites: behind a save.
  The walk of ShotsWrites.
  Conditions: where they ask for any, each theorem names them.
-/
import Derived.Test.YteldcaeicgobfaaShotY2
import Derived.Test.YteldcaeicgobfaaShotRd
set_option linter.unusedVariables false
set_option linter.unusedSimpArgs false
namespace Go.Proofs
open Go Go.Vc

theorem ssave_arm {f : Int} (hf : 0 ≤ f ∧ f < 5) {x : ShotM} (hx : x.data.length ≤ 524288) {b : List UInt8} {D : DM} (ho : D.off = false) (ha : D.armed = false) : (D.ssave f x b).1 = 0 ∧ (D.ssave f x b).2.armed = false := by
  have w1 := did_writes hf (cleanS b 0) D ho (cleanS_ok b)
  obtain ⟨a1, a2⟩ := w1.arm ha
  unfold DM.ssave
  rw [if_neg (by simp [a1])]
  rw [a1] at w1
  generalize (D.writes f (cleanS b 0)).2 = D1 at w1 a2
  have w2 := did_parts hf hx w1.off (l := x.data)
  obtain ⟨b1, b2⟩ := w2.arm a2
  rw [if_neg (by simp [b1])]
  rw [b1] at w2
  generalize (D1.sparts f x.data).2 = D2 at w2 b2
  have w3 := did_writes hf (mkL x 0) D2 w2.off (mkL_ok x)
  obtain ⟨c1, c2⟩ := w3.arm b2
  unfold DM.smarks
  rw [c1] at w3
  rw [if_neg (by simp [c1])]
  generalize (D2.writes f (mkL x 0)).2 = D3 at w3 c2
  obtain ⟨s1, -, -, -, s5⟩ := sync_ok w3.off c2
  exact ⟨s1, s5⟩
/-- What a save leaves of a file. -/
def savC (C : Nat → Sec) (x : ShotM) : Nat → Sec := fun j => if j < 3 + secN x.data.length then formG x j else C j
theorem savC_len {C : Nat → Sec} (h : ∀ i, (C i).length = 128) (x : ShotM) (i : Nat) : (savC C x i).length = 128 := by
  unfold savC
  split
  · exact formG_len _ _
  · exact h i
theorem save_is {C : Nat → Sec} (hl : ∀ i, (C i).length = 128) (x : ShotM) : updC C (saveL x (marks3 C)) = savC C x := by
  obtain ⟨s1, s2⟩ := save_done hl x
  funext j
  unfold savC
  by_cases hj : j < 3 + secN x.data.length
  · rw [if_pos hj]
    unfold formG
    by_cases h3 : j < 3
    · rw [if_pos h3, s1 j h3]
    · rw [if_neg h3]
      have := s2 (j - 3) (by omega)
      rw [show 3 + (j - 3) = j by omega] at this
      exact this
  · rw [if_neg hj]
    unfold saveL
    rw [updC_app, updC_app, mkL_is, updC_not _ _ _ fun y hy e => ?_, partL_in, if_neg (by omega), (clean_done hl).2 j (by omega)]
    simp only [List.mem_cons, List.not_mem_nil, or_false] at hy
    rcases hy with rfl | rfl | rfl <;> simp only at e <;> omega
theorem save_any {D : DM} {f : Int} {x : ShotM} (hl : LenOk D) (hf : 0 ≤ f ∧ f < 5) (ho : D.off = false) (hw : D.waits = []) (ha : D.armed = false) (hx : x.data.length ≤ 524288) :
    (D.ssave f x (marks3 (CF D f))).1 = 0 ∧ (D.ssave f x (marks3 (CF D f))).2.off = false ∧ (D.ssave f x (marks3 (CF D f))).2.waits = [] ∧ CF (D.ssave f x (marks3 (CF D f))).2 f = savC (CF D f) x ∧ ∀ g, g ≠ f → CF (D.ssave f x (marks3 (CF D f))).2 g = CF D g := by
  obtain ⟨e1, -⟩ := ssave_arm hf hx (b := marks3 (CF D f)) ho ha
  rcases ssave_spec hf hx (b := marks3 (CF D f)) ho with ⟨g1, g2, g3, g4⟩ | ⟨g1, -⟩
  · have hcn : cnt (D.ssave f x (marks3 (CF D f))).2 = upd (cnt D) ((saveL x (marks3 (CF D f))).map (tagF f)) := by
      unfold cnt
      rw [g2, hw, List.nil_append]
      exact cnt_putL _ _
    obtain ⟨c1, c2⟩ := CF_upd hcn
    exact ⟨g1, g4, g3, c1.trans (save_is (CF_len hl f) x), c2⟩
  · rw [e1] at g1; exact absurd g1 (by decide)
/-- A form, and what is behind it. -/
def wanS (W : List UInt8) (x : ShotM) : List UInt8 := if (formS x).length < W.length then formS x ++ W.drop (formS x).length else formS x
theorem wanS_is {C : Nat → Sec} (hl : ∀ i, (C i).length = 128) (x : ShotM) (k : Nat) : wanS ((List.range k).flatMap C) x = (List.range (max k (3 + secN x.data.length))).flatMap (savC C x) := by
  have hf := formS_length x
  have hc := flat_len hl k
  have hs := savC_len hl x
  have hfm : formS x = (List.range (3 + secN x.data.length)).flatMap (savC C x) := by
    rw [formS_flat, List.flatMap_def, List.flatMap_def]
    congr 1
    refine List.map_congr_left fun i hi => ?_
    unfold savC
    rw [if_pos (List.mem_range.1 hi)]
  unfold wanS
  by_cases hlt : (formS x).length < ((List.range k).flatMap C).length
  · rw [if_pos hlt]
    have hm : max k (3 + secN x.data.length) = k := by omega
    rw [hm]
    refine sec_ext (m := k) (by rw [List.length_append, List.length_drop]; omega) (flat_len hs k) fun i hi => ?_
    rw [flat_secR hs k hi]
    unfold savC
    by_cases h3 : i < 3 + secN x.data.length
    · rw [if_pos h3, ← formS_sec h3]
      unfold secR
      rw [List.drop_append_of_le_length (by omega), List.take_append_of_le_length (by simp; omega)]
    · rw [if_neg h3, ← flat_secR hl k hi]
      unfold secR
      have e : (formS x).length + (128 * i - (formS x).length) = 128 * i := by omega
      rw [List.drop_append, List.drop_of_length_le (by omega), List.nil_append, List.drop_drop, e]
  · rw [if_neg hlt]
    have hm : max k (3 + secN x.data.length) = 3 + secN x.data.length := by omega
    rw [hm]
    exact hfm
theorem wanS_len {C : Nat → Sec} (hl : ∀ i, (C i).length = 128) (x : ShotM) (k : Nat) : (wanS ((List.range k).flatMap C) x).length = 128 * max k (3 + secN x.data.length) := by
  rw [wanS_is hl]
  exact flat_len (savC_len hl x) _
end Go.Proofs

namespace Go.Proofs
open Go Go.Vc

/-- Both rows that are wanted, in a row of their own. -/
structure Wants (W : World) (g : Nat) (va vb : Value) (LA LB : List UInt8) : Prop where
  at_ : hp W g = some (.cells #[va, vb] 23 (0, 0))
  a : Rd W 1 va LA.length (bv LA)
  b : Rd W 1 vb LB.length (bv LB)
theorem Wants.mod {W W' : World} {g : Nat} {va vb : Value} {LA LB : List UInt8} (h : Wants W g va vb LA LB) (m : Mod (fun _ => False) W W') : Wants W' g va vb LA LB := ⟨m.keep h.at_ id, h.a.mod m fun _ _ h => h, h.b.mod m fun _ _ h => h⟩
theorem Wants.ix {g i : Nat} (hi : i < 2) (W : World) : (Instr.indexAt 108 (.slice (some ⟨g, 0, none⟩) 2 2) (.int .i64 (i : Int))).run Try.prog W = .ok (.pointer (some ⟨g, i, none⟩)) W := by
  rcases two hi with rfl | rfl
  · simp [go_sem]
  · simp [go_sem]
theorem Wants.ld {W : World} {g i : Nat} {va vb : Value} {LA LB : List UInt8} (h : Wants W g va vb LA LB) (hi : i < 2) : ∃ a c, (if i = 0 then va else vb) = .slice a (if i = 0 then LA else LB).length c ∧ (Instr.loadAt 23 (.pointer (some ⟨g, i, none⟩))).run Try.prog W = .ok (.slice a (if i = 0 then LA else LB).length c) W := by
  obtain ⟨a1, c1, rfl⟩ := h.a.isSl
  obtain ⟨a2, c2, rfl⟩ := h.b.isSl
  have := h.at_
  rcases two hi with rfl | rfl
  · exact ⟨a1, c1, rfl, by simp [go_sem, this]⟩
  · exact ⟨a2, c2, rfl, by simp [go_sem, this]⟩

set_option maxRecDepth 10000 in
theorem wr_look {W : World} {K : Kont} {d g ka kb : Nat} {F : Nat → Prop} {D : DM} {va vb : Value} {LA LB : List UInt8} {s156 : Value × Unit} (hd : DiskR W d F D) (ho : D.off = false) (hw : D.waits = []) (h : Wants W g va vb LA LB)
    (eA : LA = (List.range ka).flatMap (CF D 0)) (eB : LB = (List.range kb).flatMap (CF D 1)) (hA : LA.length = 128 * ka) (hB : LB.length = 128 * kb) (hka : 1 ≤ ka ∧ ka ≤ 1000) (hkb : 1 ≤ kb ∧ kb ≤ 1000) (hK : ∀ W', Mod (fun _ => False) W W' → K (.bool true) W') :
    J13_6 (.slice (some ⟨g, 0, none⟩) 2 2) (dptr d) K s156 W := by
  unfold J13_6
  intro _
  unfold L13_5
  refine loopK (fun s W' => ∃ (i : Nat) (x : Value), i ≤ 2 ∧ s = (x, .int .i64 (i : Int), ()) ∧ Mod (fun _ => False) W W') (fun s _ => match s.2.1 with | .int _ i => 2 - i.toNat | _ => 0) ⟨0, _, by omega, rfl, Mod.refl _ _⟩ ?_
  rintro ⟨_, _⟩ W1 ⟨i, x, hi, ⟨⟩, m1⟩ KN hKN _
  refine rv_of (v := .bool (decide (i < 2))) (w' := W1) (by simp [go_sem]; omega) ?_
  by_cases hlt : i < 2
  · rw [decide_eq_true hlt, ifB_bool, if_pos rfl]
    have e1 : IntKind.i64.wrap ((i : Int) + 1) = ((i + 1 : Nat) : Int) := by rw [IntKind.wrap_i64]; omega
    obtain ⟨L, k, hL, hl, hk, hr⟩ : ∃ (L : List UInt8) (k : Nat), (if i = 0 then LA else LB) = L ∧ L.length = 128 * k ∧ (1 ≤ k ∧ k ≤ 1000) ∧ D.readB (i : Int) 0 k = L := by
      rcases two hlt with rfl | rfl
      · exact ⟨LA, ka, rfl, hA, hka, by rw [eA]; exact readB_file (f := 0) hw rfl ka⟩
      · exact ⟨LB, kb, rfl, hB, hkb, by rw [eB]; exact readB_file (f := 1) hw rfl kb⟩
    have H1 := h.mod m1
    obtain ⟨a, c, e, ld⟩ := H1.ld hlt
    have rr : ∀ W', Mod (fun _ => False) W1 W' → Rd W' 1 (.slice a L.length c) L.length (bv L) := fun W' m => by
      rw [← hL, ← e]
      rcases two hlt with rfl | rfl
      · exact H1.a.mod m fun _ _ h => h
      · exact H1.b.mod m fun _ _ h => h
    rw [hL] at ld
    refine rv_of (Wants.ix hlt W1) ?_
    refine rv_of ld ?_
    refine rn_len23 ?_
    have e2 : IntKind.i64.wrap (((128 * k : Nat) : Int) / 128) = (k : Int) := by rw [IntKind.wrap_i64]; omega
    refine rv_of (v := .int .i64 (k : Int)) (w' := W1) (by rw [hl]; simp [-Int.natCast_mul, go_sem, e2]) ?_
    refine ca_read (hd.mod m1 fun _ _ h => h) (by rw [hw]; decide) (fun h => by rw [ho] at h; cases h) (fun _ h => by simp [mayB] at h; omega) fun _ _ W2 v2 o2 m2 n2 => ?_
    rw [show ((k : Nat) : Int).toNat = k from rfl, hr] at o2
    refine rv_of (v := v2) (w' := W2) (by simp [go_sem]) ?_
    refine rv_of (v := .int .i64 0) (w' := W2) (by simp [go_sem]) ?_
    have md : Mod (fun _ => False) W2 W2.drew := (Mod.refl _ W2).drew
    have m2d := m2.trans md
    refine joinK (fun s W' => s = (.bool false, ()) ∧ Mod (fun _ => False) W1 W') (fun JJ hJJ => ?_) ?_
    · refine rdP_of (v := .bool false) (fun w => by simp [go_sem]) ?_
      rw [ifB_bool, if_neg (by simp)]
      refine rdX_toStr Try.underlying23 Try.underlying5 Try.underlying9 (o2.rd.mod md fun _ _ h => h) ?_
      refine rdP_of (Wants.ix hlt) ?_
      have H2 := H1.mod m2d
      obtain ⟨a', c', e', ld'⟩ := H2.ld hlt
      have ea : Value.slice a' (if i = 0 then LA else LB).length c' = .slice a (if i = 0 then LA else LB).length c := e'.symm.trans e
      rw [ea, hL] at ld'
      refine rdW_of ld' ?_
      refine rdX_toStr Try.underlying23 Try.underlying5 Try.underlying9 (rr _ m2d) ?_
      refine rdP_of (neq_str _ _) ?_
      exact hJJ _ _ ⟨by simp, m2d⟩
    rintro _ W3 ⟨rfl, m3⟩
    unfold J13_4
    intro _
    rw [ifB_bool, if_neg (by simp)]
    refine rv_of (v := .int .i64 ((i + 1 : Nat) : Int)) (w' := W3) (by simp [-Int.natCast_add, go_sem, e1]) ?_
    exact hKN _ _ ⟨i + 1, _, hlt, rfl, m1.trans m3⟩ (by simp; omega)
  · rw [decide_eq_false hlt, ifB_bool, if_neg (by simp)]
    exact ca_known21 fun w' m' => hK _ (m1.trans m')
end Go.Proofs

namespace Go.Proofs
open Go Go.Vc

theorem Wants.put {W : World} {g t n : Nat} {va vb v : Value} {LA LB L : List UInt8} {K : World → Prop} (h : Wants W g va vb LA LB) (ht : t < 2) (hv : Own W 5 1 v n (bv L)) (hg : ∀ u, inRd va u ∨ inRd vb u ∨ inRd v u → u ≠ g)
    (hK : ∀ W', Mod (fun b => b = g) W W' → Wants W' g (if t = 0 then v else va) (if t = 0 then vb else v) (if t = 0 then L else LA) (if t = 0 then LB else L) → K W') :
    ru Try.prog (Instr.storeAt 23 (.pointer (some ⟨g, t, none⟩)) v) W K := by
  have hl : L.length = n := by simpa using hv.1
  subst hl
  obtain ⟨a1, c1, rfl⟩ := h.a.isSl
  obtain ⟨a2, c2, rfl⟩ := h.b.isSl
  obtain ⟨a3, c3, rfl, -⟩ := hv.isSl
  have hat := h.at_
  have mod : ∀ z, Mod (fun b => b = g) W (W.setCell ⟨g, t, none⟩ z) := fun z => (Mod.refl (fun b => b = g) W).setCell (.inl rfl) _ _
  rcases two ht with rfl | rfl
  · refine ru_of (w' := W.setCell ⟨g, 0, none⟩ (.slice a3 L.length c3)) (by simp [go_sem, hat]) (hK _ (mod _) ⟨by simp [go_sem, hat], ?_, ?_⟩)
    · exact hv.rd.mod (mod _) fun u hu e => hg u (.inr (.inr hu)) e
    · exact h.b.mod (mod _) fun u hu e => hg u (.inr (.inl hu)) e
  · refine ru_of (w' := W.setCell ⟨g, 1, none⟩ (.slice a3 L.length c3)) (by simp [go_sem, hat]) (hK _ (mod _) ⟨by simp [go_sem, hat], ?_, ?_⟩)
    · exact h.a.mod (mod _) fun u hu e => hg u (.inl hu) e
    · exact hv.rd.mod (mod _) fun u hu e => hg u (.inr (.inr hu)) e

set_option maxRecDepth 10000 in
theorem wr_put {W : World} {K : Kont} {d g q v t at_ : Nat} {va vb slx : Value} {LA LB : List UInt8} {x : ShotM} {ms : Nat → List UInt8} {G R : Nat → Prop} {J : Value × Unit → World → Prop} (h : Wants W g va vb LA LB) (hg : ∀ u, inRd va u ∨ inRd vb u → u ≠ g) (ht : t < 2)
    (hx : hp W q = some (.cells (shotC x slx).toArray 83 (0, 0))) (hs : ShR W x slx) (gq : q ≠ g) (gs : ∀ u, inRd slx u → u ≠ g) (hok : x.ok) (hn : x.data.length ≤ 20000) (hx0 : x.idx ≠ 0) (hQ : ShQ W v d fs01 at_ x ms G R) (gQ : ∀ u, G u ∨ R u → u ≠ g) (lA : LA.length ≤ 30000) (lB : LB.length ≤ 30000)
    (hJ : ∀ W' va' vb', Mod (fun b => b = g) W W' → Wants W' g va' vb' (if t = 0 then wanS LA x else LA) (if t = 0 then LB else wanS LB x) → J (.bool false, ()) W') :
    J13_2 (.pointer (some ⟨q, 0, none⟩)) (.slice (some ⟨g, 0, none⟩) 2 2) (dptr v) (.int .i64 0) K J (.int .i64 (t : Int), ()) W := by
  have gl := lt_of_heap h.at_
  obtain ⟨xa, xc, rfl⟩ := hs.isSl
  have hfl := formS_length x
  have hsn : secN x.data.length ≤ 200 := by unfold secN; omega
  unfold J13_2
  intro _
  refine rv_of (sload hx).2.2.2 ?_
  refine ca_form21 hok (by omega) hs fun v5 W1 N1 => ?_
  rw [← hfl] at N1
  have H1 := h.mod N1.mod
  obtain ⟨L, hL⟩ : ∃ L, (if t = 0 then LA else LB) = L := ⟨_, rfl⟩
  have lL : L.length ≤ 30000 := by rw [← hL]; split <;> assumption
  obtain ⟨a, c, e, ld⟩ := H1.ld ht
  rw [hL] at ld e
  have rL : Rd W1 1 (.slice a L.length c) L.length (bv L) := by
    rw [← e]
    rcases two ht with rfl | rfl
    · rw [if_pos rfl] at hL; subst hL; exact H1.a
    · rw [if_neg (by decide)] at hL; subst hL; exact H1.b
  refine joinK (fun s W' => ∃ v', s = (v', ()) ∧ Nw W W' v' (wanS L x).length (wanS L x)) (fun JJ hJJ => ?_) ?_
  · refine rv_of (Wants.ix ht W1) ?_
    refine rv_of ld ?_
    refine rn_len23 ?_
    obtain ⟨pa, pc, rfl, hpc⟩ := N1.own.isSl
    refine rn_len23 ?_
    refine rv_of (v := .bool (decide ((formS x).length < L.length))) (w' := W1) (by simp [go_sem]) ?_
    by_cases hlt : (formS x).length < L.length
    · rw [decide_eq_true hlt, ifB_bool, if_pos rfl]
      obtain ⟨b, off, cap, hcap, he⟩ := rd_block rL (by omega)
      injection he with e1 e2 e3
      subst e1 e3
      refine rv_of (Wants.ix ht W1) ?_
      refine rv_of ld ?_
      refine rn_len23 ?_
      refine rv_of (slice_lo (lo := (formS x).length) (by omega) hcap (by omega) W1) ?_
      have rp := rd_part rL (formS x).length (L.length - (formS x).length) (c - (formS x).length) (by omega) (by omega) (by omega)
      rw [List.take_of_length_le (by simp)] at rp
      refine nw_append N1 rp (by omega) fun v7 W7 N7 m7 => ?_
      have ew : wanS L x = formS x ++ L.drop (formS x).length := by unfold wanS; rw [if_pos hlt]
      refine hJJ _ _ ⟨v7, rfl, ?_⟩
      rw [ew, show (formS x ++ L.drop (formS x).length).length = (formS x).length + (L.length - (formS x).length) by simp]
      exact N7
    · rw [decide_eq_false hlt, ifB_bool, if_neg (by simp)]
      have ew : wanS L x = formS x := by unfold wanS; rw [if_neg hlt]
      refine hJJ _ _ ⟨_, rfl, ?_⟩
      rw [ew]
      exact N1
  rintro _ W2 ⟨v', rfl, N2⟩
  have H2 := h.mod N2.mod
  unfold J13_1
  intro _
  refine rv_of (Wants.ix ht W2) ?_
  refine H2.put ht N2.own (fun u hu => ?_) fun W3 m3 H3 => ?_
  · rcases hu with hu | hu | hu
    · exact hg u (.inl hu)
    · exact hg u (.inr hu)
    · have := N2.new u hu.sl; omega
  have mg : Mod (fun b => b = g) W W3 := (N2.mod.mono fun _ _ h => h.elim).trans m3
  have hQ3 := hQ.mod mg fun u hu e => gQ u hu e
  refine ca_slast hQ3 (by omega) (fun h => absurd h hx0) fun _ W4 sl4 o4 m4 f4 => ?_
  obtain ⟨a4, c4, rfl, -⟩ := o4.isSl
  refine rv_of (v := .agg (shotC x (.slice a4 x.data.length c4)).toArray) (w' := W4) (by simp [go_sem]) ?_
  refine rv_of (v := .int .i64 0) (w' := W4) (by simp [go_sem]) ?_
  refine rv_shvar fun W5 r m5 hr5 h5 z5 => ?_
  refine ru_shot h5 ⟨_, _, _, rfl⟩ fun W6 m6 h6 => ?_
  have m46 : Mod (fun _ => False) W4 W6 := m5.on m6 fun b hb => .inr (by omega)
  have m36 := m4.trans m46
  refine joinK (fun s W' => s = (.bool false, ()) ∧ Mod (fun _ => False) W6 W') (fun JJ hJJ => ?_) ?_
  · refine rv_of (v := .bool false) (w' := W6) (by simp [go_sem]) ?_
    rw [ifB_bool, if_neg (by simp)]
    refine rv_of (v := .bool false) (w' := W6) (by simp [go_sem]) ?_
    rw [ifB_bool, if_neg (by simp)]
    refine rv_of (sload (m36.keep (mg.keep hx gq) id)).2.2.2 ?_
    refine rv_of (sload h6).2.2.2 ?_
    refine ca_sameS (x := x) (y := x) ((hs.mod mg fun u hu e => gs u hu e).mod m36 fun _ _ h => h) (o4.rd.mod m46 fun _ _ h => h) fun W7 m7 => ?_
    refine rv_of (v := .bool false) (w' := W7) (by simp [go_sem]) ?_
    exact hJJ _ _ ⟨rfl, m7⟩
  rintro _ W7 ⟨rfl, m7⟩
  unfold J13_0
  intro _
  rw [ifB_bool, if_neg (by simp)]
  have m37 := m36.trans m7
  refine hJ W7 (if t = 0 then v' else va) (if t = 0 then vb else v') (mg.trans (m37.mono fun _ _ h => h.elim)) ?_
  have H7 := H3.mod m37
  have ea : (if t = 0 then wanS LA x else LA) = if t = 0 then wanS L x else LA := by
    rcases two ht with rfl | rfl
    · rw [if_pos rfl] at hL; rw [hL]
    · rfl
  have eb : (if t = 0 then LB else wanS LB x) = if t = 0 then LB else wanS L x := by
    rcases two ht with rfl | rfl
    · rfl
    · rw [if_neg (by decide)] at hL; rw [hL]
  rw [ea, eb]
  exact H7
end Go.Proofs

namespace Go.Proofs
open Go Go.Vc

theorem uTs : elemOk Try.prog 23 1 24 = true := by kernel_rfl
/-- Whether the document refuses. -/
def refuseS (x z : ShotM) : Bool := !x.may || (decide (z.idx ≠ 0) && decide (x.idx ≤ z.idx))
def toS (z : ShotM) (at_ : Nat) : Nat := if z.idx ≠ 0 ∧ at_ = 0 then 1 else 0

set_option maxRecDepth 10000 in
theorem wr_end {W : World} {K : Kont} {d q p v k l at_ at2 : Nat} {F : Nat → Prop} {D : DM} {va vb slx slz : Value} {A B : List UInt8} {x y z : ShotM} {ms : Nat → List UInt8} {G R : Nat → Prop} {e n : Int}
    (hd : DiskR W d F D) (ho : D.off = false) (hw : D.waits = []) (hA : A.length = 128 * k) (hB : B.length = 128 * l) (hk : 3 ≤ k ∧ k ≤ 180) (hl : 3 ≤ l ∧ l ≤ 180) (rA : Rd W 1 va A.length (bv A)) (rB : Rd W 1 vb B.length (bv B))
    (hx : hp W q = some (.cells (shotC x slx).toArray 83 (0, 0))) (hs : ShR W x slx) (hxl : x.data.length < 9223372036854775807) (hz : hp W p = some (.cells (shotC z slz).toArray 83 (0, 0))) (hsz : ∃ a n c, slz = .slice a n c) (hzi : z.idx < 18446744073709551616)
    (hn : n = if z.idx = 0 then -1 else (at_ : Int)) (hQ : ShQ W v d fs01 at2 y ms G R)
    (hR : refuseS x z = true → e = 2 ∧ CF D 0 = clC (secL A) ∧ CF D 1 = clC (secL B))
    (hS : refuseS x z = false → e = 0 ∧ y = x ∧ x.ok ∧ x.data.length ≤ 20000 ∧ CF D 0 = (if toS z at_ = 0 then savC (clC (secL A)) x else clC (secL A)) ∧ CF D 1 = if toS z at_ = 0 then clC (secL B) else savC (clC (secL B)) x)
    (hK : ∀ W', Mod (fun _ => False) W W' → K (.bool true) W') :
    Ca Try.prog 51 #[va] W fun v150 w151 =>
     Ca Try.prog 51 #[vb] w151 fun v152 w153 =>
     rx Try.prog (xLit 108 2 [(0, v150), (1, v152)]) w153 fun v154 w155 =>
     JoinW (S := Value × Unit) (fun J158 =>
     JoinW (S := Value × Unit) (fun J161 =>
     rv Try.prog (Instr.loadAt 83 (.pointer (some ⟨q, 0, none⟩))) w155 fun v162 w163 =>
     Ca Try.prog 52 #[v162] w163 fun v164 w165 =>
     rv Try.prog (Op.unary .not v164) w165 fun v166 w167 =>
     ifB v166
     (J161 ((.bool true), ()) w167)
     (rv Try.prog (bin .geq 3 true (.int .i64 n) (.int .i64 0)) w167 fun v168 w169 =>
     ifB v168
     (rv Try.prog (Instr.fieldAt 83 (.pointer (some ⟨q, 0, none⟩)) 0) w169 fun v170 w171 =>
     rv Try.prog (Instr.loadAt 27 v170) w171 fun v172 w173 =>
     rv Try.prog (Instr.fieldAt 83 (.pointer (some ⟨p, 0, none⟩)) 0) w173 fun v174 w175 =>
     rv Try.prog (Instr.loadAt 27 v174) w175 fun v176 w177 =>
     rv Try.prog (bin .leq 27 false v172 v176) w177 fun v178 w179 =>
     J161 (v178, ()) w179)
     (J161 ((.bool false), ()) w169)))
     (J13_3 (.int .i64 e) K J158 (.int .i64 n) (.pointer (some ⟨q, 0, none⟩)) v154 (dptr v)))
     (J13_6 v154 (dptr d) K) := by
  obtain ⟨xa, xc, rfl⟩ := hs.isSl
  obtain ⟨za, zn, zc, rfl⟩ := hsz
  have clA := cleanB_is hA hk.1
  have clB := cleanB_is hB hl.1
  have lCA := clC_len (secL_len hA)
  have lCB := clC_len (secL_len hB)
  have lA : (cleanB A).length = 128 * k := by rw [clA]; exact flat_len lCA k
  have lB : (cleanB B).length = 128 * l := by rw [clB]; exact flat_len lCB l
  refine ca_clean21 rA (by omega) (by omega) fun v150 W1 N1 => ?_
  refine ca_clean21 (rB.mod N1.mod fun _ _ h => h) (by omega) (by omega) fun v152 W2 N2 => ?_
  have N12 := N1.on N2.mod
  have rA2 : Rd W2 1 v150 (cleanB A).length (bv (cleanB A)) := by rw [lA, ← hA]; exact N12.own.rd
  have rB2 : Rd W2 1 v152 (cleanB B).length (bv (cleanB B)) := by rw [lB, ← hB]; exact N2.own.rd
  obtain ⟨a1, c1, e1⟩ := rA2.isSl
  obtain ⟨a2, c2, e2⟩ := rB2.isSl
  refine rx_lit [v150, v152] Try.underlying108 (elemT_of uTs) rfl rfl (by rw [e1, e2]; simp [Value.cells]) (by omega) ?_
  have ecs : ([v150, v152].flatMap (·.cells.toList)).toArray = #[v150, v152] := by rw [e1, e2]; rfl
  rw [ecs]
  have mL : Mod (fun _ => False) W2 (W2.alloc (.cells #[v150, v152] 23)) := (Mod.refl _ W2).alloc _
  have hL : hp (W2.alloc (.cells #[v150, v152] 23)) W2.heap.size = some (.cells #[v150, v152] 23 (0, 0)) := by simp only [hp_alloc, if_pos]
  generalize (W2.alloc (.cells #[v150, v152] 23)) = W3 at mL hL
  obtain ⟨g, hg⟩ : ∃ g, W2.heap.size = g := ⟨_, rfl⟩
  rw [hg] at hL ⊢
  have hW3 : Wants W3 g v150 v152 (cleanB A) (cleanB B) := ⟨hL, rA2.mod mL fun _ _ h => h, rB2.mod mL fun _ _ h => h⟩
  have m02 : Mod (fun _ => False) W W2 := N1.mod.trans N2.mod
  have m03 := m02.trans mL
  have s2 := m02.size
  have hx3 := m03.keep hx id
  have hz3 := m03.keep hz id
  have hs3 := hs.mod m03 fun _ _ h => h
  have hd3 := hd.mod m03 fun _ _ h => h
  have gl := lt_of_heap hL
  have gg : ∀ u, inRd v150 u ∨ inRd v152 u → u ≠ g := fun u hu => by
    rcases hu with hu | hu
    · have := rA2.lt hu; omega
    · have := rB2.lt hu; omega
  refine joinK (fun s W' => ∃ va' vb' LA' LB' ka kb, Wants W' g va' vb' LA' LB' ∧ Mod (fun b => b = g) W3 W' ∧ LA' = (List.range ka).flatMap (CF D 0) ∧ LB' = (List.range kb).flatMap (CF D 1) ∧ LA'.length = 128 * ka ∧ LB'.length = 128 * kb ∧ (1 ≤ ka ∧ ka ≤ 1000) ∧ (1 ≤ kb ∧ kb ≤ 1000)) (fun JO hJO => ?_) ?_
  · refine joinK (fun s W' => s = (.bool (refuseS x z), ()) ∧ Mod (fun _ => False) W3 W') (fun JJ hJJ => ?_) ?_
    · refine rv_of (sload hx3).2.2.2 ?_
      refine ca_may21 hs3 hxl fun W4 m4 => ?_
      refine rv_of (v := .bool (!x.may)) (w' := W4) (by simp [go_sem]) ?_
      cases hm : x.may
      · rw [Bool.not_false, ifB_bool, if_pos rfl]
        exact hJJ _ _ ⟨by simp [refuseS, hm], m4⟩
      · rw [Bool.not_true, ifB_bool, if_neg (by simp)]
        by_cases hz0 : z.idx = 0
        · rw [if_pos hz0] at hn
          refine rv_of (v := .bool false) (w' := W4) (by simp [go_sem, hn]) ?_
          rw [ifB_bool, if_neg (by simp)]
          exact hJJ _ _ ⟨by simp [refuseS, hm, hz0], m4⟩
        · rw [if_neg hz0] at hn
          refine rv_of (v := .bool true) (w' := W4) (by simp [go_sem, hn]) ?_
          rw [ifB_bool, if_pos rfl]
          obtain ⟨f0, -⟩ := sfield (q := q) (o := 0)
          obtain ⟨g0, -⟩ := sfield (q := p) (o := 0)
          refine rv_of (f0 _) (rv_of (sload (m4.keep hx3 id)).1 ?_)
          refine rv_of (g0 _) (rv_of (sload (m4.keep hz3 id)).1 ?_)
          refine rv_of (v := .bool (decide (x.idx ≤ z.idx))) (w' := W4) (by simp [go_sem]) ?_
          exact hJJ _ _ ⟨by simp [refuseS, hm, hz0], m4⟩
    rintro _ W4 ⟨rfl, m4⟩
    unfold J13_3
    intro _
    cases hr : refuseS x z
    · rw [ifB_bool, if_neg (by simp)]
      obtain ⟨rfl, rfl, hok, hn2, c0, c1'⟩ := hS hr
      have hx0 : y.idx ≠ 0 := fun h => by simp [refuseS, ShotM.may, h] at hr
      have ht : toS z at_ < 2 := by unfold toS; split <;> omega
      refine joinK (fun s W' => W' = W4 ∧ s = (.int .i64 (toS z at_ : Int), ())) (fun JJ hJJ => ?_) ?_
      · refine rv_of (v := .bool (decide (toS z at_ = 1))) (w' := W4) ?_ ?_
        · rw [hn]
          unfold toS
          by_cases hz0 : z.idx = 0
          · rw [if_pos hz0]; simp [go_sem, hz0]
          · rw [if_neg hz0]
            by_cases ha : at_ = 0
            · simp [go_sem, hz0, ha]
            · have : ¬ (at_ : Int) = 0 := by omega
              simp [go_sem, hz0, ha]
        by_cases h1 : toS z at_ = 1
        · rw [decide_eq_true h1, ifB_bool, if_pos rfl]
          exact hJJ _ _ ⟨rfl, by rw [h1]; rfl⟩
        · rw [decide_eq_false h1, ifB_bool, if_neg (by simp)]
          exact hJJ _ _ ⟨rfl, by rw [show toS z at_ = 0 by omega]; rfl⟩
      rintro _ W5 ⟨hW5, rfl⟩
      subst hW5
      have m05 := m03.trans m4
      refine wr_put (hW3.mod m4) gg ht (m4.keep hx3 id) (hs3.mod m4 fun _ _ h => h) (by have := lt_of_heap hx; omega) (fun u hu => by have := hs.lt hu; omega) hok hn2 hx0 (hQ.mod m05 fun _ _ h => h) (fun u hu => by have := hQ.lt hu; omega) (by omega) (by omega) fun W' va' vb' mg hw' => ?_
      have hsn : secN y.data.length ≤ 200 := by unfold secN; omega
      refine hJO _ _ ⟨va', vb', _, _, if toS z at_ = 0 then max k (3 + secN y.data.length) else k, if toS z at_ = 0 then l else max l (3 + secN y.data.length), hw', (m4.mono fun _ _ h => h.elim).trans mg, ?_, ?_, ?_, ?_, ?_, ?_⟩
      · rw [c0, clA]
        by_cases h0 : toS z at_ = 0
        · rw [if_pos h0, if_pos h0, if_pos h0]; exact wanS_is lCA y k
        · rw [if_neg h0, if_neg h0, if_neg h0]
      · rw [c1', clB]
        by_cases h0 : toS z at_ = 0
        · rw [if_pos h0, if_pos h0, if_pos h0]
        · rw [if_neg h0, if_neg h0, if_neg h0]; exact wanS_is lCB y l
      · by_cases h0 : toS z at_ = 0
        · rw [if_pos h0, if_pos h0, clA]; exact wanS_len lCA y k
        · rw [if_neg h0, if_neg h0]; exact lA
      · by_cases h0 : toS z at_ = 0
        · rw [if_pos h0, if_pos h0]; exact lB
        · rw [if_neg h0, if_neg h0, clB]; exact wanS_len lCB y l
      · split <;> omega
      · split <;> omega
    · rw [ifB_bool, if_pos rfl]
      obtain ⟨rfl, c0, c1'⟩ := hR hr
      refine rv_of (v := .bool false) (w' := W4) (by simp [go_sem]) ?_
      rw [ifB_bool, if_neg (by simp)]
      exact hJO _ _ ⟨v150, v152, _, _, k, l, hW3.mod m4, m4.mono fun _ _ h => h.elim, by rw [c0]; exact clA, by rw [c1']; exact clB, lA, lB, by omega, by omega⟩
  rintro s W4 ⟨va', vb', LA', LB', ka, kb, hw4, m4, e3, e4, l3, l4, k3, k4⟩
  have m04 : Mod (fun _ => False) W W4 := m03.on m4 fun b hb => .inr (by omega)
  refine wr_look (hd3.mod m4 fun u hu e => by have := hd.lt hu; omega) ho hw hw4 e3 e4 l3 l4 k3 k4 fun W' m' => hK _ (m04.trans m')
end Go.Proofs

namespace Go.Proofs
open Go Go.Vc

theorem bothC_at {C0 C1 : Nat → Sec} (h : (bothC C0 C1).1.idx = 0) : (bothC C0 C1).2 = 1 := by
  unfold bothC at *
  by_cases h1 : (countF C0).idx < (countF C1).idx
  · rw [if_pos h1]
  · rw [if_neg h1] at h ⊢
    by_cases h2 : (countF C0).idx = 0
    · rw [if_pos h2]
    · rw [if_neg h2] at h
      exact absurd h h2
theorem bothC_lt {C0 C1 : Nat → Sec} (h0 : ∀ i, (C0 i).length = 128) (h1 : ∀ i, (C1 i).length = 128) : (bothC C0 C1).1.idx < 18446744073709551616 := by
  unfold bothC
  split
  · exact (counted_ok C1 h1 _).1.1
  · split
    · simp [shot0]
    · exact (counted_ok C0 h0 _).1.1
theorem refuseS_iff (x z : ShotM) : refuseS x z = true ↔ (x.may = false ∨ x.idx ≤ z.idx) := by
  unfold refuseS
  cases hm : x.may
  · simp
  · have hx : x.idx ≠ 0 := by
      simp [ShotM.may] at hm
      exact hm.1
    by_cases hz : z.idx = 0
    · simp [hz, hx]
    · simp [hz]

set_option maxRecDepth 10000 in
theorem ca_shotsWrites {W0 : World} {K : Kont} {a0 a1 slx : Value} {A0 B0 : List UInt8} {x : ShotM} (h0 : Rd W0 1 a0 A0.length (bv A0)) (h1 : Rd W0 1 a1 B0.length (bv B0)) (hs : ShR W0 x slx) (hfit : x.fit) (hxl : x.data.length ≤ 140737488355328) (hK : ∀ w', Mod (fun _ => False) W0 w' → K (.bool true) w') : Ca Try.prog 13 #[a0, a1, .agg (shotC x slx).toArray] W0 K := by
  obtain ⟨pa, ca_, rfl⟩ := h0.isSl
  obtain ⟨pb, cb_, rfl⟩ := h1.isSl
  obtain ⟨xa, xc, rfl⟩ := hs.isSl
  apply ca13
  unfold F13
  refine rv_shbox fun W q mB0 hq0 hq zB0 => ?_
  have ql := lt_of_heap hq
  obtain ⟨f0, f1, f2⟩ := sfield (q := q) (o := 0)
  refine joinK (fun s W' => W' = W ∧ s = (.bool (decide (20000 < A0.length ∨ 20000 < B0.length ∨ (20000 < x.data.length ∧ x.data.length ≤ 524288))), ())) (fun JJ hJJ => ?_) ?_
  · refine rn_len23 ?_
    refine rv_of (v := .bool (decide (20000 < A0.length))) (w' := W) (by simp [go_sem]; omega) ?_
    by_cases hl : 20000 < A0.length
    · rw [decide_eq_true hl, ifB_bool, if_pos rfl]
      exact hJJ _ _ ⟨rfl, by simp [hl]⟩
    · rw [decide_eq_false hl, ifB_bool, if_neg (by simp)]
      refine rn_len23 ?_
      refine rv_of (v := .bool (decide (20000 < B0.length))) (w' := W) (by simp [go_sem]; omega) ?_
      by_cases hl2 : 20000 < B0.length
      · rw [decide_eq_true hl2, ifB_bool, if_pos rfl]
        exact hJJ _ _ ⟨rfl, by simp [hl2]⟩
      · rw [decide_eq_false hl2, ifB_bool, if_neg (by simp)]
        refine rv_of (f2 _) (rv_of (sload hq).2.2.1 ?_)
        refine rn_len23 ?_
        refine rv_of (v := .bool (decide (20000 < x.data.length))) (w' := W) (by simp [go_sem]; omega) ?_
        by_cases hl3 : 20000 < x.data.length
        · rw [decide_eq_true hl3, ifB_bool, if_pos rfl]
          refine rv_of (f2 _) (rv_of (sload hq).2.2.1 ?_)
          refine rn_len23 ?_
          refine rv_of (v := .bool (decide (x.data.length ≤ 524288))) (w' := W) (by simp [go_sem]; omega) ?_
          exact hJJ _ _ ⟨rfl, by simp [hl, hl2, hl3]⟩
        · rw [decide_eq_false hl3, ifB_bool, if_neg (by simp)]
          exact hJJ _ _ ⟨rfl, by simp [hl, hl2, hl3]⟩
  rintro _ _ ⟨rfl, rfl⟩
  rename_i W
  unfold J13_10
  intro _
  by_cases hbig : 20000 < A0.length ∨ 20000 < B0.length ∨ (20000 < x.data.length ∧ x.data.length ≤ 524288)
  · rw [decide_eq_true hbig, ifB_bool, if_pos rfl]
    exact ca_known21 fun w' m' => hK _ (mB0.trans m')
  rw [decide_eq_false hbig, ifB_bool, if_neg (by simp)]
  refine ca_whole21 (h0.mod mB0 fun _ _ h => h) (by omega) fun va W1 NA => ?_
  have nwA := wholeN_le A0.length
  have nwB := wholeN_le B0.length
  have lA := wholeL_len A0
  have lB := wholeL_len B0
  generalize wholeL A0 = A at NA lA
  rw [← lA] at NA nwA
  refine ca_whole21 ((h1.mod mB0 fun _ _ h => h).mod NA.mod fun _ _ h => h) (by omega) fun vb W2 NB => ?_
  generalize wholeL B0 = B at NB lB
  rw [← lB] at NB nwB
  clear lA lB
  obtain ⟨k, hA⟩ : ∃ k, A.length = 128 * k := ⟨A.length / 128, by omega⟩
  obtain ⟨l, hB⟩ : ∃ l, B.length = 128 * l := ⟨B.length / 128, by omega⟩
  have hk : 3 ≤ k ∧ k ≤ 200 := by omega
  have hl : 3 ≤ l ∧ l ≤ 200 := by omega
  have mw2 : Mod (fun _ => False) W W2 := NA.mod.trans NB.mod
  have rA2 : Rd W2 1 va A.length (bv A) := NA.own.rd.mod NB.mod fun _ _ h => h
  have rB2 : Rd W2 1 vb B.length (bv B) := NB.own.rd
  refine ca_laid21 rA2 rB2 hA hB (by omega) (by omega) fun W3 d F3 d3 m3 n3 => ?_
  obtain ⟨-, -, -, q1, q2, q3, q4, q5, -, -⟩ := laid_is hA hB (by omega) (by omega)
  generalize (lay3 A B).2 = D at d3 q1 q2 q3 q4 q5
  obtain ⟨o1, o2, o3, o4, o5, o6, o7, o8⟩ := open_any (fs := fs01) d3.len fs01_ne fs01_ok q1 q3 q2
  rw [show CF D (fs01 0) = secL A from q4] at o5 o6
  rw [show CF D (fs01 1) = secL B from q5] at o5 o7
  have bok := bothC_ok (secL_len hA) (secL_len hB)
  have bat := fun h => bothC_at (C0 := secL A) (C1 := secL B) h
  have blt := bothC_lt (secL_len hA) (secL_len hB)
  have hbo := bothL_is hA hB hk.1 hl.1
  rw [← o5] at bok hbo bat blt
  refine rv_of (v := dptr d) (w' := W3) (by simp [go_sem]) ?_
  refine rv_of (v := .bool true) (w' := W3) (by simp [go_sem]) ?_
  refine ca_sopen (fs := fs01) d3 (by rw [q3]; decide) (fun w' F' h => absurd o1 h) fun W4 F4 v G R _ d4 s4 hv nG => ?_
  generalize (D.sopen fs01).2 = X at d4 hv o2 o3 o4 o5 o6 o7 o8 bok hbo bat blt
  obtain ⟨D4, z, at_, cl, ms⟩ := X
  simp only at d4 hv o2 o3 o4 o5 o6 o7 o8 bok hbo bat blt
  obtain ⟨zl, z0, zat⟩ := bok
  have mw4 : Mod (fun _ => False) W W4 := (mw2.trans m3).on s4.mod fun y hy => .inr (by have := n3 y hy; have := mw2.size; omega)
  have m24 : Mod (fun _ => False) W2 W4 := m3.on s4.mod fun y hy => .inr (n3 y hy)
  refine rv_of (v := dptr v) (w' := W4) (by simp [go_sem]) ?_
  refine rv_of (v := .int .i64 0) (w' := W4) (by simp [go_sem]) ?_
  refine mk_zero (n := 25600) (c := 25600) (by omega) (by omega) fun W5 hz5 m5 => ?_
  have rz5 := (own_zero hz5 (c := 25600) List.length_replicate).rd
  generalize (Value.slice (some ⟨W4.heap.size, 0, none⟩) 25600 25600) = vz at rz5 ⊢
  have m25 := m24.trans m5
  refine padded (rA2.mod m25 fun _ _ h => h) rz5 (by omega) fun v35 W6 N6 => ?_
  have m26 := m25.trans N6.mod
  refine padded (rB2.mod m26 fun _ _ h => h) (rz5.mod N6.mod fun _ _ h => h) (by omega) fun v41 W7 N7 => ?_
  have lZ : ∀ L : List UInt8, (L ++ List.replicate 25600 (0 : UInt8)).length = L.length + 25600 := fun L => by rw [List.length_append, List.length_replicate]
  refine ca_both21 (A := A ++ List.replicate 25600 0) (B := B ++ List.replicate 25600 0) (by rw [lZ]; exact N6.own.rd.mod N7.mod fun _ _ h => h) (by rw [lZ]; exact N7.own.rd) (by rw [lZ]; omega) (by rw [lZ]; omega) fun W8 sx rx8 m8 fx => ?_
  rw [hbo] at rx8 ⊢
  obtain ⟨zz, hx⟩ : ∃ zz, (if z.idx = 0 then (shot0, (-1 : Int)) else (z, (at_ : Int))).1 = zz := ⟨_, rfl⟩
  obtain ⟨n, hn⟩ : ∃ n, (if z.idx = 0 then (shot0, (-1 : Int)) else (z, (at_ : Int))).2 = n := ⟨_, rfl⟩
  have hxz : zz = z := by
    rw [← hx]
    by_cases h : z.idx = 0
    · rw [if_pos h]; exact (z0 h).symm
    · rw [if_neg h]
  have hnz : n = if z.idx = 0 then -1 else (at_ : Int) := by
    rw [← hn]
    by_cases h : z.idx = 0
    · rw [if_pos h, if_pos h]
    · rw [if_neg h, if_neg h]
  rw [hx] at rx8 ⊢
  rw [hn]
  subst hxz
  clear hx hn
  obtain ⟨za, zc, rfl⟩ := rx8.isSl
  have m48 := ((m5.trans N6.mod).trans N7.mod).trans m8
  refine rv_of (v := .agg (shotC zz (.slice za zz.data.length zc)).toArray) (w' := W8) (by simp [go_sem]) ?_
  refine rv_of (v := .int .i64 n) (w' := W8) (by simp [go_sem]) ?_
  refine rv_shvar fun W9 p m9 hp9 h9 z9 => ?_
  refine ru_shot h9 ⟨_, _, _, rfl⟩ fun W10 m10 h10 => ?_
  have m810 : Mod (fun _ => False) W8 W10 := m9.on m10 fun b hb => .inr (by omega)
  have rx10 : ShR W10 zz (.slice za zz.data.length zc) := rx8.mod m810 fun _ _ h => h
  have m410 := m48.trans m810
  have hv10 := hv.mod m410 fun _ _ h => h
  have d10 := d4.mod m410 fun _ _ h => h
  have m210 := m24.trans m410
  have mw10 := mw4.trans m410
  have rA10 := rA2.mod m210 fun _ _ h => h
  have rB10 := rB2.mod m210 fun _ _ h => h
  have GW4 : ∀ u, G u ∨ R u → u < W4.heap.size := fun u hu => hv.lt hu
  have hq10 := mw10.keep hq id
  have hs10 : ShR W10 x (.slice xa x.data.length xc) := (hs.mod mB0 fun _ _ h => h).mod mw10 fun _ _ h => h
  -- the copy that is handed in
  refine joinK (fun s W' => ∃ mb sin, s = (.pointer (some ⟨mb, 0, none⟩), ()) ∧ Mod (fun _ => False) W10 W' ∧ hp W' mb = some (.cells (shotC x sin).toArray 83 (0, 0)) ∧ Own W' 5 1 sin x.data.length (bv x.data) ∧ (∀ u, inSl sin u → W10.heap.size ≤ u) ∧ W10.heap.size ≤ mb ∧ ¬ inSl sin mb) (fun JJ hJJ => ?_) ?_
  · have md : Mod (fun _ => False) W10 W10.drew := (Mod.refl _ W10).drew
    have ld : ∀ W', Mod (fun _ => False) W10 W' → _ := fun W' m => sload (m.keep hq10 id)
    have cp : ∀ (W' : World) (v : Value) (KK : Kont), Mod (fun _ => False) W10 W' → Own W' 5 1 v 0 (bv []) → (∀ u, inSl v u → W10.heap.size ≤ u) → (∀ v3 W3, Own W3 5 1 v3 x.data.length (bv x.data) → Mod (inSl v) W' W3 → (∀ u, inSl v3 u → inSl v u ∨ W'.heap.size ≤ u) → KK v3 W3) → rx Try.prog (xAppend #[23, 23] 23 [v, .slice xa x.data.length xc]) W' KK := by
      intro W' v KK m ov fv hh
      refine rx_append (n := 0) (m := x.data.length) Try.underlying23 Try.underlying23 (elemT_of uT1) ov (hs10.mod m fun _ _ h => h) (bv_one _) (by omega) fun v3 W3 o3 m3 n3 => ?_
      rw [← bv_append, Nat.zero_add, List.nil_append] at o3
      exact hh v3 W3 o3 m3 n3
    have bld : ∀ (a : Option Addr) (n c : Nat) (w : World), (Instr.build 83 #[(0, .int .u64 (x.idx : Int)), (1, .int .u64 (x.term : Int)), (2, .slice a n c)]).run Try.prog w = .ok (.agg (shotC x (.slice a n c)).toArray) w := fun a n c w => by simp [go_sem, shotC]
    refine rdP_of f0 ?_
    refine rdW_of (ld _ md).1 ?_
    refine rdP_of f1 ?_
    refine rdW_of (ld _ md).2.1 ?_
    refine rdP_of f2 ?_
    refine rdW_of (ld _ md).2.2.1 ?_
    refine ⟨?_, ?_⟩
    · refine lit0 fun v79 W11 o11 m11 n11 => ?_
      have t11 := md.trans m11
      have fv : ∀ u, inSl v79 u → W10.heap.size ≤ u := fun u hu => by have := n11 u hu; rw [size_drew] at this; exact this
      refine ⟨(ld _ t11).2.2.1, (ld _ t11).2.1, (ld _ t11).1, ?_, ?_⟩
      · refine cp W11 v79 _ t11 o11 fv fun v3 W12 o12 m12 n12 => ?_
        have t12 : Mod (fun _ => False) W10 W12 := t11.on m12 fun b hb => .inr (fv b hb)
        have f3 : ∀ u, inSl v3 u → W10.heap.size ≤ u := fun u hu => by
          rcases n12 u hu with h | h
          · exact fv u h
          · have := t11.size; omega
        obtain ⟨sa, sc, rfl, -⟩ := o12.isSl
        refine ⟨(ld _ t12).2.1, (ld _ t12).1, ?_⟩
        refine rdP_of (bld _ _ _) ?_
        refine rv_shvar fun W13 mb m13 hmb h13 z13 => ?_
        have t13 := t12.trans m13
        refine ⟨(ld _ t13).2.1, (ld _ t13).1, ?_⟩
        refine ru_shot h13 ⟨_, _, _, rfl⟩ fun W14 m14 h14 => ?_
        have hne : ¬ inSl (.slice sa x.data.length sc) mb := fun h => by have := o12.lt h; omega
        exact hJJ _ _ ⟨mb, _, rfl, t13.on m14 fun b hb => .inr (by have := t12.size; omega), h14, (o12.mod m13 fun _ _ h => h).mod m14 fun u hu e => hne (e ▸ hu), f3, by have := t12.size; omega, hne⟩
      · refine rv_shvar fun W12 mb m12 hmb h12 z12 => ?_
        have t12 := t11.trans m12
        refine ⟨(ld _ t12).2.2.1, (ld _ t12).2.1, (ld _ t12).1, ?_⟩
        refine cp W12 v79 _ t12 (o11.mod m12 fun _ _ h => h) fv fun v3 W13 o13 m13 n13 => ?_
        have t13 : Mod (fun _ => False) W10 W13 := t12.on m13 fun b hb => .inr (fv b hb)
        have hmv : ¬ inSl v79 mb := fun h => by have := o11.lt h; omega
        have f3 : ∀ u, inSl v3 u → W10.heap.size ≤ u := fun u hu => by
          rcases n13 u hu with h | h
          · exact fv u h
          · have := t12.size; omega
        have hne : ¬ inSl v3 mb := fun h => by
          rcases n13 mb h with h | h
          · exact hmv h
          · have := lt_of_heap h12; omega
        obtain ⟨sa, sc, rfl, -⟩ := o13.isSl
        refine ⟨(ld _ t13).2.1, (ld _ t13).1, ?_⟩
        refine rdP_of (bld _ _ _) ?_
        refine ru_shot (m13.keep h12 hmv) ⟨_, _, _, rfl⟩ fun W14 m14 h14 => ?_
        exact hJJ _ _ ⟨mb, _, rfl, t13.on m14 fun b hb => .inr (by have := t11.size; omega), h14, o13.mod m14 fun u hu e => hne (e ▸ hu), f3, by have := t11.size; omega, hne⟩
    · refine rv_shvar fun W11 mb m11 hmb h11 z11 => ?_
      have t11 := md.trans m11
      refine ⟨(ld _ t11).2.2.1, (ld _ t11).2.1, (ld _ t11).1, ?_⟩
      refine lit0 fun v79 W12 o12 m12 n12 => ?_
      have t12 := t11.trans m12
      have s11 := t11.size
      have fv : ∀ u, inSl v79 u → W10.heap.size ≤ u := fun u hu => by have := n12 u hu; omega
      refine ⟨(ld _ t12).2.2.1, (ld _ t12).2.1, (ld _ t12).1, ?_⟩
      have lmb := lt_of_heap h11
      have hmb10 : W10.heap.size ≤ mb := by rw [hmb, size_drew]; exact Nat.le_refl _
      refine cp W12 v79 _ t12 o12 fv fun v3 W13 o13 m13 n13 => ?_
      have t13 : Mod (fun _ => False) W10 W13 := t12.on m13 fun b hb => .inr (fv b hb)
      have hmv : ¬ inSl v79 mb := fun h => by have := n12 mb h; omega
      have f3 : ∀ u, inSl v3 u → W10.heap.size ≤ u := fun u hu => by
        rcases n13 u hu with h | h
        · exact fv u h
        · have := t12.size; omega
      have hne : ¬ inSl v3 mb := fun h => by
        rcases n13 mb h with h | h
        · exact hmv h
        · have := m12.size; omega
      obtain ⟨sa, sc, rfl, -⟩ := o13.isSl
      refine ⟨(ld _ t13).2.1, (ld _ t13).1, ?_⟩
      refine rdP_of (bld _ _ _) ?_
      refine ru_shot (m13.keep (m12.keep h11 id) hmv) ⟨_, _, _, rfl⟩ fun W14 m14 h14 => ?_
      exact hJJ _ _ ⟨mb, _, rfl, t13.on m14 fun b hb => .inr (by omega), h14, o13.mod m14 fun u hu e => hne (e ▸ hu), f3, hmb10, hne⟩
  rintro _ W5 ⟨mb, sin, rfl, m5', h5', o5', f5', l5', ne5'⟩
  obtain ⟨ia, ic, rfl, -⟩ := o5'.isSl
  unfold J13_9
  intro _
  have mw5 := mw10.trans m5'
  have d5 := d10.mod m5' fun _ _ h => h
  have hv5 := hv10.mod m5' fun _ _ h => h
  have s10 := m410.size
  have s25 := m5'.size
  have m25' := m210.trans m5'
  have F4n : ∀ u, F4 u → W2.heap.size ≤ u := fun u hu => by
    rcases s4.sub u hu with h | h
    · exact n3 u h
    · have := m3.size; omega
  have F4l : ∀ u, F4 u → u < W4.heap.size := fun u hu => d4.lt hu
  have Gn : ∀ u, G u ∨ R u → W2.heap.size ≤ u := fun u hu => by have := (nG u hu).1; have := m3.size; omega
  have Gl : ∀ u, G u ∨ R u → u < W4.heap.size := fun u hu => hv.lt hu
  have pl := lt_of_heap h10
  have p8 : W4.heap.size ≤ p := by have := m48.size; omega
  refine rv_of (sload h5').2.2.2 ?_
  have q2 : q < W2.heap.size := by have := mw2.size; omega
  -- behind the save
  have rest : ∀ (W6 : World) (D5 : DM) (F5 G5 R5 : Nat → Prop) (at2 : Nat) (y : ShotM) (ms5 : Nat → List UInt8) (e : Int), DiskR W6 d F5 D5 → D5.off = false → D5.waits = [] → (∀ u, F5 u → F4 u ∨ W5.heap.size ≤ u) → Mod (fun u => F4 u ∨ G u) W5 W6 →
      ShQ W6 v d fs01 at2 y ms5 G5 R5 → (∀ u, G5 u ∨ R5 u → (G u ∨ R u) ∨ W5.heap.size ≤ u) → (refuseS x zz = true → e = 2 ∧ CF D5 0 = clC (secL A) ∧ CF D5 1 = clC (secL B)) →
      (refuseS x zz = false → e = 0 ∧ y = x ∧ x.ok ∧ x.data.length ≤ 20000 ∧ CF D5 0 = (if toS zz at_ = 0 then savC (clC (secL A)) x else clC (secL A)) ∧ CF D5 1 = if toS zz at_ = 0 then clC (secL B) else savC (clC (secL B)) x) →
      JoinW (S := Value × Unit) (fun J107 =>
       rv Try.prog (Op.unary .not (.bool true)) W6 fun v108 w109 =>
       ifB v108
       (J107 ((.bool true), ()) w109)
       (rv Try.prog (bin .neq 28 true (.int .i64 0) (.int .i64 0)) w109 fun v110 w111 =>
       ifB v110
       (J107 ((.bool true), ()) w111)
       (rv Try.prog (Instr.loadAt 83 (.pointer (some ⟨mb, 0, none⟩))) w111 fun v112 w113 =>
       rv Try.prog (Instr.loadAt 83 (.pointer (some ⟨q, 0, none⟩))) w113 fun v114 w115 =>
       Ca Try.prog 47 #[v112, v114] w115 fun v116 w117 =>
       rv Try.prog (Op.unary .not v116) w117 fun v118 w119 =>
       ifB v118
       (J107 ((.bool true), ()) w119)
       (Ca Try.prog 21 #[dptr d] w119 fun v120 w121 =>
       rv Try.prog (bin .neq 3 true v120 (.int .i64 0)) w121 fun v122 w123 =>
       J107 (v122, ()) w123))))
       (J13_8 K (.pointer (some ⟨mb, 0, none⟩), ()) va vb (.pointer (some ⟨q, 0, none⟩)) (.int .i64 n) (.pointer (some ⟨p, 0, none⟩)) (.int .i64 e) (dptr v) (dptr d)) := by
    intro W6 D5 F5 G5 R5 at2 y ms5 e hd6 ho6 hw6 hF5 m56 hQ6 hG5 hR hS
    have old : ∀ u, (F4 u ∨ G u) → W2.heap.size ≤ u ∧ u < W4.heap.size := fun u hu => by
      rcases hu with h | h
      · exact ⟨F4n u h, F4l u h⟩
      · exact ⟨Gn u (.inl h), Gl u (.inl h)⟩
    have mw6 : Mod (fun _ => False) W W6 := mw5.on m56 fun u hu => .inr (by have := (old u hu).1; have := mw2.size; omega)
    have hq6 := m56.keep (m5'.keep hq10 id) fun h => by have := old _ h; omega
    have hs6 : ShR W6 x (.slice xa x.data.length xc) := (hs10.mod m5' fun _ _ h => h).mod m56 fun u hu h => by have := old u h; have := hs.lt hu; have := mw2.size; have := mB0.size; omega
    have hp6 := m56.keep (m5'.keep h10 id) fun h => by have := old _ h; omega
    have hi6 := m56.keep h5' fun h => by have := old _ h; omega
    have o6' := o5'.mod m56 fun u hu h => by have := old u h; have := f5' u hu; omega
    have r6 : ∀ (L : List UInt8) (v' : Value), Rd W2 1 v' L.length (bv L) → Rd W6 1 v' L.length (bv L) := fun L v' r => (r.mod m25' fun _ _ h => h).mod m56 fun u hu h => by have := old u h; have := r.lt hu; omega
    have rA6 := r6 A va rA2
    have rB6 := r6 B vb rB2
    have l6 := m56.size
    have inl : ∀ u, inSl (.slice ia x.data.length ic) u → W10.heap.size ≤ u ∧ u < W5.heap.size := fun u hu => ⟨f5' u hu, o5'.lt hu⟩
    refine joinK (fun s W' => s = (.bool false, ()) ∧ Mod (fun _ => False) W6 W') (fun JJ hJJ => ?_) ?_
    · refine rv_of (v := .bool false) (w' := W6) (by simp [go_sem]) ?_
      rw [ifB_bool, if_neg (by simp)]
      refine rv_of (v := .bool false) (w' := W6) (by simp [go_sem]) ?_
      rw [ifB_bool, if_neg (by simp)]
      refine rv_of (sload hi6).2.2.2 ?_
      refine rv_of (sload hq6).2.2.2 ?_
      refine ca_sameS (x := x) (y := x) o6'.rd hs6 fun W7 m7 => ?_
      refine rv_of (v := .bool false) (w' := W7) (by simp [go_sem]) ?_
      rw [ifB_bool, if_neg (by simp)]
      refine ca_waits (hd6.mod m7 fun _ _ h => h) ?_
      rw [hw6]
      refine rv_of (v := .bool false) (w' := W7) (by simp [go_sem]) ?_
      exact hJJ _ _ ⟨rfl, m7⟩
    rintro _ W7 ⟨rfl, m7⟩
    unfold J13_8
    intro _
    rw [ifB_bool, if_neg (by simp)]
    unfold L13_7
    refine loopK (fun s W' => ∃ (i : Nat) (l' : List UInt8), i ≤ x.data.length ∧ s = (.int .i64 (i : Int), ()) ∧ Mod (inSl (.slice ia x.data.length ic)) W7 W' ∧ Own W' 5 1 (.slice ia x.data.length ic) x.data.length (bv l')) (fun s _ => match s.1 with | .int _ i => x.data.length - i.toNat | _ => 0) ⟨0, x.data, by omega, rfl, Mod.refl _ _, o6'.mod m7 fun _ _ h => h⟩ ?_
    rintro ⟨_, _⟩ W16 ⟨i, l', hi, ⟨⟩, m16, o16⟩ KN hKN _
    have hI16 := m16.keep (m7.keep hi6 id) ne5'
    obtain ⟨-, -, g2⟩ := sfield (q := mb) (o := 0)
    refine rv_of (g2 _) (rv_of (sload hI16).2.2.1 ?_)
    refine rn_len23 ?_
    refine rv_of (v := .bool (decide (i < x.data.length))) (w' := W16) (by simp [go_sem]) ?_
    have e1 : IntKind.i64.wrap ((i : Int) + 1) = ((i + 1 : Nat) : Int) := by rw [IntKind.wrap_i64]; omega
    by_cases hlt : i < x.data.length
    · rw [decide_eq_true hlt, ifB_bool, if_pos rfl]
      have hl' : l'.length = x.data.length := by simpa using o16.1
      obtain ⟨b, cap, hv2, hcap, hst, hO, hM⟩ := own_put o16 hlt (l'[i] + 1)
      obtain ⟨b', off', cap', C, e', fz, hv3, hC, hCj⟩ := rd_at o16.rd (i := i) hlt
      rw [hv2] at hv3
      injection hv3 with d1 d2 d3
      injection d1 with d1
      injection d1 with d1 d4 d5
      subst d1 d4 d3
      have hcj : C[0 + i]? = some (.int .u8 (l'[i].toNat : Int)) := by
        rw [hCj, bv, List.getElem?_map, List.getElem?_eq_getElem (by omega)]
        rfl
      refine rv_of (g2 _) (rv_of (sload hI16).2.2.1 ?_)
      rw [hv2]
      refine rv_of (index8 hlt W16) ?_
      refine rv_of (v := .int .u8 (l'[i].toNat : Int)) (w' := W16) (by simp only [Nat.zero_add] at hcj; simp [go_sem, hC, hcj]) ?_
      refine rv_of (v := .int .u8 ((l'[i] + 1).toNat : Int)) (w' := W16) (by simp [-UInt8.toNat_add, go_sem, u8_inc]) ?_
      refine rv_of (index8 hlt W16) ?_
      rw [Nat.zero_add]
      refine ru_of hst ?_
      refine rv_of (v := .int .i64 ((i + 1 : Nat) : Int)) (w' := W16.setCell ⟨b, i, none⟩ (.int .u8 ((l'[i] + 1).toNat : Int))) (by simp [-Int.natCast_add, go_sem, e1]) ?_
      exact hKN _ _ ⟨i + 1, _, hlt, rfl, m16.trans hM, hO⟩ (by simp; omega)
    · rw [decide_eq_false hlt, ifB_bool, if_neg (by simp)]
      have nin : ∀ u, u < W10.heap.size ∨ W5.heap.size ≤ u → ¬ inSl (.slice ia x.data.length ic) u := fun u hu h => by have := inl u h; omega
      have mw16 : Mod (fun _ => False) W W16 := (mw6.trans m7).on m16 fun u hu => .inr (by have := inl u hu; have := mw10.size; omega)
      refine wr_end (at_ := at_) (y := y) (z := zz) (D := D5) (F := F5) (G := G5) (R := R5) ((hd6.mod m7 fun _ _ h => h).mod m16 fun u hu h => ?_) ho6 hw6 hA hB (by omega) (by omega) ((rA6.mod m7 fun _ _ h => h).mod m16 fun u hu h => ?_) ((rB6.mod m7 fun _ _ h => h).mod m16 fun u hu h => ?_)
        (m16.keep (m7.keep hq6 id) (nin _ (.inl (by have := m24.size; omega)))) ((hs6.mod m7 fun _ _ h => h).mod m16 fun u hu h => ?_) hfit.2.2 (m16.keep (m7.keep hp6 id) (nin _ (.inl pl))) ⟨_, _, _, rfl⟩ blt hnz ((hQ6.mod m7 fun _ _ h => h).mod m16 fun u hu h => ?_) hR hS fun W' m' => hK _ ((mB0.trans mw16).trans m')
      · rcases hF5 u hu with h' | h'
        · exact nin u (.inl (by have := F4l u h'; omega)) h
        · exact nin u (.inr h') h
      · exact nin u (.inl (by have := rA2.lt hu; have := m24.size; omega)) h
      · exact nin u (.inl (by have := rB2.lt hu; have := m24.size; omega)) h
      · exact nin u (.inl (by have := hs.lt hu; have := mB0.size; have := mw10.size; omega)) h
      · rcases hG5 u hu with h' | h'
        · exact nin u (.inl (by have := Gl u h'; omega)) h
        · exact nin u (.inr h') h
  have hri := refuseS_iff x zz
  have hms : ms (1 - at_) = marks3 (CF D4 (fs01 (1 - at_))) := by
    have := o8 (1 - at_) (by omega)
    rcases (show 1 - at_ = 0 ∨ 1 - at_ = 1 by omega) with h | h
    · rw [h] at this ⊢; rw [this, o6]; rw [show CF D (fs01 0) = secL A from q4]
    · rw [h] at this ⊢; rw [this, o7]; rw [show CF D (fs01 1) = secL B from q5]
  have hto : toS zz at_ = 1 - at_ := by
    unfold toS
    by_cases h : zz.idx = 0
    · rw [if_neg fun hh => hh.1 h, bat h]
    · by_cases h' : at_ = 0
      · rw [if_pos ⟨h, h'⟩, h']
      · rw [if_neg fun hh => h' hh.2]; omega
  refine ca_ssave hv5 d5 (fun u hu => (nG u hu).2) zat hfit o5'.rd (by rw [o4]; decide) (fun hb W6 m6 => ?_) (fun hmay hlt he W6 F6 d6 m6 nF6 => ?_) (fun hmay hlt he W6 F6 ms' R' d6 m6 nF6 hQ hms' nR' gF => ?_)
  · have hrf := hri.2 hb
    exact rest W6 D4 F4 G R at_ zz ms 2 (d5.mod m6 fun _ _ h => h) o2 o4 (fun u hu => .inl hu) (m6.mono fun _ _ h => h.elim) (hv5.mod m6 fun _ _ h => h) (fun u hu => .inl hu) (fun _ => ⟨rfl, o6, o7⟩) (fun h => by rw [hrf] at h; cases h)
  · have hx5 : x.data.length ≤ 524288 := by simp [ShotM.may] at hmay; exact hmay.2
    obtain ⟨g1, -⟩ := save_any d4.len (fs01_ok (1 - at_)) o2 o4 o3 hx5
    rw [hms] at he
    exact absurd g1 he
  · have hx5 : x.data.length ≤ 524288 := by simp [ShotM.may] at hmay; exact hmay.2
    have hx2 : x.data.length ≤ 20000 := by omega
    obtain ⟨g1, g2, g3, g4, g5⟩ := save_any d4.len (fs01_ok (1 - at_)) o2 o4 o3 hx5
    rw [← hms] at g1 g2 g3 g4 g5
    have hnr : refuseS x zz = false := by
      cases hr : refuseS x zz
      · rfl
      · rcases hri.1 hr with h | h
        · rw [hmay] at h; cases h
        · omega
    generalize (D4.ssave (fs01 (1 - at_)) x (ms (1 - at_))).2 = D6 at d6 g2 g3 g4 g5
    refine rest W6 D6 F6 G R' (1 - at_) x ms' 0 d6 g2 g3 nF6 m6 hQ (fun u hu => ?_) (fun h => by rw [hnr] at h; cases h) (fun _ => ⟨rfl, rfl, ⟨hfit.1, hfit.2.1, by omega⟩, hx2, ?_, ?_⟩)
    · rcases hu with h | h
      · exact .inl (.inl h)
      · exact .inr (nR' u h)
    · rw [hto]
      rcases (show 1 - at_ = 0 ∨ 1 - at_ = 1 by omega) with h | h
      · rw [h] at g4 ⊢
        rw [if_pos rfl]
        exact g4.trans (by rw [o6])
      · rw [h] at g5 ⊢
        rw [if_neg (by decide)]
        exact (g5 (fs01 0) (by decide)).trans o6
    · rw [hto]
      rcases (show 1 - at_ = 0 ∨ 1 - at_ = 1 by omega) with h | h
      · rw [h] at g5 ⊢
        rw [if_pos rfl]
        exact (g5 (fs01 1) (by decide)).trans o7
      · rw [h] at g4 ⊢
        rw [if_neg (by decide)]
        exact g4.trans (by rw [o7])
end Go.Proofs
