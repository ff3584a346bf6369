/-
  The contracts of New and Copy.
  Conditions: where they ask for any, each theorem names them.
-/
import Derived.Test.YtanjfianhnhhmaaLedC
set_option linter.unusedVariables false
set_option linter.unusedSimpArgs false
namespace Go.Proofs
open Go Go.Vc

section
variable {κ ν : Type} [DecidableEq κ]
theorem perm_of_lk {A B : List (κ × ν)} (hA : (A.map (·.1)).Nodup) (hB : (B.map (·.1)).Nodup) (h : ∀ k, lk A k = lk B k) : A.Perm B := by
  have nd : ∀ L : List (κ × ν), (L.map (·.1)).Nodup → L.Nodup := fun L hL => by
    rw [List.Nodup, List.pairwise_map] at hL
    exact hL.imp fun hne e => hne (by rw [e])
  refine (List.perm_ext_iff_of_nodup (nd A hA) (nd B hB)).2 fun ⟨k, v⟩ => ?_
  rw [← lk_iff hA, ← lk_iff hB, h]
theorem lk_eraseIdx {R : List (κ × ν)} (hn : (R.map (·.1)).Nodup) {i : Nat} {p : κ × ν} (h : R[i]? = some p) : ((R.eraseIdx i).map (·.1)).Nodup ∧ lk R p.1 = some p.2 ∧ lk (R.eraseIdx i) p.1 = none ∧ ∀ k, k ≠ p.1 → lk (R.eraseIdx i) k = lk R k := by
  have hp := perm_eraseIdx h
  have hn' : ((p :: R.eraseIdx i).map (·.1)).Nodup := (hp.map _).nodup_iff.1 hn
  simp only [List.map_cons, List.nodup_cons] at hn'
  refine ⟨hn'.2, by rw [lk_perm hn hp]; simp [lk], lk_none_of_notMem hn'.1, fun k hk => ?_⟩
  rw [lk_perm hn hp]
  simp [lk, Ne.symm hk]
/-- A map copied entry by entry. -/
def CopyInv (A R C : List (κ × ν)) : Prop := (R.map (·.1)).Nodup ∧ ∀ k, (lk R k).or (lk C k) = lk A k
theorem CopyInv.step {A R C : List (κ × ν)} (h : CopyInv A R C) {i : Nat} {p : κ × ν} (hi : R[i]? = some p) : CopyInv A (R.eraseIdx i) (put C p.1 p.2) := by
  obtain ⟨hn, hk⟩ := h
  obtain ⟨h1, h2, h3, h4⟩ := lk_eraseIdx hn hi
  refine ⟨h1, fun k => ?_⟩
  rw [lk_put]
  by_cases e : k = p.1
  · subst e
    rw [h3, if_pos rfl, Option.none_or, ← hk, h2, Option.some_or]
  · rw [h4 k e, if_neg (fun h => e h.symm)]
    exact hk k
theorem CopyInv.done {A C : List (κ × ν)} (h : CopyInv A [] C) (hA : (A.map (·.1)).Nodup) (hC : (C.map (·.1)).Nodup) : C.Perm A :=
  perm_of_lk hC hA fun k => by have := h.2 k; simpa [lk] using this
end

def Led.empty : Led := ⟨0, [], []⟩
theorem Led.empty_ok : Led.empty.Ok where
  fund := by simp [Led.empty, MF]
  sa := List.Pairwise.nil
  sp := List.Pairwise.nil
  len := by simp [Led.empty]
  acc := by simp [Led.empty]
  pos := by simp [Led.empty]

theorem ca_new {w : World} {K : Kont} (hK : ∀ w' l F, LedQ w' l F Led.empty → Mod (fun _ => False) w w' → (∀ b, F b → w.heap.size ≤ b) → K (lptr l) w') : Ca Try.prog 8 #[] w K := by
  apply ca8
  unfold F8
  simp [go_sem]
  have hm := MapAt.new (enc := encU) (ev := acV) w
  refine rux_mapUp (enc := encU) (ev := acV) (x := 0) (v := ⟨0, 0, false, false⟩) uMapA kU32 hm fun w2 hA m2 hs2 => ?_
  have mA : Mod (fun _ => False) w w2 := ((Mod.refl (fun _ => False) w).alloc _).on m2 fun b hb => .inr (by omega)
  have hs : w2.heap.size = w.heap.size + 1 := by rw [hs2, World.size_alloc]
  (try simp [go_sem])
  generalize hw3 : (w2.alloc (.map #[] 0)).alloc _ = w3
  have m3 : Mod (fun _ => False) w2 w3 := by subst hw3; exact ((Mod.refl _ w2).alloc _).alloc _
  refine hK w3 (w2.heap.size + 1) (fun b => b = w2.heap.size + 1 ∨ b = w.heap.size ∨ b = w2.heap.size) ⟨⟨w.heap.size, w2.heap.size, _, [], ?_, hA.mod m3 id, ?_, ?_, List.Perm.refl _, fun _ => Iff.rfl, by omega, by omega, by omega⟩, Led.empty_ok⟩ (mA.trans m3) fun b hb => by omega
  · subst hw3; simp [go_sem, hs]
  · subst hw3
    exact (MapAt.new (enc := encKey) (ev := poV) w2).mod ((Mod.refl (fun _ => False) _).alloc _) id
  · exact List.Perm.refl _

theorem ca_copy {w : World} {l : Nat} {F : Nat → Prop} {S : Led} {K : Kont} (h : LedQ w l F S) (hK : ∀ w' l' F', LedQ w' l' F' S → Mod (fun _ => False) w w' → (∀ b, F' b → w.heap.size ≤ b) → K (lptr l') w') : Ca Try.prog 14 #[lptr l] w K := by
  have h0 := h
  obtain ⟨⟨m1, m2, A, B, h1, h2, h3, h4, h5, h6, h7⟩, hok⟩ := h
  apply ca14
  unfold F14
  refine ca_ready h0 ?_
  simp [go_sem]
  refine ca_new fun w1 l' F' q1 n1 f1 => ?_
  obtain ⟨⟨k1, k2, A', B', c1, c2, c3, c4, c5, c6, c7⟩, -⟩ := q1
  have hk1 : w.heap.size ≤ k1 := f1 k1 ((c6 k1).2 (.inr (.inl rfl)))
  have hk2 : w.heap.size ≤ k2 := f1 k2 ((c6 k2).2 (.inr (.inr rfl)))
  have hl' : w.heap.size ≤ l' := f1 l' ((c6 l').2 (.inl rfl))
  have e1 := n1.keep h1 id
  have hlm1 := h2.lt
  have hlm2 := h3.lt
  simp [go_sem, lptr, hp_of e1]
  refine rx_range uMapA (h2.mod n1 id) fun w2 it2 n2 => ?_
  generalize hg : w1.heap.size = it at it2
  have hitl := lt_of_heap c1
  have hc2l := c2.lt
  have hc3l := c3.lt
  refine loopK (fun s W => ∃ (R C : List (Int × Ac)), s = () ∧ MapIt encU acV W it m1 R ∧ MapAt encU acV W k1 C ∧ CopyInv A R C ∧ Mod (fun b => b = it ∨ b = k1) w1 W)
    (fun s W => itLeft it m1 W) ⟨A, A', rfl, it2, c2.mod n2 id, ⟨h2.1, fun k => ?_⟩, n2.mono fun _ _ h => h.elim⟩ ?_
  · have hA' : ∀ k, lk A' k = Led.empty.getO k := fun k => LedQ.lkA c2 c4 k
    rw [hA' k, LedQ.lkA h2 h4]
    unfold Led.getO
    by_cases hz : k = 0
    · simp [hz]
    · simp only [if_neg hz]
      cases S.find k <;> simp [Led.find, Led.empty]
  rintro _ W ⟨R, C, rfl, itW, cW, inv, mW⟩ KN hKN
  unfold L14_1
  intro _
  refine rx_next itW ?_ ?_
  · intro hz w' m' hh
    subst hz
    have mW' : Mod (fun b => b = it ∨ b = k1) w1 w' := mW.trans (m'.mono fun _ _ h => h.elim)
    have e1' := mW'.keep e1 (by have := lt_of_heap h1; omega)
    simp [go_sem, hp_of e1']
    have mF : Mod (fun _ => False) w w' := n1.on mW' fun b hb => .inr (by have := n1.size; omega)
    refine rx_range uMapP (h3.mod mF id) fun w4 it4 n4 => ?_
    generalize hg4 : w'.heap.size = jt at it4
    have cA := ((inv.done h2.1 cW.1).trans h4)
    have cW4 := (cW.mod m' id).mod n4 id
    have hjt : it < jt ∧ k1 < jt ∧ k2 < jt ∧ l' < jt := by
      have := mW'.size
      have := itW.lt.2
      have := m'.size
      omega
    have c1' : hp w4 l' = some (.cells #[.map (some k1), .map (some k2)] 74 (0, 0)) := n4.keep (mW'.keep c1 (by omega)) id
    refine loopK (fun s W => ∃ (R C : List ((Int × Int) × Po)), s = () ∧ MapIt encKey poV W jt m2 R ∧ MapAt encKey poV W k2 C ∧ CopyInv B R C ∧ Mod (fun b => b = jt ∨ b = k2) w4 W)
      (fun s W => itLeft jt m2 W) ⟨B, B', rfl, it4, (c3.mod mW' (by omega)).mod n4 id, ⟨h3.1, fun k => ?_⟩, Mod.refl _ _⟩ ?_
    · have hB' : ∀ k, lk B' k = Led.empty.pos? k := fun k => LedQ.lkP c3 c5 k
      rw [hB' k]
      cases lk B k <;> simp [Led.pos?, Led.empty]
    rintro _ W5 ⟨R5, C5, rfl, itW5, cW5, inv5, mW5⟩ KN5 hKN5
    unfold L14_0
    intro _
    refine rx_next itW5 ?_ ?_
    · intro hz w'' m'' hh''
      subst hz
      simp [go_sem]
      have mW5' : Mod (fun b => b = jt ∨ b = k2) w4 w'' := mW5.trans (m''.mono fun _ _ h => h.elim)
      refine hK w'' l' F' ⟨⟨k1, k2, C, C5, mW5'.keep c1' (by omega), cW4.mod mW5' (by omega), cW5.mod m'' id, cA, (inv5.done h3.1 cW5.1).trans h5, c6, c7⟩, hok⟩ (mF.on ((n4.mono (G := fun b => b = jt ∨ b = k2) fun _ _ h => h.elim).trans mW5') fun b hb => .inr (by have := mF.size; omega)) f1
    · intro i p hi w'' it' cur' m'' hsz
      simp [go_sem]
      refine rx_entry cur' ?_
      have c1'' := (mW5.on m'' fun b hb => .inl (.inl hb)).keep c1' (by show ¬ (_ ∨ _); omega)
      have hlt := lt_of_heap c1''
      have hne : l' ≠ w''.heap.size := by omega
      have hne2 : l' ≠ w''.heap.size + 1 := by omega
      simp [go_sem, poV, encKey, lptr, hp_of c1'', hne, hne2]
      generalize hw6 : World.drew _ = w6
      have m6 : Mod (fun _ => False) w'' w6 := by subst hw6; exact (((Mod.refl _ w'').alloc _).alloc _).drew
      refine rux_mapUp (enc := encKey) (ev := poV) (x := p.1) (v := p.2) uMapP kKey ((cW5.mod m'' (by show ¬ _ = _; omega)).mod m6 id) fun w7 hA m7 hs7 => ?_
      have it7 : MapIt encKey poV w7 jt m2 (R5.eraseIdx i) := (it'.mod m6 id id).mod m7 (by omega) (by omega)
      refine hKN5 _ _ ⟨_, _, rfl, it7, hA, inv5.step hi, ((mW5.on m'' fun b hb => .inl (.inl hb)).on m6 fun _ h => h.elim).on m7 fun b hb => .inl (.inr hb)⟩ ?_
      rw [it7.left, itW5.left, List.length_eraseIdx]
      have : i < R5.length := (List.getElem?_eq_some_iff.1 hi).1
      rw [if_pos this]; omega
  · intro i p hi w' it' cur' m' hsz
    simp [go_sem]
    refine rx_entry cur' ?_
    have c1' := (mW.on m' fun b hb => .inl (.inl hb)).keep c1 (by show ¬ (_ ∨ _); omega)
    have hlt := lt_of_heap c1'
    have hne : l' ≠ w'.heap.size := by omega
    simp [go_sem, acV, encU, lptr, hp_of c1', hne]
    generalize hw6 : World.drew _ = w6
    have m6 : Mod (fun _ => False) w' w6 := by subst hw6; exact ((Mod.refl _ w').alloc _).drew
    refine rux_mapUp (enc := encU) (ev := acV) (x := p.1) (v := p.2) uMapA kU32 ((cW.mod m' (by show ¬ _ = _; omega)).mod m6 id) fun w7 hA m7 hs7 => ?_
    have it7 : MapIt encU acV w7 it m1 (R.eraseIdx i) := (it'.mod m6 id id).mod m7 (by omega) (by omega)
    refine hKN _ _ ⟨_, _, rfl, it7, hA, inv.step hi, ((mW.on m' fun b hb => .inl (.inl hb)).on m6 fun _ h => h.elim).on m7 fun b hb => .inl (.inr hb)⟩ ?_
    rw [it7.left, itW.left, List.length_eraseIdx]
    have : i < R.length := (List.getElem?_eq_some_iff.1 hi).1
    rw [if_pos this]; omega
end Go.Proofs
