/-
  The document's disk as plain data (a list of all that was written), and the contracts of its functions.
  The contracts of the document's disk: find, Read.
  The contracts of the document's disk: Sync, Crash, Write.
  The contract of the document's Write.
  The contract of Copy.
  The two disks side by side: what they have in common, and the contracts of tame and same.
  Calls on a disk as data, the contract of tame, and both disks behind a call.
  A round of DiskPlays: what it has.
  A round of DiskPlays: one call on both disks, and what is asked behind it.
  The walk of DiskPlays.
  Conditions: where they ask for any, each theorem names them.
-/
import Derived.Test.YteldcaeicgobfaaDiskA
import Derived.Test.YteldcaeicgobfaaG4
set_option linter.unusedVariables false
set_option linter.unusedSimpArgs false
namespace Go.Proofs
open Go Go.Vc

/-- A loop; what comes behind a round stays a name. -/
theorem loopK {S : Type} {body : S → World → (S → World → Prop) → Prop} {s : S} {w : World} (I : S → World → Prop) (m : S → World → Nat) (h0 : I s w)
    (h : ∀ s w, I s w → ∀ KN : S → World → Prop, (∀ s' w', I s' w' → m s' w' < m s w → KN s' w') → body s w KN) : LoopW body s w :=
  ⟨⟨I, m, h0, fun s w hi => h s w hi _ fun _ _ h1 h2 => ⟨h1, h2⟩⟩⟩

/-- Two ways meet; where they go on stays a name. -/
theorem joinK {S : Type} {A : (S → World → Prop) → Prop} {B : S → World → Prop} (J : S → World → Prop) (h : ∀ J' : S → World → Prop, (∀ s w, J s w → J' s w) → A J') (h' : ∀ s w, J s w → B s w) : JoinW A B := ⟨⟨J, h', h J fun _ _ h => h⟩⟩

def cellsP (p : Pl × Sec) : List Value := [.int .i64 p.1.1, .int .i64 p.1.2, .string (strOf p.2)]
theorem cellsP_one (l : List (Pl × Sec)) : (l.flatMap cellsP).all (·.oneCell') = true := by
  simp [List.all_flatMap, cellsP, Value.oneCell']

structure RefQ (w : World) (r : Nat) (F : Nat → Prop) (R : DM) : Prop where
  out : ∃ sL sW, w.heap[r]? = some (.cells #[sL, sW, .int .i64 R.left, .bool R.armed, .bool R.off] 46 (0, 0)) ∧ Own w 122 3 sL R.lasts.length (R.lasts.flatMap cellsP) ∧ Own w 122 3 sW R.waits.length (R.waits.flatMap cellsP) ∧
    (∀ b, F b ↔ b = r ∨ inSl sL b ∨ inSl sW b) ∧ ¬ inSl sL r ∧ ¬ inSl sW r ∧ (∀ b, inSl sL b → ¬ inSl sW b)
  left : R.armed = true → 0 ≤ R.left ∧ R.left < 9223372036854775808
theorem RefQ.mod {F G : Nat → Prop} {w w' : World} {r : Nat} {R : DM} (h : RefQ w r F R) (hm : Mod G w w') (hd : ∀ b, F b → ¬ G b) : RefQ w' r F R := by
  obtain ⟨⟨sL, sW, h1, h2, h3, h4, h5, h6, h7⟩, hl⟩ := h
  exact ⟨⟨sL, sW, hm.keep h1 (hd r ((h4 r).2 (.inl rfl))), h2.mod hm fun b hb => hd b ((h4 b).2 (.inr (.inl hb))), h3.mod hm fun b hb => hd b ((h4 b).2 (.inr (.inr hb))), h4, h5, h6, h7⟩, hl⟩
theorem RefQ.lt {F : Nat → Prop} {w : World} {r : Nat} {R : DM} (h : RefQ w r F R) {b : Nat} (hb : F b) : b < w.heap.size := by
  obtain ⟨⟨sL, sW, h1, h2, h3, h4, h5, h6, h7⟩, hl⟩ := h
  rcases (h4 b).1 hb with rfl | hb | hb
  · exact lt_of_heap h1
  · exact h2.lt hb
  · exact h3.lt hb
theorem RefQ.self {F : Nat → Prop} {w : World} {r : Nat} {R : DM} (h : RefQ w r F R) : F r := by
  obtain ⟨⟨sL, sW, h1, h2, h3, h4, h5, h6, h7⟩, hl⟩ := h
  exact (h4 r).2 (.inl rfl)
/-- Nothing but the numbers has turned. -/
theorem RefQ.turn {w w' : World} {r : Nat} {F : Nat → Prop} {R R' : DM} (h : RefQ w r F R) (e1 : R'.lasts = R.lasts) (e2 : R'.waits = R.waits) (e3 : R'.armed = true → 0 ≤ R'.left ∧ R'.left < 9223372036854775808) (hm : Mod (fun b => b = r) w w')
    (hd : ∀ sL sW, hp w r = some (.cells #[sL, sW, .int .i64 R.left, .bool R.armed, .bool R.off] 46 (0, 0)) → hp w' r = some (.cells #[sL, sW, .int .i64 R'.left, .bool R'.armed, .bool R'.off] 46 (0, 0))) : RefQ w' r F R' := by
  obtain ⟨⟨sL, sW, h1, h2, h3, h4, h5, h6, h7⟩, hl⟩ := h
  refine ⟨⟨sL, sW, hd _ _ h1, ?_, ?_, h4, h5, h6, h7⟩, e3⟩
  · rw [e1]; exact h2.mod hm fun b hb e => h5 (e ▸ hb)
  · rw [e2]; exact h3.mod hm fun b hb e => h6 (e ▸ hb)

theorem ca_rmay {f a n : Int} {w : World} {K : Kont} (hK : K (.bool (mayB f a n)) w) : Ca Try.prog 59 #[.int .i64 f, .int .i64 a, .int .i64 n] w K := by
  apply ca59
  unfold F59
  simp [go_sem]
  unfold mayB at hK
  repeat' split
  all_goals first
    | (rw [IntKind.wrap_i64]
       have e : (8192 - n + 9223372036854775808) % 18446744073709551616 - 9223372036854775808 = 8192 - n := by omega
       rw [e]
       have e2 : decide (0 ≤ f ∧ f < 5 ∧ 0 ≤ a ∧ 1 ≤ n ∧ n ≤ 8192 ∧ a ≤ 8192 - n) = decide (a ≤ 8192 - n) := by rw [decide_eq_decide]; omega
       rw [← e2]; exact hK)
    | (have e2 : decide (0 ≤ f ∧ f < 5 ∧ 0 ≤ a ∧ 1 ≤ n ∧ n ≤ 8192 ∧ a ≤ 8192 - n) = false := by rw [decide_eq_false_iff_not]; omega
       rw [e2] at hK; exact hK)

theorem ca_rstep {w : World} {r : Nat} {F : Nat → Prop} {R : DM} {K : Kont} (h : RefQ w r F R)
    (hK : ∀ w', RefQ w' r F R.step.2 → Mod (fun b => b = r) w w' → K (.bool R.step.1) w') : Ca Try.prog 60 #[dptr r] w K := by
  have h0 := h
  obtain ⟨⟨sL, sW, h1, h2, h3, h4, h5, h6, h7⟩, hle⟩ := h
  apply ca60
  unfold F60
  refine JoinW.on ?_
  unfold J60_0
  simp [go_sem, dptr, hp_of h1]
  cases ha : R.armed
  · simp
    have e : R.step = (true, R) := by simp [DM.step, ha]
    rw [e] at hK
    exact hK w h0 (Mod.refl _ _)
  · obtain ⟨hle1, hle2⟩ := hle ha
    by_cases hz : R.left = 0
    · have e : R.step = (false, { R with armed := false, off := true }) := by simp [DM.step, ha, hz]
      rw [e] at hK
      simp [hz]
      refine hK _ (h0.turn rfl rfl (by simp) (((Mod.refl _ w).setCell (by simp) _ _).setCell (by simp) _ _) fun sL sW h => ?_) (((Mod.refl _ w).setCell (by simp) _ _).setCell (by simp) _ _)
      simp [go_sem, h]
    · have e : R.step = (true, { R with left := R.left - 1 }) := by simp [DM.step, ha, hz]
      rw [e] at hK
      have hwr : IntKind.i64.wrap (R.left - 1) = R.left - 1 := by rw [IntKind.wrap_i64]; omega
      simp [hz, hwr]
      refine hK _ (h0.turn rfl rfl (by intro _; simp only; omega) ((Mod.refl _ w).setCell (by simp) _ _) fun sL sW h => ?_) ((Mod.refl _ w).setCell (by simp) _ _)
      simp [go_sem, h]

theorem ca_rarm {w : World} {r : Nat} {F : Nat → Prop} {R : DM} {K : Kont} {n : Int} (h : RefQ w r F R) (hn : n < 9223372036854775808) (hK : ∀ w', RefQ w' r F (R.arm n).2 → Mod (fun b => b = r) w w' → K (.int .i64 (R.arm n).1) w') : Ca Try.prog 26 #[dptr r, .int .i64 n] w K := by
  have h0 := h
  obtain ⟨⟨sL, sW, h1, h2, h3, h4, h5, h6, h7⟩, hle⟩ := h
  apply ca26
  unfold F26
  simp [go_sem, dptr, hp_of h1]
  unfold DM.arm at hK
  cases ho : R.off
  · simp [ho] at hK
    by_cases hn1 : n < -1
    · simp [hn1] at hK ⊢
      exact hK _ h0 (Mod.refl _ _)
    · simp [hn1] at hK ⊢
      refine hK _ (h0.turn rfl rfl (by simp; omega) (((Mod.refl _ w).setCell (by simp) _ _).setCell (by simp) _ _) fun sL sW h => ?_) (((Mod.refl _ w).setCell (by simp) _ _).setCell (by simp) _ _)
      simp [go_sem, h, ho]
  · simp [ho] at hK ⊢
    exact hK _ h0 (Mod.refl _ _)
end Go.Proofs

namespace Go.Proofs
open Go Go.Vc

theorem lk_putL_or (ws : List (Pl × Sec)) : ∀ (L : List (Pl × Sec)) (k : Pl), lk (putL L ws) k = (lk (putL [] ws) k).or (lk L k) := by
  induction ws with
  | nil => intro L k; rfl
  | cons p ws ih =>
    intro L k
    show lk (putL (put L p.1 p.2) ws) k = (lk (putL (put [] p.1 p.2) ws) k).or (lk L k)
    rw [ih, ih (put [] p.1 p.2), lk_put, lk_put]
    cases lk (putL [] ws) k with
    | some s => rfl
    | none =>
      simp only [Option.none_or]
      split <;> rfl
theorem lk_at_last (l : List (Pl × Sec)) (i : Nat) (hi : i < l.length) (h : ∀ j (hj : j < l.length), i < j → l[j].1 ≠ l[i].1) : lk (putL [] l) l[i].1 = some l[i].2 := by
  have e : putL [] l = putL (putL [] (l.take (i + 1))) (l.drop (i + 1)) := by rw [putL_append, List.take_append_drop]
  rw [e, lk_putL, putL_take _ _ _ hi, lk_put, if_pos rfl]
  intro p hp
  obtain ⟨j, hj, rfl⟩ := List.getElem_of_mem hp
  rw [List.getElem_drop]
  simp only [List.length_drop] at hj
  exact h _ (by omega) (by omega)
theorem lk_none (l : List (Pl × Sec)) (k : Pl) (h : ∀ j (hj : j < l.length), l[j].1 ≠ k) : lk (putL [] l) k = none := by
  rw [lk_putL]
  · rfl
  · intro p hp
    obtain ⟨j, hj, rfl⟩ := List.getElem_of_mem hp
    exact h j hj

theorem cellsP_len (l : List (Pl × Sec)) : ∀ x ∈ l, (cellsP x).length = 3 := fun _ _ => rfl

/-- What find answers. -/
def findV (l : List (Pl × Sec)) (k : Pl) : Value × Bool :=
  match lk (putL [] l) k with
  | some s => (.string (strOf s), true)
  | none => (.string ⟨#[]⟩, false)

set_option maxRecDepth 10000 in
theorem ca_find {w : World} {sL : Value} {l : List (Pl × Sec)} {f a : Int} {K : Kont} (h : Own w 122 3 sL l.length (l.flatMap cellsP)) (hlen : l.length < 4611686018427387904)
    (hK : K (.tuple #[(findV l (f, a)).1, .bool (findV l (f, a)).2]) w) : Ca Try.prog 83 #[sL, .int .i64 f, .int .i64 a] w K := by
  obtain ⟨sa, sc, rfl, hsc⟩ := h.isSl
  apply ca83
  unfold F83
  have hw0 : IntKind.i64.wrap ((l.length : Int) - 1) = (l.length : Int) - 1 := by rw [IntKind.wrap_i64]; omega
  simp [go_sem, hw0]
  unfold L83_1
  refine loopW (fun s W => W = w ∧ ∃ (i : Int) (x y : Value), -1 ≤ i ∧ i < l.length ∧ s = (x, y, .int .i64 i, ()) ∧ ∀ (j : Nat) (hj : j < l.length), i < j → l[j].1 ≠ (f, a))
    (fun s _ => match s.2.2.1 with | .int _ i => (i + 1).toNat | _ => 0) ⟨rfl, _, _, _, by omega, by omega, rfl, fun j hj hij => by omega⟩ ?_
  rintro ⟨_, _⟩ W ⟨rfl, i, x, y, hi0, hi1, ⟨⟩, hno⟩ _
  by_cases hge : 0 ≤ i
  · obtain ⟨i, rfl⟩ : ∃ k : Nat, i = k := ⟨i.toNat, by omega⟩
    have hlt : i < l.length := by omega
    obtain ⟨b, cap, hsl, hAt⟩ := Own.elem h hlt
    obtain ⟨rfl, -, rfl⟩ : sa = some ⟨b, 0, none⟩ ∧ True ∧ sc = cap := by injection hsl with e1 e2 e3; exact ⟨e1, trivial, e3⟩
    rw [flat_get cellsP 3 _ _ (cellsP_len l) hlt] at hAt
    obtain ⟨C, e, fz, hC, hCg⟩ := hAt.get
    have hC0 : C[i * 3]? = some (.int .i64 l[i].1.1) := hCg 0 _ rfl
    have hC1 : C[i * 3 + 1]? = some (.int .i64 l[i].1.2) := hCg 1 _ rfl
    have hC2 : C[i * 3 + 2]? = some (.string (strOf l[i].2)) := hCg 2 _ rfl
    have hw1 : IntKind.i64.wrap ((i : Int) - 1) = (i : Int) - 1 := by rw [IntKind.wrap_i64]; omega
    simp [go_sem, hge]
    refine JoinW.at (fun s W' => s = (.bool (decide (l[i].1 = (f, a))), ()) ∧ W' = W) ?_ ?_
    · simp [go_sem, hlt, hC, hC0, hC1]
      by_cases e1 : l[i].1.1 = f
      · have e3 : (l[i].1 = (f, a)) = (l[i].1.2 = a) := by
          rw [← e1]; simp [Prod.ext_iff]
        simp [e1, e3, go_sem, hlt, hC, hC1]
        rw [Bool.eq_iff_iff]
        simp
      · have e3 : ¬ l[i].1 = (f, a) := fun e => e1 (by rw [e])
        simp [e1, e3]
    rintro _ W' ⟨rfl, rfl⟩
    unfold J83_0
    intro _
    by_cases e : l[i].1 = (f, a)
    · have hfind : findV l (f, a) = (.string (strOf l[i].2), true) := by
        unfold findV
        rw [← e, lk_at_last l i hlt fun j hj hij => by rw [e]; exact hno j hj (by omega)]
      rw [hfind] at hK
      simp [go_sem, e, hlt, hC, hC2]
      exact hK
    · simp [go_sem, e, hw1]
      refine ⟨(i : Int) - 1, by omega, by omega, rfl, fun j hj hij => ?_⟩
      by_cases hji : j = i
      · subst hji; exact e
      · exact hno j hj (by omega)
  · have hfind : findV l (f, a) = (.string ⟨#[]⟩, false) := by
      unfold findV
      rw [lk_none l (f, a) fun j hj => hno j hj (by omega)]
    rw [hfind] at hK
    simp [go_sem, hge]
    exact hK

/-- A sector, as the document has it. -/
def rsec (R : DM) (k : Pl) : Sec := ((lk (putL [] R.waits) k).or (lk (putL [] R.lasts) k)).getD zsec
def rreadB (R : DM) (f a : Int) (n : Nat) : List UInt8 := (List.range n).flatMap fun j : Nat => rsec R (f, a + (j : Int))
theorem rreadB_succ (R : DM) (f a : Int) (n : Nat) : rreadB R f a (n + 1) = rreadB R f a n ++ rsec R (f, a + (n : Int)) := by simp [rreadB, List.range_succ]

theorem uS8 : elemOk Try.prog 5 1 1 = true := by kernel_rfl
theorem strOf_def (l : List UInt8) : (⟨l.toArray⟩ : ByteArray) = strOf l := rfl

set_option maxRecDepth 10000 in
theorem ca_rread {w : World} {r : Nat} {F : Nat → Prop} {R : DM} {K : Kont} {f a n : Int} (h : RefQ w r F R) (hlens : (∀ p ∈ R.lasts, p.2.length = 128) ∧ ∀ p ∈ R.waits, p.2.length = 128) (hn1 : R.waits.length < 4611686018427387904) (hn2 : R.lasts.length < 4611686018427387904)
    (hK1 : R.off = true → K (.tuple #[.slice none 0 0, .int .i64 180]) w)
    (hK2 : R.off = false → mayB f a n = false → K (.tuple #[.slice none 0 0, .int .i64 2]) w)
    (hK3 : R.off = false → mayB f a n = true → ∀ w' v, Own w' 5 1 v (n.toNat * 128) (bv (rreadB R f a n.toNat)) → Mod (fun _ => False) w w' → (∀ b, inSl v b → w.heap.size ≤ b) → K (.tuple #[v, .int .i64 0]) w') :
    Ca Try.prog 63 #[dptr r, .int .i64 f, .int .i64 a, .int .i64 n] w K := by
  have h0 := h
  obtain ⟨⟨sL, sW, h1, h2, h3, h4, h5, h6, h7⟩, hle⟩ := h
  apply ca63
  unfold F63
  simp [go_sem, dptr, hp_of h1]
  cases ho : R.off
  · simp
    refine ca_rmay ?_
    cases hm : mayB f a n
    · simp [go_sem]
      exact hK2 ho hm
    · simp [go_sem]
      have hmay := hm
      simp only [mayB, decide_eq_true_eq] at hmay
      obtain ⟨c1, c2, c3, c4, c5, c6⟩ := hmay
      obtain ⟨N, rfl⟩ : ∃ N : Nat, n = N := ⟨n.toNat, by omega⟩
      unfold L63_2
      refine loopK (fun s W => ∃ (i : Nat) (v : Value), i ≤ N ∧ s = (v, .int .i64 i, ()) ∧ Mod (fun _ => False) w W ∧ Own W 5 1 v (i * 128) (bv (rreadB R f a i)) ∧ ∀ b, inSl v b → w.heap.size ≤ b)
        (fun s _ => match s.2.1 with | .int _ i => N - i.toNat | _ => 0) ⟨0, _, by omega, rfl, Mod.refl _ _, Own.nil .., fun b hb => by cases hb⟩ ?_
      rintro ⟨_, _⟩ W ⟨i, v, hi, ⟨⟩, mW, oW, fW⟩ KN hKN _
      have hd := mW.keep h1 id
      have hw1 : IntKind.i64.wrap ((i : Int) + 1) = ((i + 1 : Nat) : Int) := by rw [IntKind.wrap_i64]; omega
      have hw2 : IntKind.i64.wrap (a + (i : Int)) = a + i := by rw [IntKind.wrap_i64]; omega
      by_cases hlt : i < N
      · simp [-Int.natCast_add, go_sem, hlt, hp_of hd, hw2]
        refine ca_find (h3.mod mW fun _ _ h => h) hn1 ?_
        simp [-Int.natCast_add, go_sem]
        have hsl : (rsec R (f, a + (i : Int))).length = 128 := by
          unfold rsec
          cases e1 : lk (putL [] R.waits) (f, a + (i : Int)) with
          | some s => exact putL_len (L := []) (by simp) hlens.2 _ (lk_mem e1)
          | none =>
            cases e2 : lk (putL [] R.lasts) (f, a + (i : Int)) with
            | some s => exact putL_len (L := []) (by simp) hlens.1 _ (lk_mem e2)
            | none => exact zsec_length
        refine JoinW.at (fun s W' => W' = W ∧ ∃ x y, s = (x, .bool y, ()) ∧ (y = true → x = .string (strOf (rsec R (f, a + (i : Int))))) ∧ (y = false → rsec R (f, a + (i : Int)) = zsec)) ?_ ?_
        · cases e1 : lk (putL [] R.waits) (f, a + (i : Int)) with
          | some s =>
            simp [findV, e1, rsec]
          | none =>
            simp [-Int.natCast_add, findV, e1, go_sem, hp_of hd, hw2]
            refine ca_find (h2.mod mW fun _ _ h => h) hn2 ?_
            cases e2 : lk (putL [] R.lasts) (f, a + (i : Int)) <;> simp [go_sem, findV, e1, e2, rsec]
        rintro _ W' ⟨rfl, x, y, rfl, hx, hy⟩
        unfold J63_1
        intro _
        refine JoinW.at (fun s W2 => Mod (fun _ => False) W' W2 ∧ s = (.string (strOf (rsec R (f, a + (i : Int)))), ())) ?_ ?_
        · cases y
          · simp [go_sem]
            refine rx_make Try.underlying23 (elemT_of uT1) (by omega) (by omega) (by omega) uT2 ?_
            have e3 : (madeCells (Value.int .u8 0).cells (Int.toNat 128 * 1)) = (bv zsec).toArray := by
              apply Array.ext'
              rw [show (Value.int .u8 0).cells = #[.int .u8 0] from rfl, toList_madeCells_one, zsec, bv_replicate]
              rfl
            rw [e3, show Int.toNat 128 = 128 from rfl]
            have hA : hp (W'.alloc (.cells (bv zsec).toArray 5)) W'.heap.size = some (.cells (bv zsec).toArray 5 (0, 0)) := by simp [go_sem]
            have mA : Mod (fun _ => False) W' (W'.alloc (.cells (bv zsec).toArray 5)) := (Mod.refl _ W').alloc _
            generalize (W'.alloc (.cells (bv zsec).toArray 5)) = WA at hA mA
            refine rx_toStr (l := zsec) Try.underlying23 Try.underlying5 Try.underlying9 ⟨by simp [zsec_length], .inr ⟨_, _, _, rfl, Nat.le_refl _, ⟨_, _, _, hA, by simp, by simp; exact List.take_of_length_le (by simp)⟩⟩⟩ ?_
            exact ⟨mA, by rw [hy rfl]⟩
          · simp [go_sem]
            exact ⟨Mod.refl _ _, hx rfl⟩
        rintro _ W2 ⟨m2, rfl⟩
        unfold J63_0
        intro _
        refine rx_toBytes Try.underlying9 Try.underlying23 Try.underlying5 fun vb W3 rb m3 n3 => ?_
        rw [hsl] at rb
        refine rx_append Try.underlying23 Try.underlying23 (elemT_of uT1) (oW.mod (m2.trans m3) fun _ _ h => h) rb (bv_one _) (by omega) fun v4 W4 o4 m4 n4 => ?_
        have hl3 := (mW.trans (m2.trans m3)).size
        have ei : i * 128 + 128 = (i + 1) * 128 := by omega
        rw [← bv_append, ← rreadB_succ, ei] at o4
        simp [-Int.natCast_add, go_sem, hw1]
        refine hKN _ _ ⟨i + 1, v4, hlt, rfl, (mW.trans (m2.trans m3)).on m4 (fun b hb => .inr (fW b hb)), o4, fun b hb => ?_⟩ (by simp; omega)
        rcases n4 b hb with h | h
        · exact fW b h
        · omega
      · obtain rfl : i = N := by omega
        simp [go_sem, hlt]
        exact hK3 ho hm _ _ oW mW fW
  · simp
    exact hK1 ho
end Go.Proofs

namespace Go.Proofs
open Go Go.Vc

theorem pE3 : elemOk Try.prog 122 3 32 = true := by kernel_rfl
def DM.rsync (R : DM) : Int × DM :=
  if R.off then (180, R) else if R.step.1 then (0, { R.step.2 with lasts := R.step.2.lasts ++ R.step.2.waits, waits := [] }) else (180, R.step.2)

/-- Into the list of what lasts. -/
theorem RefQ.add {w : World} {r : Nat} {F : Nat → Prop} {R : DM} (h : RefQ w r F R) : ∃ sL sW, hp w r = some (.cells #[sL, sW, .int .i64 R.left, .bool R.armed, .bool R.off] 46 (0, 0)) ∧
    Own w 122 3 sL R.lasts.length (R.lasts.flatMap cellsP) ∧ Own w 122 3 sW R.waits.length (R.waits.flatMap cellsP) ∧
    (∀ b, F b ↔ b = r ∨ inSl sL b ∨ inSl sW b) ∧ ¬ inSl sL r ∧ ¬ inSl sW r ∧ (∀ b, inSl sL b → ¬ inSl sW b) := h.out

set_option maxRecDepth 10000 in
theorem ca_rsync {w : World} {r : Nat} {F : Nat → Prop} {R : DM} {K : Kont} (h : RefQ w r F R) (hn : R.lasts.length + R.waits.length < 4398046511104)
    (hK : ∀ w' F', RefQ w' r F' R.rsync.2 → Stp F w w' F' → K (.int .i64 R.rsync.1) w') : Ca Try.prog 24 #[dptr r] w K := by
  have h0 := h
  obtain ⟨⟨sL, sW, h1, h2, h3, h4, h5, h6, h7⟩, hle⟩ := h
  apply ca24
  unfold F24
  simp [go_sem, dptr, hp_of h1]
  unfold DM.rsync at hK
  cases ho : R.off
  · simp only [ho, Bool.false_eq_true, if_false] at hK ⊢
    refine JoinW.at (fun s W => s = (.bool (!R.step.1), ()) ∧ RefQ W r F R.step.2 ∧ Mod (fun b => b = r) w W) ?_ ?_
    · refine ca_rstep h0 fun w1 q1 m1 => ?_
      simp [go_sem]
      exact ⟨q1, m1⟩
    rintro _ w1 ⟨rfl, q1, m1⟩
    unfold J24_0
    intro _
    have m1' : Mod F w w1 := m1.mono fun b _ e => e ▸ h0.self
    cases hs : R.step.1
    · simp [hs] at hK
      simp [go_sem]
      exact hK _ _ q1 ⟨m1', fun b hb => .inl hb⟩
    · simp [hs] at hK
      obtain ⟨sL, sW, g1, g2, g3, g4, g5, g6, g7⟩ := q1.add
      have e1 := R.step_waits
      have e2 := R.step_lasts
      simp [go_sem, g1]
      refine rx_append (n := R.step.2.lasts.length) (m := R.step.2.waits.length) Try.underlying44 Try.underlying44 (elemT_of pE3) (g2.mod ((Mod.refl (fun _ => False) w1).drew) fun _ _ h => h) (g3.rd.mod ((Mod.refl (fun _ => False) w1).drew) fun _ _ h => h) (cellsP_one _) (by rw [e1, e2]; omega) fun v4 w4 o4 m4 n4 => ?_
      have m4' : Mod (inSl sL) w1 w4 := ((Mod.refl _ w1).drew).trans m4
      have g1' : hp w4 r = some (.cells #[sL, sW, .int .i64 R.step.2.left, .bool R.step.2.armed, .bool R.step.2.off] 46 (0, 0)) := m4'.keep g1 g5
      obtain ⟨va, vc, rfl, hvc⟩ := o4.isSl
      simp [go_sem, g1']
      generalize hv : (Value.slice va (R.step.2.lasts.length + R.step.2.waits.length) vc) = v4 at o4 n4
      have m5 : Mod (fun b => b = r) w4 ((w4.setCell ⟨r, 0, none⟩ v4).setCell ⟨r, 1, none⟩ (.slice none 0 0)) := ((Mod.refl _ w4).setCell (by simp) _ _).setCell (by simp) _ _
      have hrl := q1.lt q1.self
      have hvr : ¬ inSl v4 r := fun hb => by
        rcases n4 r hb with h | h
        · exact g5 h
        · rw [size_drew] at h; omega
      have hfin : Stp F w ((w4.setCell ⟨r, 0, none⟩ v4).setCell ⟨r, 1, none⟩ (.slice none 0 0)) (fun b => b = r ∨ inSl v4 b) := by
        refine ⟨(m1'.on m4' fun b hb => .inl ((g4 b).2 (.inr (.inl hb)))).on m5 fun b hb => .inl (hb ▸ h0.self), fun b hb => ?_⟩
        rcases hb with rfl | hb
        · exact .inl h0.self
        · rcases n4 b hb with h | h
          · exact .inl ((g4 b).2 (.inr (.inl h)))
          · exact .inr (Nat.le_trans m1.size h)
      refine hK _ (fun b => b = r ∨ inSl v4 b) ⟨⟨v4, .slice none 0 0, by show hp _ _ = _; simp [go_sem, g1'], ?_, Own.nil .., fun b => by simp [inSl, slBlk], hvr, by simp [inSl, slBlk], by simp [inSl, slBlk]⟩, q1.left⟩ hfin
      have := o4.mod m5 fun b hb e => hvr (e ▸ hb)
      simpa using this
  · simp [ho] at hK ⊢
    refine JoinW.on ?_
    unfold J24_0
    simp [go_sem]
    exact hK _ _ h0 (Stp.refl _ _)

/-- What a crash leaves, as the document has it. -/
def DM.rcrash (R : DM) (keep : Nat) (torn : List UInt8) : DM :=
  { R with
    lasts := match R.waits[keep]? with
      | some p => if torn = [] then R.lasts ++ R.waits.take keep else R.lasts ++ R.waits.take keep ++ [(p.1, tornSec torn)]
      | none => R.lasts ++ R.waits.take keep
    waits := [], armed := false, off := false }

theorem fill_list (t : List UInt8) (i : Nat) (h1 : i < 128) (h2 : i < t.length) : (t.take i ++ List.replicate (128 - i) 0).set i t[i] = t.take (i + 1) ++ List.replicate (128 - (i + 1)) 0 := by
  have e : List.replicate (128 - i) (0 : UInt8) = 0 :: List.replicate (128 - (i + 1)) 0 := by
    rw [show 128 - i = (128 - (i + 1)) + 1 by omega, List.replicate_succ]
  rw [e, List.set_append_right _ _ (by simp; omega)]
  have e2 : i - (t.take i).length = 0 := by simp; omega
  rw [e2, List.set_cons_zero, List.take_succ_eq_append_getElem h2, List.append_assoc, List.singleton_append]
theorem bv_set (l : List UInt8) (i : Nat) (x : UInt8) : (bv l).set i (.int .u8 x.toNat) = bv (l.set i x) := by simp [bv, List.map_set]
theorem fill_end (t : List UInt8) (i : Nat) (h1 : i ≤ 128) (h2 : i ≤ t.length) (h : ¬ (i < 128 ∧ i < t.length)) : t.take i ++ List.replicate (128 - i) 0 = tornSec t := by
  unfold tornSec
  by_cases h3 : i = 128
  · subst h3
    rw [show 128 - 128 = 128 - t.length by omega]
  · have h4 : i = t.length := by omega
    rw [List.take_of_length_le (by omega), List.take_of_length_le (by omega), h4]

theorem own_take {w : World} {e : TypeId} {sz : Nat} {v : Value} {n : Nat} {cs : List Value} (h : Own w e sz v n cs) {a : Option Addr} {m c k : Nat} (hv : v = .slice a m c) (hk : k ≤ n) : Rd w sz (.slice a k c) k (cs.take (k * sz)) := by
  subst hv
  obtain ⟨hl, ⟨he, rfl⟩ | ⟨b, cap, rest, he, hc, hh, hr⟩⟩ := h
  · have : k = 0 := by omega
    subst this
    exact ⟨by simp, .inl ⟨rfl, _, _, rfl⟩⟩
  · injection he with e1 e2 e3
    subst e1; subst e3
    have hks : k * sz ≤ n * sz := Nat.mul_le_mul_right _ hk
    have hct : (cs.take (k * sz)).length = k * sz := by rw [List.length_take]; omega
    refine ⟨hct, .inr ⟨b, 0, c, rfl, by omega, _, _, _, hh, by rw [hct]; simp; omega, ?_⟩⟩
    simp only [List.drop_zero, List.length_take]
    rw [Nat.min_eq_left (by omega), List.take_append_of_le_length (by omega)]
theorem flat_take {α : Type} (f : α → List Value) (sz : Nat) : ∀ (ws : List α) (k : Nat) (hw : ∀ x ∈ ws, (f x).length = sz), (ws.flatMap f).take (k * sz) = (ws.take k).flatMap f
  | [], k, _ => by simp
  | x :: ws, 0, _ => by simp
  | x :: ws, k + 1, hw => by
    have hx := hw x (by simp)
    rw [List.flatMap_cons, List.take_succ_cons, List.flatMap_cons, ← flat_take f sz ws k fun y hy => hw y (by simp [hy])]
    rw [Nat.succ_mul, Nat.add_comm (k * sz) sz, ← hx, List.take_length_add_append]

set_option maxRecDepth 10000 in
theorem ca_rcrash {w : World} {r : Nat} {F : Nat → Prop} {R : DM} {K : Kont} {keep : Nat} {t : Value} {torn : List UInt8} (h : RefQ w r F R) (hn : R.lasts.length + R.waits.length < 4398046511104) (hk : keep < 9223372036854775808)
    (ht : Rd w 1 t torn.length (bv torn)) (htF : ∀ b, inRd t b → ¬ F b)
    (hK : ∀ w' F', RefQ w' r F' (R.rcrash keep torn) → Stp F w w' F' → K (.int .i64 0) w') : Ca Try.prog 27 #[dptr r, .int .i64 keep, t] w K := by
  have h0 := h
  obtain ⟨sL, sW, h1, h2, h3, h4, h5, h6, h7⟩ := h.add
  obtain ⟨ta, tc, rfl⟩ := ht.isSl
  obtain ⟨wa, wc, rfl, hwc⟩ := h3.isSl
  apply ca27
  unfold F27
  have hk0 : ¬ ((keep : Int) < 0) := by omega
  simp [go_sem, dptr, h1, hk0]
  obtain ⟨N, hN⟩ : ∃ N, min keep R.waits.length = N := ⟨_, rfl⟩
  refine JoinW.at (fun s W => s = (.int .i64 N, ()) ∧ W = w) ?_ ?_
  · split <;> simp <;> omega
  rintro _ W ⟨rfl, rfl⟩
  unfold J27_4
  intro _
  have hNw : N ≤ R.waits.length := by omega
  have hNc : N ≤ wc := by omega
  simp [go_sem, h1, hNc]
  refine rx_append (n := R.lasts.length) (m := N) (news := (R.waits.take N).flatMap cellsP) Try.underlying44 Try.underlying44 (elemT_of pE3) (h2.mod ((Mod.refl (fun _ => False) W).drew) fun _ _ h => h) ?_ (cellsP_one _) (by omega) fun v4 w4 o4 m4 n4 => ?_
  · have := own_take (h3.mod ((Mod.refl (fun _ => False) W).drew) fun _ _ h => h) rfl hNw
    rwa [flat_take cellsP 3 _ _ (cellsP_len _)] at this
  obtain ⟨va, vc, rfl, hvc⟩ := o4.isSl
  have m4' : Mod (inSl sL) W w4 := ((Mod.refl _ W).drew).trans m4
  have g1 : hp w4 r = some (.cells #[sL, .slice wa R.waits.length wc, .int .i64 R.left, .bool R.armed, .bool R.off] 46 (0, 0)) := m4'.keep h1 h5
  have g3 := h3.mod m4' fun b hb hL => h7 b hL hb
  simp [go_sem, g1]
  generalize hv : (Value.slice va (R.lasts.length + N) vc) = v4 at o4 n4
  have hrl := h0.lt h0.self
  have hvr : ¬ inSl v4 r := fun hb => by
    rcases n4 r hb with h | h
    · exact h5 h
    · rw [size_drew] at h; omega
  have m5 : Mod (fun b => b = r) w4 (w4.setCell ⟨r, 0, none⟩ v4) := (Mod.refl (fun b => b = r) w4).setCell (b := r) (.inl (by simp)) _ _
  have k1 : hp (w4.setCell ⟨r, 0, none⟩ v4) r = some (.cells #[v4, .slice wa R.waits.length wc, .int .i64 R.left, .bool R.armed, .bool R.off] 46 (0, 0)) := by simp [go_sem, g1]
  have o5 := o4.mod m5 fun b hb e => hvr (e ▸ hb)
  have k3 := g3.mod m5 fun b hb e => h6 (e ▸ hb)
  have mF : Mod F W (w4.setCell ⟨r, 0, none⟩ v4) := (m4'.mono fun b _ hb => (h4 b).2 (.inr (.inl hb))).on m5 fun b hb => .inl (hb ▸ h0.self)
  have nF : ∀ b, inSl v4 b → F b ∨ W.heap.size ≤ b := fun b hb => (n4 b hb).imp (fun h => (h4 b).2 (.inr (.inl h))) id
  have nW : ∀ b, inSl v4 b → ¬ inSl (.slice wa R.waits.length wc) b := fun b hb hw => by
    rcases n4 b hb with h | h
    · exact h7 b h hw
    · have := h3.lt hw
      rw [size_drew] at h; omega
  generalize w4.setCell ⟨r, 0, none⟩ v4 = w5 at k1 o5 k3 mF
  clear hv g1 g3 m4 m4' m5 o4 n4
  refine joinK (fun s W' => s = () ∧ ∃ v, hp W' r = some (.cells #[v, .slice wa R.waits.length wc, .int .i64 R.left, .bool R.armed, .bool R.off] 46 (0, 0)) ∧
    Own W' 122 3 v (R.rcrash keep torn).lasts.length ((R.rcrash keep torn).lasts.flatMap cellsP) ∧ Mod F W W' ∧ (∀ b, inSl v b → F b ∨ W.heap.size ≤ b) ∧ ¬ inSl v r) (fun JJ hJJ => ?_) ?_
  · refine JoinW.at (fun s W' => s = (.bool (decide (N < R.waits.length ∧ 0 < torn.length)), ()) ∧ W' = w5) ?_ ?_
    · by_cases hc : N < R.waits.length
      · by_cases hc2 : 0 < torn.length
        · simp [go_sem, k1, hc, hc2]
        · simp [go_sem, k1, hc, hc2]
      · simp [go_sem, k1, hc]
    rintro _ W' ⟨rfl, rfl⟩
    unfold J27_2
    intro _
    by_cases hc : N < R.waits.length ∧ 0 < torn.length
    · obtain ⟨hc1, hc2⟩ := hc
      have hNk : N = keep := by omega
      subst hNk
      have htn : torn ≠ [] := fun e => by rw [e] at hc2; simp at hc2
      have hL : (R.rcrash N torn).lasts = R.lasts ++ R.waits.take N ++ [(R.waits[N].1, tornSec torn)] := by
        simp [DM.rcrash, List.getElem?_eq_getElem hc1, htn]
      simp [go_sem, hc1, hc2]
      refine rx_make Try.underlying23 (elemT_of uT1) (by omega) (by omega) (by omega) uT2 ?_
      have e3 : (madeCells (Value.int .u8 0).cells (Int.toNat 128 * 1)) = (bv (torn.take 0 ++ List.replicate (128 - 0) 0)).toArray := by
        apply Array.ext'
        rw [show (Value.int .u8 0).cells = #[.int .u8 0] from rfl, toList_madeCells_one, List.take_zero, List.nil_append, bv_replicate]
        rfl
      rw [e3, show Int.toNat 128 = 128 from rfl]
      have hA : hp (W'.alloc (.cells (bv (torn.take 0 ++ List.replicate (128 - 0) 0)).toArray 5)) W'.heap.size = some (.cells (bv (torn.take 0 ++ List.replicate (128 - 0) 0)).toArray 5 (0, 0)) := by simp only [hp_alloc, if_pos]
      have mA : Mod (fun _ => False) W' (W'.alloc (.cells (bv (torn.take 0 ++ List.replicate (128 - 0) 0)).toArray 5)) := (Mod.refl _ W').alloc _
      generalize (W'.alloc (.cells (bv (torn.take 0 ++ List.replicate (128 - 0) 0)).toArray 5)) = WA at hA mA
      obtain ⟨p, hp'⟩ : ∃ p, W'.heap.size = p := ⟨_, rfl⟩
      rw [hp'] at hA ⊢
      unfold L27_1
      refine loopK (fun s W2 => ∃ i : Nat, i ≤ 128 ∧ i ≤ torn.length ∧ s = (.int .i64 i, ()) ∧ Mod (fun _ => False) W' W2 ∧ hp W2 p = some (.cells (bv (torn.take i ++ List.replicate (128 - i) 0)).toArray 5 (0, 0)))
        (fun s _ => match s.1 with | .int _ i => 128 - i.toNat | _ => 0) ⟨0, by omega, by omega, rfl, mA, hA⟩ ?_
      clear hA mA
      rintro ⟨_, _⟩ W2 ⟨i, hi1, hi2, ⟨⟩, m2, h2p⟩ KN hKN _
      refine JoinW.at (fun s W3 => s = (.bool (decide (i < 128 ∧ i < torn.length)), ()) ∧ W3 = W2) ?_ ?_
      · by_cases hc : (i : Int) < 128
        · have hc' : i < 128 := by omega
          simp [go_sem, hc, hc']
        · have hc' : ¬ i < 128 := by omega
          simp [go_sem, hc, hc']
      rintro _ W3 ⟨rfl, rfl⟩
      unfold J27_0
      intro _
      by_cases hc : i < 128 ∧ i < torn.length
      · obtain ⟨hc1', hc2'⟩ := hc
        obtain ⟨b, off, cap, C, e, fz, hv, hC, hCi⟩ := rd_at ht hc2'
        have hw1 : IntKind.i64.wrap ((i : Int) + 1) = ((i + 1 : Nat) : Int) := by rw [IntKind.wrap_i64]; omega
        have htb : ¬ F b := htF b ⟨_, _, _, hv, by omega, rfl⟩
        have hC2 : hp W3 b = some (.cells C e fz) := m2.keep (mF.keep hC htb) id
        have hCi' : C[off + i]? = some (.int .u8 torn[i].toNat) := by rw [hCi]; simp [bv, hc2']
        rw [hv]
        have hil : (i : Int) < 128 := by omega
        simp [-Int.natCast_add, go_sem, hc1', hc2', hC2, hCi', h2p, hil, hw1, show i ≤ torn.length by omega, show i + (128 - i) = 128 by omega]
        refine hKN _ _ ⟨i + 1, by omega, by omega, rfl, m2.setCell (.inr (by omega)) _ _, ?_⟩ (by simp; omega)
        have e1 : (bv (torn.take i ++ List.replicate (128 - i) 0)).toArray.setIfInBounds i (.int .u8 torn[i].toNat) = (bv (torn.take (i + 1) ++ List.replicate (128 - (i + 1)) 0)).toArray := by
          apply Array.ext'
          rw [Array.toList_setIfInBounds]
          show (bv (torn.take i ++ List.replicate (128 - i) 0)).set i _ = bv _
          rw [bv_set, fill_list _ _ hc1' hc2']
        rw [hp_setCell, if_pos rfl, h2p, setObj1_cells, e1]
      · rw [fill_end torn i hi1 hi2 hc] at h2p
        have n1 : hp W3 r = some (.cells #[v4, .slice wa R.waits.length wc, .int .i64 R.left, .bool R.armed, .bool R.off] 46 (0, 0)) := m2.keep k1 id
        have n3 := k3.mod m2 fun _ _ h => h
        have n5 := o5.mod m2 fun _ _ h => h
        obtain ⟨b, cap, hsl, hAt⟩ := Own.elem n3 hc1
        obtain ⟨rfl, -, rfl⟩ : wa = some ⟨b, 0, none⟩ ∧ True ∧ wc = cap := by injection hsl with e1 e2 e3; exact ⟨e1, trivial, e3⟩
        rw [flat_get cellsP 3 _ _ (cellsP_len _) hc1] at hAt
        obtain ⟨C, e, fz, hC, hCg⟩ := hAt.get
        have hC0 : C[N * 3]? = some (.int .i64 R.waits[N].1.1) := hCg 0 _ rfl
        have hC1 : C[N * 3 + 1]? = some (.int .i64 R.waits[N].1.2) := hCg 1 _ rfl
        simp [go_sem, hc, n1, hc1, hC, hC0, hC1]
        refine rdX_toStr (n := 128) (l := tornSec torn) Try.underlying23 Try.underlying5 Try.underlying9 ⟨by simp [tornSec_length], .inr ⟨_, _, _, rfl, Nat.le_refl _, ⟨_, _, _, show W3.drew.heap[p]? = _ from h2p, by simp, by simp; exact List.take_of_length_le (by simp)⟩⟩⟩ ?_
        simp [go_sem]
        refine rx_lit [.agg (cellsP (R.waits[N].1, tornSec torn)).toArray] Try.underlying44 (elemT_of pE3) rfl rfl (by simp [Value.cells, cellsP]) (by decide) ?_
        have e8 : [Value.agg (cellsP (R.waits[N].1, tornSec torn)).toArray].flatMap (·.cells.toList) = cellsP (R.waits[N].1, tornSec torn) := by simp [Value.cells]
        rw [e8]
        have m8 : Mod (fun _ => False) W3 (W3.drew.alloc (.cells (cellsP (R.waits[N].1, tornSec torn)).toArray 122)) := ((Mod.refl _ W3).drew).alloc _
        have h8 : hp (W3.drew.alloc (.cells (cellsP (R.waits[N].1, tornSec torn)).toArray 122)) W3.heap.size = some (.cells (cellsP (R.waits[N].1, tornSec torn)).toArray 122 (0, 0)) := by simp [go_sem]
        rw [size_drew]
        generalize (W3.drew.alloc (.cells (cellsP (R.waits[N].1, tornSec torn)).toArray 122)) = W8 at m8 h8
        have n8 : hp W8 r = _ := m8.keep n1 id
        simp only [n8]
        refine ⟨rfl, rx_append (n := R.lasts.length + N) (m := 1) (news := cellsP (R.waits[N].1, tornSec torn)) Try.underlying44 Try.underlying44 (elemT_of pE3) (n5.mod m8 fun _ _ h => h)
          ⟨rfl, .inr ⟨_, 0, 1, rfl, Nat.le_refl _, ⟨_, _, _, h8, by simp [cellsP], by simp⟩⟩⟩ (by simp [cellsP, Value.oneCell']) (by omega) fun v9 W9 o9 m9 n9 => ?_⟩
        have n9' : hp W9 r = _ := m9.keep n8 hvr
        obtain ⟨va9, vc9, rfl, -⟩ := o9.isSl
        simp [go_sem, n9']
        generalize hv9 : (Value.slice va9 (R.lasts.length + N + 1) vc9) = v9 at o9 n9
        have m10 : Mod (fun b => b = r) W9 (W9.setCell ⟨r, 0, none⟩ v9) := (Mod.refl (fun b => b = r) W9).setCell (b := r) (.inl (by simp)) _ _
        have t8 : Mod F W W8 := (mF.on m2 fun b hb => hb.elim).on m8 fun b hb => hb.elim
        have l8 := t8.size
        have hv9r : ¬ inSl v9 r := fun hb => by
          rcases n9 r hb with h | h
          · exact hvr h
          · omega
        refine hJJ _ _ ⟨rfl, v9, by simp [go_sem, n9'], ?_, (t8.on m9 nF).on m10 fun b hb => .inl (hb ▸ h0.self), fun b hb => ?_, hv9r⟩
        · have := o9.mod m10 fun b hb e => hv9r (e ▸ hb)
          rw [hL]
          have e : (R.lasts ++ R.waits.take N ++ [(R.waits[N].1, tornSec torn)]).length = R.lasts.length + N + 1 := by simp; omega
          rw [e, List.flatMap_append, List.flatMap_append]
          simpa using this
        · rcases n9 b hb with h | h
          · exact nF b h
          · exact .inr (by omega)
    · simp [go_sem, hc]
      have hL : (R.rcrash keep torn).lasts = R.lasts ++ R.waits.take N := by
        have e1 : R.waits.take keep = R.waits.take N := by
          by_cases h : keep ≤ R.waits.length
          · rw [show N = keep by omega]
          · rw [List.take_of_length_le (by omega), List.take_of_length_le (by omega)]
        unfold DM.rcrash
        simp only [e1]
        split
        · rename_i p hp
          have hlt := (List.getElem?_eq_some_iff.1 hp).1
          have ht0 : torn = [] := List.length_eq_zero_iff.1 (by omega)
          rw [if_pos ht0]
        · rfl
      refine hJJ _ _ ⟨rfl, v4, k1, ?_, mF, nF, hvr⟩
      rw [hL]
      have e : (R.lasts ++ R.waits.take N).length = R.lasts.length + N := by simp; omega
      rw [e, List.flatMap_append]
      exact o5
  rintro _ W' ⟨rfl, v, q1, q2, q3, q4, q5⟩
  unfold J27_3
  intro _
  simp [go_sem, q1]
  have m6 : Mod (fun b => b = r) W' (((W'.setCell ⟨r, 1, none⟩ (.slice none 0 0)).setCell ⟨r, 4, none⟩ (.bool false)).setCell ⟨r, 3, none⟩ (.bool false)) := (((Mod.refl _ W').setCell (by simp) _ _).setCell (by simp) _ _).setCell (by simp) _ _
  refine hK _ (fun b => b = r ∨ inSl v b) ⟨⟨v, .slice none 0 0, by show hp _ _ = _; simp [go_sem, q1, DM.rcrash], q2.mod m6 fun b hb e => q5 (e ▸ hb), Own.nil .., fun b => by simp [inSl, slBlk], q5, by simp [inSl, slBlk], by simp [inSl, slBlk]⟩, by simp [DM.rcrash]⟩
    ⟨q3.on m6 fun b hb => .inl (hb ▸ h0.self), fun b hb => ?_⟩
  rcases hb with rfl | hb
  · exact .inl h0.self
  · exact q4 b hb
end Go.Proofs

namespace Go.Proofs
open Go Go.Vc

set_option maxRecDepth 10000 in
theorem ca_rwrite {w : World} {r : Nat} {F : Nat → Prop} {R : DM} {K : Kont} {f a : Int} {v : Value} {bs : List UInt8} (h : RefQ w r F R) (hv : Rd w 1 v bs.length (bv bs)) (hvF : ∀ b, inRd v b → ¬ F b)
    (hn : bs.length < 1099511627776) (hD : R.waits.length < 549755813888)
    (hK : ∀ w' F', RefQ w' r F' (R.write f a bs).2 → Stp F w w' F' → K (.int .i64 (R.write f a bs).1) w') :
    Ca Try.prog 23 #[dptr r, .int .i64 f, .int .i64 a, v] w K := by
  have h0 := h
  obtain ⟨sL, sW, h1, h2, h3, h4, h5, h6, h7⟩ := h.add
  obtain ⟨va, vc, rfl⟩ := hv.isSl
  apply ca23
  unfold F23
  simp [go_sem, dptr, h1]
  unfold DM.write at hK
  cases ho : R.off
  · simp only [ho, Bool.false_eq_true, if_false] at hK ⊢
    have htm : ((bs.length : Int).tmod 128 = 0) = (bs.length % 128 = 0) := by
      rw [Int.tmod_eq_emod_of_nonneg (by omega)]
      simp; omega
    obtain ⟨k, hk⟩ : ∃ k, bs.length / 128 = k := ⟨_, rfl⟩
    rw [hk] at hK
    have hdv : IntKind.i64.wrap ((bs.length : Int) / 128) = (k : Int) := by rw [IntKind.wrap_i64]; omega
    refine JoinW.at (fun s W => W = w ∧ s = (.bool (decide (¬ (bs.length % 128 = 0 ∧ mayB f a (k : Int) = true))), ())) ?_ ?_
    · by_cases hmod : bs.length % 128 = 0
      · have hmod' : (bs.length : Int).tmod 128 = 0 := by rw [htm]; exact hmod
        simp [go_sem, hmod', hdv]
        refine ca_rmay ?_
        cases hm : mayB f a (k : Int) <;> simp [go_sem, hmod, hm]
      · have hmod' : ¬ (bs.length : Int).tmod 128 = 0 := by rw [htm]; exact hmod
        simp [go_sem, hmod, hmod']
    rintro _ W ⟨rfl, rfl⟩
    unfold J23_1
    intro _
    by_cases hc : bs.length % 128 = 0 ∧ mayB f a (k : Int) = true
    · rw [if_pos hc] at hK
      simp only [hc, not_true, decide_false, and_self]
      simp [go_sem]
      obtain ⟨hmod, hm⟩ := hc
      simp only [mayB, decide_eq_true_eq] at hm
      obtain ⟨q1, q2, q3, q4, q5, q6⟩ := hm
      have hlen : bs.length = 128 * k := by omega
      obtain ⟨b, off, cap, hva, hcap, hAt⟩ : ∃ b off cap, va = some ⟨b, off, none⟩ ∧ bs.length ≤ vc ∧ At W b off (bv bs) := by
        obtain ⟨_, ⟨h0, _⟩ | ⟨b, off, cap, he, hc, hh⟩⟩ := hv
        · omega
        · injection he with e1 e2 e3
          subst e1; subst e3
          exact ⟨b, off, vc, rfl, hc, hh⟩
      subst hva
      have hbF : ¬ F b := hvF b ⟨_, _, _, rfl, by omega, rfl⟩
      have hbl := hAt.lt
      unfold L23_0
      refine loopK (fun s W' => ∃ (i : Nat) (x : Value) (Ri : DM) (F' : Nat → Prop), i ≤ k ∧ s = (x, .int .i64 i, ()) ∧ RefQ W' r F' Ri ∧ Stp F W W' F' ∧ R.write1 f a (chunks bs k) = Ri.write1 f (a + i) ((chunks bs k).drop i) ∧ Ri.waits.length ≤ R.waits.length + i)
        (fun s _ => match s.2.1 with | .int _ i => k - i.toNat | _ => 0) ⟨0, _, R, F, by omega, rfl, h0, Stp.refl _ _, by simp, by omega⟩ ?_
      rintro ⟨_, _⟩ W1 ⟨i, x, Ri, F', hi, ⟨⟩, a1, a2, a4, a5⟩ KN hKN _
      by_cases hik : i < k
      · have hik' : (i : Int) < k := by omega
        have hw1 : IntKind.i64.wrap ((i : Int) + 1) = ((i + 1 : Nat) : Int) := by rw [IntKind.wrap_i64]; omega
        have hw2 : IntKind.i64.wrap ((i : Int) * 128) = ((i * 128 : Nat) : Int) := by rw [IntKind.wrap_i64]; omega
        have hw3 : IntKind.i64.wrap (((i + 1 : Nat) : Int) * 128) = (((i + 1) * 128 : Nat) : Int) := by rw [IntKind.wrap_i64]; omega
        have hw4 : IntKind.i64.wrap (a + (i : Int)) = a + i := by rw [IntKind.wrap_i64]; omega
        obtain ⟨S, hS⟩ : ∃ S, (bs.drop (128 * i)).take 128 = S := ⟨_, rfl⟩
        have hSl : S.length = 128 := by rw [← hS]; simp; omega
        have hdrop : (chunks bs k).drop i = S :: (chunks bs k).drop (i + 1) := by
          rw [List.drop_eq_getElem_cons (by simpa [chunks] using hik)]
          simp [chunks, hS]
        rw [hdrop] at a4
        simp only [DM.write1] at a4
        simp [go_sem, hdv, hik']
        refine ca_rstep a1 fun W2 q2' m2 => ?_
        have hrF : F' r := a1.self
        have b2 : Stp F W W2 F' := a2.trans ⟨m2.mono fun b _ e => e ▸ hrF, fun b hb => .inl hb⟩
        cases hs : Ri.step.1
        · rw [hs] at a4
          simp only [Bool.false_eq_true, if_false] at a4
          rw [a4] at hK
          simp [go_sem]
          exact hK _ _ q2' b2
        · rw [hs] at a4
          simp only [if_true] at a4
          obtain ⟨tL, tW, g1, g2, g3, g4, g5, g6, g7⟩ := q2'.add
          have hbF' : ¬ F' b := fun h => by
            rcases a2.sub b h with h | h
            · exact hbF h
            · omega
          have hA2 : At W2 b off (bv bs) := hAt.mod b2.mod hbF
          have hsl1 : ((i * 128 : Nat) : Int) ≤ (((i + 1) * 128 : Nat) : Int) := by omega
          have hsl2 : (i + 1) * 128 ≤ vc := by omega
          have hsl3 : (((i + 1) * 128 : Nat) : Int) ≤ vc := by omega
          have hsl4 : ¬ vc = i * 128 := by omega
          have hsl5 : i * 128 ≤ (i + 1) * 128 := by omega
          have hS0 : (0 : Int) ≤ ((i * 128 : Nat) : Int) := by omega
          have hS0' : (0 : Int) ≤ (((i + 1) * 128 : Nat) : Int) := by omega
          have htn : ((i * 128 : Nat) : Int).toNat = i * 128 := by omega
          have htn' : (((i + 1) * 128 : Nat) : Int).toNat = (i + 1) * 128 := by omega
          simp [-Int.natCast_mul, -Int.natCast_add, go_sem, g1, hw1, hw2, hw3, hw4, hsl1, hsl2, hsl3, hsl4, hsl5, hS0, hS0', htn, htn']
          have hS5 : (i + 1) * 128 - i * 128 = 128 := by omega
          have jS : At W2.drew b (off + i * 128) (bv S) := by
            have := hA2.sub (i * 128) 128 (by simp; omega)
            rw [bv_drop, bv_take, Nat.mul_comm i 128, hS] at this
            rw [Nat.mul_comm i 128]
            exact this
          rw [hS5]
          refine rdX_toStr (n := 128) (l := S) Try.underlying23 Try.underlying5 Try.underlying9 ⟨by simp [hSl], .inr ⟨_, _, _, rfl, by omega, jS⟩⟩ ?_
          simp [-Int.natCast_mul, -Int.natCast_add, go_sem]
          refine rx_lit [.agg (cellsP ((f, a + (i : Int)), S)).toArray] Try.underlying44 (elemT_of pE3) rfl rfl (by simp [Value.cells, cellsP]) (by decide) ?_
          have e8 : [Value.agg (cellsP ((f, a + (i : Int)), S)).toArray].flatMap (·.cells.toList) = cellsP ((f, a + (i : Int)), S) := by simp [Value.cells]
          rw [e8]
          have m8 : Mod (fun _ => False) W2 (W2.drew.alloc (.cells (cellsP ((f, a + (i : Int)), S)).toArray 122)) := ((Mod.refl _ W2).drew).alloc _
          have h8 : hp (W2.drew.alloc (.cells (cellsP ((f, a + (i : Int)), S)).toArray 122)) W2.heap.size = some (.cells (cellsP ((f, a + (i : Int)), S)).toArray 122 (0, 0)) := by simp [go_sem]
          rw [size_drew]
          generalize (W2.drew.alloc (.cells (cellsP ((f, a + (i : Int)), S)).toArray 122)) = W8 at m8 h8
          have n8 : hp W8 r = _ := m8.keep g1 id
          have hws := Ri.step_waits
          simp only [n8]
          refine ⟨rfl, rx_append (n := Ri.step.2.waits.length) (m := 1) (news := cellsP ((f, a + (i : Int)), S)) Try.underlying44 Try.underlying44 (elemT_of pE3) (g3.mod m8 fun _ _ h => h)
            ⟨rfl, .inr ⟨_, 0, 1, rfl, Nat.le_refl _, ⟨_, _, _, h8, by simp [cellsP], by simp⟩⟩⟩ (by simp [cellsP, Value.oneCell']) (by rw [hws]; omega) fun v9 W9 o9 m9 n9 => ?_⟩
          have n9' : hp W9 r = _ := m9.keep n8 g6
          obtain ⟨va9, vc9, rfl, -⟩ := o9.isSl
          simp [-Int.natCast_mul, -Int.natCast_add, go_sem, n9', hw1]
          generalize hv9 : (Value.slice va9 (Ri.step.2.waits.length + 1) vc9) = v9 at o9 n9
          have m10 : Mod (fun b => b = r) W9 (W9.setCell ⟨r, 1, none⟩ v9) := (Mod.refl (fun b => b = r) W9).setCell (b := r) (.inl (by simp)) _ _
          have l8 := m8.size
          have hrl := q2'.lt q2'.self
          have hv9r : ¬ inSl v9 r := fun hb => by
            rcases n9 r hb with h | h
            · exact g6 h
            · omega
          have k8 : Stp F' W2 (W9.setCell ⟨r, 1, none⟩ v9) (fun b => b = r ∨ inSl tL b ∨ inSl v9 b) := by
            refine ⟨((m8.mono fun _ _ h => h.elim).on m9 fun b hb => .inl ((g4 b).2 (.inr (.inr hb)))).on m10 fun b hb => .inl (hb ▸ hrF), fun b hb => ?_⟩
            rcases hb with rfl | hb | hb
            · exact .inl hrF
            · exact .inl ((g4 b).2 (.inr (.inl hb)))
            · rcases n9 b hb with h | h
              · exact .inl ((g4 b).2 (.inr (.inr h)))
              · exact .inr (by omega)
          refine hKN _ _ ⟨i + 1, _, { Ri.step.2 with waits := Ri.step.2.waits ++ [((f, a + (i : Int)), S)] }, fun b => b = r ∨ inSl tL b ∨ inSl v9 b, hik, rfl, ⟨⟨tL, v9, by show hp _ _ = _; simp [go_sem, n9'], ?_, ?_, fun _ => Iff.rfl, g5, hv9r, ?_⟩, q2'.left⟩, b2.trans k8, ?_, ?_⟩ (by simp; omega)
          · exact ((g2.mod m8 fun _ _ h => h).mod m9 fun b hb => g7 b hb).mod m10 fun b hb e => g5 (e ▸ hb)
          · have := o9.mod m10 fun b hb e => hv9r (e ▸ hb)
            rw [List.length_append, List.flatMap_append]
            simpa using this
          · intro b hb hb9
            rcases n9 b hb9 with h | h
            · exact g7 b hb h
            · have := g2.lt hb; omega
          · rw [a4, show a + (i : Int) + 1 = a + ((i + 1 : Nat) : Int) by omega]
          · simp [hws]; omega
      · obtain rfl : i = k := by omega
        have hnil : (chunks bs i).drop i = [] := List.drop_of_length_le (by simp [chunks])
        rw [hnil] at a4
        have a4' : R.write1 f a (chunks bs i) = (0, Ri) := a4
        rw [a4'] at hK
        simp [go_sem, hdv]
        exact hK _ _ a1 a2
    · rw [if_neg hc] at hK
      simp only [hc, not_false_eq_true, decide_true]
      simp [go_sem]
      exact hK _ _ h0 (Stp.refl _ _)
  · simp [ho] at hK ⊢
    exact hK _ _ h0 (Stp.refl _ _)
end Go.Proofs

namespace Go.Proofs
open Go Go.Vc

theorem clone_find : Extern.find Try.f82 = some Extern.MapsClone.clone := by kernel_rfl
theorem clone_next : Extern.findNext Try.f82 = none := by kernel_rfl
theorem clone_name : (Try.f82.name == "runtime.NumGoroutine") = false := by kernel_rfl
theorem clone_body : Try.f82.body.isNone = true := by kernel_rfl

theorem run_clone {w : World} {r : Nat} {es : Array MapEntry} {c : Nat} {t : TypeId} (h : w.heap[r]? = some (.map es c)) :
    (callFunc 82 #[.iface t (.map (some r))]).run Try.prog w = .ok (.value (.iface t (.map (some w.heap.size)))) (w.alloc (.map es c)) := by
  unfold callFunc
  have e : Extern.MapsClone.clone #[.iface t (.map (some r))] = (getObj r >>= fun o => match o with
      | .map entries clock => (newObj (.map entries clock) >>= fun n => pure (.iface t (.map (some n))))
      | _ => stuck "maps.clone: a map expected") := rfl
  have hpr : ∀ w, Sem.run Try.prog program w = .ok Try.prog w := fun _ => rfl
  have hmk : ∀ m w, Sem.run Try.prog (mark m) w = .ok () w := fun _ _ => rfl
  simp only [Sem.run_bind, hpr, hmk, Result.andThen, Try.func82, clone_name, clone_body, clone_next, clone_find, Bool.false_eq_true, if_false, if_true]
  rw [e]
  simp [MapKept.run_getObj_map h, Result.andThen]

theorem ca_mclone_nil {w : World} {K : Kont} (hK : K (.map none) w) : Ca Try.prog 61 #[.map none] w K := by
  apply ca61
  unfold F61
  simp [go_sem, Try.underlying52]
  exact hK
theorem run_assert {w : World} {v : Value} : (Instr.typeAssert (.iface 52 v) 20 52 false).run Try.prog w = .ok v w := by
  unfold Instr.typeAssert
  simp [run_underlying Try.underlying52, Result.andThen]
theorem ca_mclone {w : World} {K : Kont} {b : Nat} {es : Array MapEntry} {c : Nat} (h : w.heap[b]? = some (.map es c)) (hK : K (.map (some w.heap.size)) (w.alloc (.map es c))) : Ca Try.prog 61 #[.map (some b)] w K := by
  apply ca61
  unfold F61
  have hcc : Try.prog.concrete 52 = true := by kernel_rfl
  simp [go_sem, Try.underlying52, hcc]
  refine ⟨?_⟩
  rw [rn_iff]
  unfold rnD
  rw [run_clone h]
  simp only [go_sem, run_assert]
  exact hK

theorem ca_sclone {w : World} {K : Kont} {s : Value} {n : Nat} {l : List (Pl × Sec)} (h : Own w 116 130 s l.length (l.flatMap cellsPut)) (hn : l.length < 549755813888) (hz : l = [] → s = .slice none 0 0)
    (hK : ∀ s' w', Own w' 116 130 s' l.length (l.flatMap cellsPut) → Mod (fun _ => False) w w' → (∀ b, inSl s' b → w.heap.size ≤ b) → (l = [] → s' = .slice none 0 0) → K s' w') : Ca Try.prog 62 #[s] w K := by
  obtain ⟨a, c, rfl, hc⟩ := h.isSl
  apply ca62
  unfold F62
  by_cases h0 : l = []
  · have := hz h0
    subst h0
    rw [this] at h ⊢
    simp [go_sem, Try.underlying53]
    exact hK _ _ h (Mod.refl _ _) (fun b hb => by cases hb) fun _ => rfl
  · have ha : a ≠ none := by
      rintro rfl
      obtain ⟨hl, ⟨he, h1⟩ | ⟨b, cap, rest, he, _⟩⟩ := h
      · exact h0 (List.length_eq_zero_iff.1 h1)
      · cases he
    obtain ⟨a, rfl⟩ := Option.ne_none_iff_exists'.1 ha
    simp [go_sem, Try.underlying53]
    refine rx_lit [] Try.underlying53 (elemT_of pE) rfl rfl (by simp) (by decide) ?_
    have hA : hp (w.alloc (.cells (([] : List Value).flatMap (·.cells.toList)).toArray 116)) w.heap.size = some (.cells #[] 116 (0, 0)) := by simp [go_sem]
    have mA : Mod (fun _ => False) w (w.alloc (.cells (([] : List Value).flatMap (·.cells.toList)).toArray 116)) := (Mod.refl _ w).alloc _
    generalize (w.alloc (.cells (([] : List Value).flatMap (·.cells.toList)).toArray 116)) = W at hA mA
    refine rx_append (n := 0) (m := l.length) (cs := []) (news := l.flatMap cellsPut) Try.underlying53 Try.underlying53 (elemT_of pE) ⟨rfl, .inr ⟨_, 0, [], rfl, Nat.le_refl _, hA, by simp, by simp⟩⟩ (h.mod mA fun _ _ h => h).rd ?_ (by omega) fun s' w' o m n => ?_
    · exact List.all_eq_true.2 fun v hv => by
        obtain ⟨p, hp, hv⟩ := List.mem_flatMap.1 hv
        exact List.all_eq_true.1 (cellsPut_one p) v hv
    have lA := mA.size
    refine hK _ _ (by simpa using o) (mA.on m fun b hb => .inr ?_) (fun b hb => ?_) fun h => absurd h h0
    · have : b = w.heap.size := by cases hb; rfl
      omega
    · rcases n b hb with h | h
      · have : b = w.heap.size := by cases h; rfl
        omega
      · omega

theorem ca_copy {w : World} {d : Nat} {F : Nat → Prop} {D : DM} {K : Kont} (h : DiskR w d F D) (hn : D.waits.length < 549755813888)
    (hK : ∀ w' d' F', DiskR w' d' F' D → Mod (fun _ => False) w w' → (∀ b, F' b → w.heap.size ≤ b) → K (dptr d') w') : Ca Try.prog 28 #[dptr d] w K := by
  obtain ⟨s, hq⟩ := h
  have hq0 := hq
  obtain ⟨⟨mb, h1, h2, h3, h4, h5, h6, h7⟩, hl, hw, hle, h8⟩ := hq
  obtain ⟨sa, sc, rfl, hsc⟩ := h3.isSl
  apply ca28
  unfold F28
  have hdl := lt_of_heap h1
  simp [go_sem, dptr, hp_of h1, olds hdl]
  generalize hW : (w.alloc (.cells #[.map mb, .slice sa D.waits.length sc, .int .i64 D.left, .bool D.armed, .bool D.off] 55)).drew = W
  have k0 : hp W w.heap.size = some (.cells #[.map mb, .slice sa D.waits.length sc, .int .i64 D.left, .bool D.armed, .bool D.off] 55 (0, 0)) := by subst hW; simp [go_sem]
  have mW : Mod (fun _ => False) w W := by subst hW; exact ((Mod.refl _ w).alloc _).drew
  clear hW
  have lW := lt_of_heap k0
  -- behind the map's copy
  have key : ∀ (mb' : Option Nat) (W2 : World), Mod (fun _ => False) W W2 → MapV encP encS W2 (.map mb') D.lasts → (∀ b, mb' = some b → W.heap.size ≤ b) →
      (∀ v16 w17, Own w17 116 130 v16 D.waits.length (D.waits.flatMap cellsPut) → Mod (fun _ => False) W2 w17 → (∀ b, inSl v16 b → W2.heap.size ≤ b) → (D.waits = [] → v16 = .slice none 0 0) →
        K (.pointer (some ⟨w.heap.size, 0, none⟩)) ((w17.setCell ⟨w.heap.size, 0, none⟩ (.map mb')).setCell ⟨w.heap.size, 1, none⟩ v16)) := by
    intro mb' W2 m2 g2 g3 v16 w17 o m n hz
    have k17 : hp w17 w.heap.size = _ := m.keep (m2.keep k0 id) id
    have mS : Mod (fun b => b = w.heap.size) w17 ((w17.setCell ⟨w.heap.size, 0, none⟩ (.map mb')).setCell ⟨w.heap.size, 1, none⟩ v16) := ((Mod.refl _ w17).setCell (by simp) _ _).setCell (by simp) _ _
    have l2 := m2.size
    refine hK _ w.heap.size (fun b => b = w.heap.size ∨ mb' = some b ∨ inSl v16 b) ⟨v16, ⟨mb', by show hp _ _ = _; simp [go_sem, k17], ?_, ?_, fun _ => Iff.rfl, ?_, ?_, ?_⟩, hl, hw, hle, hz⟩ (((mW.trans m2).trans m).on mS fun b hb => .inr (by omega)) ?_
    · rcases g2 with ⟨g2, g2'⟩ | ⟨b, g2, g2'⟩
      · exact .inl ⟨g2, g2'⟩
      · refine .inr ⟨b, g2, (g2'.mod m id).mod mS ?_⟩
        have := g3 b (by cases g2; rfl)
        show ¬ _ = _
        omega
    · exact o.mod mS fun b hb e => by have := n b hb; omega
    · intro e
      have := g3 _ e
      omega
    · intro e
      have := n _ e
      omega
    · intro b hb hb'
      have h1 := n b hb'
      rcases g2 with ⟨g2, g2'⟩ | ⟨b', g2, g2'⟩
      · cases g2; cases hb
      · have h2 := g2'.lt
        cases g2; cases hb
        omega
    · rintro b (hb | hb | hb)
      · omega
      · have := g3 _ hb; omega
      · have := n _ hb; omega
  have hd1 : ∀ W2, Mod (fun _ => False) W W2 → hp W2 d = some (.cells #[.map mb, .slice sa D.waits.length sc, .int .i64 D.left, .bool D.armed, .bool D.off] 55 (0, 0)) := fun W2 m2 => m2.keep (mW.keep h1 id) id
  have hs1 : ∀ W2, Mod (fun _ => False) W W2 → Own W2 116 130 (.slice sa D.waits.length sc) D.waits.length (D.waits.flatMap cellsPut) := fun W2 m2 => (h3.mod mW fun _ _ h => h).mod m2 fun _ _ h => h
  rcases h2 with ⟨h2, h2'⟩ | ⟨b, h2, h2'⟩
  · cases h2
    refine ca_mclone_nil ?_
    simp only [hd1 W (Mod.refl _ _)]
    refine ⟨rfl, ca_sclone (n := 0) (hs1 W (Mod.refl _ _)) hn h8 fun v16 w17 o m n hz => ?_⟩
    have k17 : hp w17 w.heap.size = _ := m.keep k0 id
    have := key none W (Mod.refl _ _) (.inl ⟨rfl, h2'⟩) (fun b hb => by cases hb) v16 w17 o m n hz
    obtain ⟨va, vc, rfl, -⟩ := o.isSl
    simp [go_sem, k17]
    exact this
  · cases h2
    obtain ⟨hn', es, clock, he, hr⟩ := h2'.mod mW id
    refine ca_mclone he ?_
    have m2 : Mod (fun _ => False) W (W.alloc (.map es clock)) := (Mod.refl _ W).alloc _
    have g2 : MapAt encP encS (W.alloc (.map es clock)) W.heap.size D.lasts := ⟨hn', es, clock, by rw [heap_alloc, if_pos rfl], hr⟩
    generalize W.alloc (.map es clock) = W2 at m2 g2
    simp only [hd1 W2 m2]
    refine ⟨rfl, ca_sclone (n := 0) (hs1 W2 m2) hn h8 fun v16 w17 o m n hz => ?_⟩
    have k17 : hp w17 w.heap.size = _ := m.keep (m2.keep k0 id) id
    have := key (some W.heap.size) W2 m2 (.inr ⟨_, rfl, g2⟩) (fun b hb => by cases hb; exact Nat.le_refl _) v16 w17 o m n hz
    obtain ⟨va, vc, rfl, -⟩ := o.isSl
    simp [go_sem, k17]
    exact this
end Go.Proofs

namespace Go.Proofs
open Go Go.Vc

/-- The document's disk has what the disk has. -/
structure Sim (D R : DM) : Prop where
  waits : D.waits = R.waits
  left : D.left = R.left
  armed : D.armed = R.armed
  off : D.off = R.off
  lk : ∀ k, lk D.lasts k = lk (putL [] R.lasts) k
  lens : ∀ p ∈ R.lasts, p.2.length = 128

theorem Sim.new : Sim DM.new DM.new := ⟨rfl, rfl, rfl, rfl, fun _ => rfl, by simp [DM.new]⟩
theorem Sim.step {D R : DM} (h : Sim D R) : D.step.1 = R.step.1 ∧ Sim D.step.2 R.step.2 := by
  obtain ⟨h1, h2, h3, h4, h5, h6⟩ := h
  unfold DM.step
  rw [h2, h3]
  split
  · exact ⟨rfl, h1, rfl, rfl, rfl, h5, h6⟩
  · split
    · exact ⟨rfl, h1, rfl, rfl, h4, h5, h6⟩
    · exact ⟨rfl, h1, h2, h3, h4, h5, h6⟩
theorem Sim.arm {D R : DM} (h : Sim D R) (n : Int) : (D.arm n).1 = (R.arm n).1 ∧ Sim (D.arm n).2 (R.arm n).2 := by
  have h0 := h
  obtain ⟨h1, h2, h3, h4, h5, h6⟩ := h
  unfold DM.arm
  rw [h4]
  split
  · exact ⟨rfl, h0⟩
  · split
    · exact ⟨rfl, h0⟩
    · exact ⟨rfl, h1, rfl, rfl, rfl, h5, h6⟩
theorem lk_both {D R : DM} (h : Sim D R) (ws : List (Pl × Sec)) (k : Pl) : lk (putL D.lasts ws) k = lk (putL [] (R.lasts ++ ws)) k := by
  rw [← putL_append, lk_putL_or ws D.lasts, lk_putL_or ws (putL [] R.lasts), h.lk]
theorem Sim.sync {D R : DM} (h : Sim D R) (hl : ∀ p ∈ D.waits, p.2.length = 128) : D.sync.1 = R.rsync.1 ∧ Sim D.sync.2 R.rsync.2 := by
  have h0 := h
  obtain ⟨s1, s2⟩ := h.step
  have hw := D.step_waits
  have hw' := R.step_waits
  obtain ⟨h1, h2, h3, h4, h5, h6⟩ := h
  unfold DM.sync DM.rsync
  rw [h4, s1]
  split
  · exact ⟨rfl, h0⟩
  · split
    · refine ⟨rfl, rfl, s2.left, s2.armed, s2.off, fun k => ?_, fun p hp => ?_⟩
      · simp only [s2.waits]
        exact lk_both s2 _ k
      · rcases List.mem_append.1 hp with hp | hp
        · exact s2.lens p hp
        · rw [hw', ← h1] at hp
          exact hl p hp
    · exact ⟨rfl, s2⟩
theorem Sim.crash {D R : DM} (h : Sim D R) (hl : ∀ p ∈ D.waits, p.2.length = 128) (keep : Nat) (torn : List UInt8) : Sim (D.crash keep torn) (R.rcrash keep torn) := by
  have h0 := h
  obtain ⟨h1, h2, h3, h4, h5, h6⟩ := h
  have hl' : ∀ p ∈ R.lasts ++ R.waits.take keep, p.2.length = 128 := by
    intro p hp
    rcases List.mem_append.1 hp with hp | hp
    · exact h6 p hp
    · exact hl p (by rw [h1]; exact List.mem_of_mem_take hp)
  refine ⟨rfl, h2, rfl, rfl, fun k => ?_, fun p hp => ?_⟩
  · simp only [DM.crash, DM.rcrash, h1]
    cases hk : R.waits[keep]? with
    | none => exact lk_both h0 _ k
    | some p =>
      simp only
      split
      · exact lk_both h0 _ k
      · rw [lk_put, ← putL_append]
        show _ = Go.Vc.lk (put (putL [] (R.lasts ++ R.waits.take keep)) p.1 (tornSec torn)) k
        rw [lk_put, lk_both h0]
  · simp only [DM.rcrash] at hp
    cases hk : R.waits[keep]? with
    | none => rw [hk] at hp; exact hl' p hp
    | some q =>
      rw [hk] at hp
      simp only at hp
      split at hp
      · exact hl' p hp
      · rcases List.mem_append.1 hp with hp | hp
        · exact hl' p hp
        · have : p = (q.1, tornSec torn) := by simpa using hp
          rw [this]
          exact tornSec_length torn
theorem Sim.write1 : ∀ (cs : List Sec) {D R : DM} (h : Sim D R) (f a : Int), (D.write1 f a cs).1 = (R.write1 f a cs).1 ∧ Sim (D.write1 f a cs).2 (R.write1 f a cs).2
  | [], D, R, h, f, a => ⟨rfl, h⟩
  | c :: cs, D, R, h, f, a => by
    obtain ⟨s1, s2⟩ := h.step
    simp only [DM.write1, s1]
    split
    · exact Sim.write1 cs (D := { D.step.2 with waits := D.step.2.waits ++ [((f, a), c)] }) (R := { R.step.2 with waits := R.step.2.waits ++ [((f, a), c)] }) ⟨by simp only [s2.waits], s2.left, s2.armed, s2.off, s2.lk, s2.lens⟩ f (a + 1)
    · exact ⟨rfl, s2⟩
theorem Sim.write {D R : DM} (h : Sim D R) (f a : Int) (bs : List UInt8) : (D.write f a bs).1 = (R.write f a bs).1 ∧ Sim (D.write f a bs).2 (R.write f a bs).2 := by
  unfold DM.write
  rw [h.off]
  split
  · exact ⟨rfl, h⟩
  · split
    · exact Sim.write1 _ h f a
    · exact ⟨rfl, h⟩
theorem Sim.read {D R : DM} (h : Sim D R) (f a : Int) (n : Nat) : D.readB f a n = rreadB R f a n := by
  unfold DM.readB rreadB
  congr 1
  funext j
  unfold DM.secAt rsec
  rw [lk_putL_or, h.waits, h.lk]

/-- A loop that adds one to each of a slice's bytes. -/
theorem u8_succ (x : UInt8) : IntKind.u8.wrap ((x.toNat : Int) + 1) = ((x + 1).toNat : Int) := by
  rw [IntKind.wrap_u8]
  have : (x + 1).toNat = (x.toNat + 1) % 256 := by simp [UInt8.toNat_add]
  omega

theorem u8_mod (x : UInt8) : ((x.toNat : Int) + 1) % 256 = ((x + 1).toNat : Int) := by
  have : (x + 1).toNat = (x.toNat + 1) % 256 := by simp [UInt8.toNat_add]
  omega
set_option maxRecDepth 10000 in
theorem ca_same {w : World} {d r : Nat} {F G : Nat → Prop} {D R : DM} {K : Kont} {f a n : Int} (h : DiskR w d F D) (hr : RefQ w r G R) (hs : Sim D R) (hn1 : D.waits.length < 549755813888) (hn2 : R.lasts.length < 549755813888)
    (hK : ∀ w', Mod (fun _ => False) w w' → K (.bool true) w') : Ca Try.prog 29 #[dptr d, dptr r, .int .i64 f, .int .i64 a, .int .i64 n] w K := by
  have hlens : (∀ p ∈ R.lasts, p.2.length = 128) ∧ ∀ p ∈ R.waits, p.2.length = 128 := ⟨hs.lens, fun p hp => by
    obtain ⟨s, hq⟩ := h
    exact (hq.waits p (by rw [hs.waits]; exact hp)).1⟩
  apply ca29
  unfold F29
  -- behind both readings
  have key : ∀ (W : World) (v : Value) (l : List UInt8), l.length < 1099511627776 → Mod (fun _ => False) w W → Own W 5 1 v l.length (bv l) → (∀ b, inSl v b → w.heap.size ≤ b) → J29_1 v K (.bool true, ()) W := by
    intro W v l hlb mW oW nW
    unfold J29_1
    intro _
    unfold L29_0
    refine loopK (fun s W' => ∃ (i : Nat) (l' : List UInt8), i ≤ l.length ∧ s = (.int .i64 i, ()) ∧ l'.length = l.length ∧ Mod (fun _ => False) w W' ∧ Own W' 5 1 v l.length (bv l'))
      (fun s _ => match s.1 with | .int _ i => l.length - i.toNat | _ => 0) ⟨0, l, by omega, rfl, rfl, mW, oW⟩ ?_
    clear mW oW
    rintro ⟨_, _⟩ W' ⟨i, l', hi, ⟨⟩, hl', mW, oW⟩ KN hKN _
    have hw1 : IntKind.i64.wrap ((i : Int) + 1) = ((i + 1 : Nat) : Int) := by rw [IntKind.wrap_i64]; omega
    obtain ⟨hl, ⟨rfl, h0⟩ | ⟨b, cap, rest, rfl, hc, hh, hr1, hr2⟩⟩ := oW
    · have hi0 : i = 0 := by omega
      subst hi0
      simp [go_sem, h0]
      exact hK _ mW
    · by_cases hlt : i < l.length
      · obtain ⟨C, hC⟩ : ∃ C, (bv l' ++ rest).toArray = C := ⟨_, rfl⟩
        have hh' : hp W' b = some (.cells C 5 (0, 0)) := by rw [← hC]; exact hh
        have hCi : C[i]? = some (.int .u8 (l'[i]'(by omega)).toNat) := by
          rw [← hC, List.getElem?_toArray, List.getElem?_append_left (by simp; omega), bv, List.getElem?_map, List.getElem?_eq_getElem (by omega)]
          rfl
        simp [-Int.natCast_add, go_sem, hlt, hh', hCi, hw1, u8_succ]
        refine hKN _ _ ⟨i + 1, l'.set i (l'[i]'(by omega) + 1), by omega, rfl, by simp [hl'], mW.setCell (.inr (nW b rfl)) _ _, by simp [hl'], .inr ⟨b, cap, rest, rfl, hc, ?_, hr1, hr2⟩⟩ (by simp; omega)
        show hp _ b = _
        simp [go_sem, hh']
        rw [← hC]
        apply Array.ext'
        rw [Array.toList_setIfInBounds]
        show (bv l' ++ rest).set i _ = _
        rw [List.set_append_left _ _ (by simp; omega), u8_mod, bv_set]
      · have hil : i = l.length := by omega
        subst hil
        simp [go_sem]
        exact hK _ mW
  have hrd : ∀ m, D.readB f a m = rreadB R f a m := fun m => hs.read f a m
  refine ca_read h (by omega) (fun ho => ?_) (fun ho hm => ?_) (fun ho hm w1 v1 o1 m1 n1 => ?_)
  · simp [go_sem]
    refine ca_rread hr hlens (by rw [← hs.waits]; omega) (by omega) (fun _ => ?_) (fun h => absurd (hs.off ▸ ho) (by rw [h]; simp)) (fun h => absurd (hs.off ▸ ho) (by rw [h]; simp))
    simp [go_sem]
    refine JoinW.at (fun s W => s = (.bool true, ()) ∧ Mod (fun _ => False) w W) ?_ ?_
    · refine rx_toStr (n := 0) (l := []) Try.underlying23 Try.underlying5 Try.underlying9 (Own.nil w 5 1).rd ?_
      refine rx_toStr (n := 0) (l := []) Try.underlying23 Try.underlying5 Try.underlying9 (Own.nil w 5 1).rd ?_
      simp [go_sem]
      exact Mod.refl _ _
    rintro _ W ⟨rfl, mW⟩
    exact key W _ [] (by simp) mW (Own.nil ..) fun b hb => by cases hb
  · simp [go_sem]
    refine ca_rread hr hlens (by rw [← hs.waits]; omega) (by omega) (fun h => absurd ho (by rw [hs.off, h]; simp)) (fun _ _ => ?_) (fun _ h => absurd hm (by rw [h]; simp))
    simp [go_sem]
    refine JoinW.at (fun s W => s = (.bool true, ()) ∧ Mod (fun _ => False) w W) ?_ ?_
    · refine rx_toStr (n := 0) (l := []) Try.underlying23 Try.underlying5 Try.underlying9 (Own.nil w 5 1).rd ?_
      refine rx_toStr (n := 0) (l := []) Try.underlying23 Try.underlying5 Try.underlying9 (Own.nil w 5 1).rd ?_
      simp [go_sem]
      exact Mod.refl _ _
    rintro _ W ⟨rfl, mW⟩
    exact key W _ [] (by simp) mW (Own.nil ..) fun b hb => by cases hb
  · simp [go_sem]
    refine ca_rread (hr.mod m1 fun _ _ h => h) hlens (by rw [← hs.waits]; omega) (by omega) (fun h => absurd ho (by rw [hs.off, h]; simp)) (fun _ h => absurd hm (by rw [h]; simp)) (fun _ _ w2 v2 o2 m2 n2 => ?_)
    simp [go_sem]
    have o1' := o1.mod m2 fun _ _ h => h
    have hbl : (D.readB f a n.toNat).length = n.toNat * 128 := by
      have := o1.1
      simpa using this
    have hnn : n.toNat ≤ 8192 := by simp [mayB] at hm; omega
    refine JoinW.at (fun s W => s = (.bool true, ()) ∧ W = w2) ?_ ?_
    · refine rx_toStr Try.underlying23 Try.underlying5 Try.underlying9 o1'.rd ?_
      refine rx_toStr Try.underlying23 Try.underlying5 Try.underlying9 o2.rd ?_
      simp [go_sem, hrd]
    rintro _ W ⟨rfl, rfl⟩
    exact key W _ (D.readB f a n.toNat) (by omega) (m1.trans m2) (by rw [hbl]; exact o1') n1
end Go.Proofs

namespace Go.Proofs
open Go Go.Vc

structure OpM where
  kind : Int
  file : Int
  at_ : Int
  n : Int
  B : Value
  bs : List UInt8
def opCells (o : OpM) : List Value := [.int .i64 o.kind, .int .i64 o.file, .int .i64 o.at_, .int .i64 o.n, o.B]
structure OpOk (w : World) (o : OpM) : Prop where
  kind : R64 o.kind
  file : R64 o.file
  at_ : R64 o.at_
  n : R64 o.n
  rd : Rd w 1 o.B o.bs.length (bv o.bs)
  small : o.bs.length ≤ 140737488355328

theorem rd_elem {w : World} {sz : Nat} {v : Value} {n : Nat} {cs : List Value} (h : Rd w sz v n cs) {i : Nat} (hi : i < n) :
    ∃ b off cap C e fz, v = .slice (some ⟨b, off, none⟩) n cap ∧ hp w b = some (.cells C e fz) ∧ ∀ j u, ((cs.drop (i * sz)).take sz)[j]? = some u → C[off + i * sz + j]? = some u := by
  obtain ⟨hl, ⟨rfl, a, c, rfl⟩ | ⟨b, off, cap, rfl, hc, hh⟩⟩ := h
  · omega
  · obtain ⟨C, e, fz, h1, h2⟩ := hh.get
    refine ⟨b, off, cap, C, e, fz, rfl, h1, fun j u hj => ?_⟩
    rw [Nat.add_assoc]
    refine h2 _ _ ?_
    rw [List.getElem?_take] at hj
    split at hj
    · rw [List.getElem?_drop] at hj
      exact hj
    · cases hj
theorem opCells_len (l : List OpM) : ∀ x ∈ l, (opCells x).length = 5 := fun _ _ => rfl
/-- A call's cells. -/
theorem op_cells {w : World} {v : Value} {l : List OpM} (h : Rd w 5 v l.length (l.flatMap opCells)) {i : Nat} (hi : i < l.length) :
    ∃ b off cap C e fz, v = .slice (some ⟨b, off, none⟩) l.length cap ∧ hp w b = some (.cells C e fz) ∧ C[off + i * 5]? = some (.int .i64 l[i].kind) ∧ C[off + (i * 5 + 1)]? = some (.int .i64 l[i].file) ∧
      C[off + (i * 5 + 2)]? = some (.int .i64 l[i].at_) ∧ C[off + (i * 5 + 3)]? = some (.int .i64 l[i].n) ∧ C[off + (i * 5 + 4)]? = some l[i].B := by
  obtain ⟨b, off, cap, C, e, fz, h1, h2, h3⟩ := rd_elem h hi
  rw [flat_get opCells 5 _ _ (opCells_len l) hi] at h3
  simp only [Nat.add_assoc] at h3
  exact ⟨b, off, cap, C, e, fz, h1, h2, h3 0 _ rfl, h3 1 _ rfl, h3 2 _ rfl, h3 3 _ rfl, h3 4 _ rfl⟩

def tot : List OpM → Nat
  | [] => 0
  | o :: l => o.bs.length + tot l
theorem tot_append : ∀ a b : List OpM, tot (a ++ b) = tot a + tot b
  | [], b => by simp [tot]
  | x :: a, b => by simp [tot, tot_append a b, Nat.add_assoc]
theorem tot_take (l : List OpM) (i : Nat) (hi : i < l.length) : tot (l.take (i + 1)) = tot (l.take i) + l[i].bs.length := by
  rw [List.take_succ_eq_append_getElem hi, tot_append]
  simp [tot]
theorem tot_le (l : List OpM) (i : Nat) : tot (l.take i) ≤ tot l := by
  conv => rhs; rw [← List.take_append_drop i l, tot_append]
  omega

set_option maxRecDepth 10000 in
theorem ca_tame {w : World} {v : Value} {l : List OpM} {K : Kont} (h : Rd w 5 v l.length (l.flatMap opCells)) (hok : ∀ o ∈ l, OpOk w o)
    (hK : K (.bool (decide ((l.length : Int) ≤ 100 ∧ (tot l : Int) ≤ 131072))) w) : Ca Try.prog 22 #[v, .int .i64 100] w K := by
  obtain ⟨va, vc, rfl⟩ := h.isSl
  apply ca22
  unfold F22
  simp [go_sem]
  by_cases hlen : (l.length : Int) ≤ 100
  · have hlen' : ¬ (100 : Int) < l.length := by omega
    simp [hlen']
    simp [hlen] at hK
    unfold L22_0
    refine loopK (fun s W => W = w ∧ ∃ i : Nat, i ≤ l.length ∧ s = (.int .i64 (tot (l.take i)), .int .i64 i, ()) ∧ tot (l.take i) ≤ i * 140737488355328)
      (fun s _ => match s.2.1 with | .int _ i => l.length - i.toNat | _ => 0) ⟨rfl, 0, by omega, rfl, by simp [tot]⟩ ?_
    rintro ⟨_, _⟩ W ⟨rfl, i, hi, ⟨⟩, hb⟩ KN hKN _
    have hw1 : IntKind.i64.wrap ((i : Int) + 1) = ((i + 1 : Nat) : Int) := by rw [IntKind.wrap_i64]; omega
    by_cases hlt : i < l.length
    · obtain ⟨b, off, cap, C, e, fz, hv, hC, c0, c1, c2, c3, c4⟩ := op_cells h hlt
      have ho := hok _ (List.getElem_mem hlt)
      obtain ⟨ba, bc, hB⟩ := ho.rd.isSl
      rw [hB] at c4
      have hs := ho.small
      have hw2 : IntKind.i64.wrap ((tot (l.take i) : Int) + (l[i].bs.length : Int)) = ((tot (l.take (i + 1)) : Nat) : Int) := by rw [tot_take l i hlt, IntKind.wrap_i64]; omega
      rw [hv]
      simp [-Int.natCast_add, go_sem, hlt, hC, c4, hw1, hw2]
      refine hKN _ _ ⟨rfl, i + 1, hlt, rfl, ?_⟩ (by simp; omega)
      rw [tot_take l i hlt]
      omega
    · have hil : i = l.length := by omega
      subst hil
      simp [go_sem]
      rw [List.take_length] at *
      simpa using hK
  · have hlen' : (100 : Int) < l.length := by omega
    simp [hlen']
    simp [hlen] at hK
    exact hK

structure Both (w0 W : World) (d r : Nat) (F G : Nat → Prop) (D R : DM) : Prop where
  disk : DiskR W d F D
  ref : RefQ W r G R
  sim : Sim D R
  mod : Mod (fun _ => False) w0 W
  f : ∀ b, F b → w0.heap.size ≤ b
  g : ∀ b, G b → w0.heap.size ≤ b
  apart : ∀ b, F b → ¬ G b
theorem Both.lens {w0 W : World} {d r : Nat} {F G : Nat → Prop} {D R : DM} (h : Both w0 W d r F G D R) : ∀ p ∈ D.waits, p.2.length = 128 := by
  obtain ⟨s, hq⟩ := h.disk
  exact fun p hp => (hq.waits p hp).1
theorem Both.on {w0 W W' : World} {d r : Nat} {F G X : Nat → Prop} {D R : DM} (h : Both w0 W d r F G D R) (hm : Mod X W W') (h1 : ∀ b, F b → ¬ X b) (h2 : ∀ b, G b → ¬ X b) (h3 : ∀ b, X b → w0.heap.size ≤ b) : Both w0 W' d r F G D R :=
  ⟨h.disk.mod hm h1, h.ref.mod hm h2, h.sim, h.mod.on hm fun b hb => .inr (h3 b hb), h.f, h.g, h.apart⟩
/-- Behind a call on each of them. -/
theorem Both.two {w0 W W1 W2 : World} {d r : Nat} {F G F1 G2 : Nat → Prop} {D R D1 R2 : DM} (h : Both w0 W d r F G D R) (d1 : DiskR W1 d F1 D1) (s1 : Stp F W W1 F1) (r2 : RefQ W2 r G2 R2) (s2 : Stp G W1 W2 G2) (hs : Sim D1 R2) :
    Both w0 W2 d r F1 G2 D1 R2 := by
  have l0 := h.mod.size
  have l1 := s1.mod.size
  have hx : ∀ b, F1 b → ¬ G b := fun b hb hg => by
    rcases s1.sub b hb with h1 | h1
    · exact h.apart b h1 hg
    · have := h.ref.lt hg; omega
  refine ⟨d1.mod s2.mod hx, r2, hs, (h.mod.on s1.mod fun b hb => .inr (h.f b hb)).on s2.mod fun b hb => .inr (h.g b hb), fun b hb => ?_, fun b hb => ?_, fun b hb hg => ?_⟩
  · rcases s1.sub b hb with h1 | h1
    · exact h.f b h1
    · omega
  · rcases s2.sub b hb with h1 | h1
    · exact h.g b h1
    · omega
  · rcases s2.sub b hg with h1 | h1
    · exact hx b hb h1
    · have := d1.lt hb; omega
theorem Both.refAt {w0 W W1 : World} {d r : Nat} {F G F1 : Nat → Prop} {D R : DM} (h : Both w0 W d r F G D R) (s1 : Stp F W W1 F1) : RefQ W1 r G R :=
  h.ref.mod s1.mod fun b hg hf => h.apart b hf hg
theorem keep2 {W W1 W2 : World} {F G F1 G2 : Nat → Prop} (s1 : Stp F W W1 F1) (s2 : Stp G W1 W2 G2) {b : Nat} {o : Obj} (h : hp W b = some o) (hf : ¬ F b) (hg : ¬ G b) : hp W2 b = some o := s2.mod.keep (s1.mod.keep h hf) hg

theorem write1_len : ∀ (cs : List Sec) (D : DM) (f a : Int), (D.write1 f a cs).2.waits.length ≤ D.waits.length + cs.length ∧ (D.write1 f a cs).2.lasts = D.lasts
  | [], D, f, a => ⟨Nat.le_refl _, rfl⟩
  | c :: cs, D, f, a => by
    simp only [DM.write1]
    split
    · obtain ⟨h1, h2⟩ := write1_len cs { D.step.2 with waits := D.step.2.waits ++ [((f, a), c)] } f (a + 1)
      rw [h2]
      simp only [D.step_waits, D.step_lasts] at h1 ⊢
      simp at h1 ⊢
      omega
    · simp only [D.step_waits, D.step_lasts]
      simp
theorem write_len (D : DM) (f a : Int) (bs : List UInt8) : (D.write f a bs).2.waits.length ≤ D.waits.length + bs.length ∧ (D.write f a bs).2.lasts = D.lasts := by
  unfold DM.write
  split
  · simp
  · split
    · obtain ⟨h1, h2⟩ := write1_len (chunks bs (bs.length / 128)) D f a
      refine ⟨?_, h2⟩
      have : (chunks bs (bs.length / 128)).length = bs.length / 128 := by simp [chunks]
      omega
    · simp
theorem sync_len (D : DM) : D.sync.2.waits.length ≤ D.waits.length := by
  unfold DM.sync
  split
  · simp
  · split
    · simp
    · simp [D.step_waits]
theorem rsync_len (R : DM) : R.rsync.2.lasts.length + R.rsync.2.waits.length = R.lasts.length + R.waits.length := by
  unfold DM.rsync
  split
  · simp
  · split
    · simp [R.step_waits, R.step_lasts]
    · simp [R.step_waits, R.step_lasts]
theorem rcrash_len (R : DM) (keep : Nat) (torn : List UInt8) : (R.rcrash keep torn).lasts.length + (R.rcrash keep torn).waits.length ≤ R.lasts.length + R.waits.length + 1 := by
  simp only [DM.rcrash]
  cases hk : R.waits[keep]? with
  | none => simp; omega
  | some p =>
    simp only
    split
    · simp; omega
    · simp; omega
theorem arm_len (D : DM) (n : Int) : (D.arm n).2.waits = D.waits ∧ (D.arm n).2.lasts = D.lasts := by
  unfold DM.arm
  split
  · simp
  · split <;> simp
theorem ca_crash_neg {w : World} {d : Nat} {K : Kont} {n : Int} {v : Value} (hn : n < 0) (hK : K (.int .i64 2) w) : Ca Try.prog 19 #[dptr d, .int .i64 n, v] w K := by
  apply ca19
  unfold F19
  simp [go_sem, dptr, hn]
  exact hK
theorem ca_rcrash_neg {w : World} {d : Nat} {K : Kont} {n : Int} {v : Value} (hn : n < 0) (hK : K (.int .i64 2) w) : Ca Try.prog 27 #[dptr d, .int .i64 n, v] w K := by
  apply ca27
  unfold F27
  simp [go_sem, dptr, hn]
  exact hK
end Go.Proofs

namespace Go.Proofs
open Go Go.Vc

/-- What a round has: the call's block p, the bytes' block q. -/
structure Rnd (w0 W : World) (o : OpM) (p q cap : Nat) (rest : List Value) (d r : Nat) (F G : Nat → Prop) (D R : DM) : Prop where
  both : Both w0 W d r F G D R
  op : hp W p = some (.cells (opCells o).toArray 48 (0, 0))
  row : hp W q = some (.cells (bv (o.bs ++ [77]) ++ rest).toArray 5 (0, 0))
  p0 : w0.heap.size ≤ p
  q0 : w0.heap.size ≤ q
  pf : ¬ F p ∧ ¬ G p
  qf : ¬ F q ∧ ¬ G q
  pq : p ≠ q
  cap1 : o.bs.length + 1 ≤ cap
  restl : rest.length = cap - (o.bs.length + 1)
  sW : D.waits.length + R.lasts.length < 4398046511104

theorem Rnd.rdIn {w0 W : World} {o : OpM} {p q cap : Nat} {rest : List Value} {d r : Nat} {F G : Nat → Prop} {D R : DM} (h : Rnd w0 W o p q cap rest d r F G D R) : Rd W 1 (.slice (some ⟨q, 0, none⟩) o.bs.length cap) o.bs.length (bv o.bs) := by
  have h1 := h.cap1
  have h2 := h.row
  refine ⟨by simp, .inr ⟨q, 0, cap, rfl, by omega, _, _, _, h2, by simp, ?_⟩⟩
  simp only [List.drop_zero, bv_append, List.append_assoc, bv_length]
  rw [List.take_append_of_le_length (by simp), List.take_of_length_le (by simp)]
theorem inRd_at {a : Addr} {n c b : Nat} (h : inRd (.slice (some a) n c) b) : b = a.block := by
  obtain ⟨a', n', c', e, _, rfl⟩ := h
  injection e with e1
  injection e1 with e1
  rw [e1]
theorem Rnd.two {w0 W W1 W2 : World} {o : OpM} {p q cap : Nat} {rest : List Value} {d r : Nat} {F G F1 G2 : Nat → Prop} {D R D1 R2 : DM} (h : Rnd w0 W o p q cap rest d r F G D R) (d1 : DiskR W1 d F1 D1) (s1 : Stp F W W1 F1) (r2 : RefQ W2 r G2 R2) (s2 : Stp G W1 W2 G2) (hs : Sim D1 R2)
    (hw : D1.waits.length + R2.lasts.length < 4398046511104) : Rnd w0 W2 o p q cap rest d r F1 G2 D1 R2 := by
  have lp := lt_of_heap h.op
  have lq := lt_of_heap h.row
  have l1 := s1.mod.size
  have no : ∀ b, b < W.heap.size → ¬ F b ∧ ¬ G b → ¬ F1 b ∧ ¬ G2 b := fun b hb hn => by
    refine ⟨fun h => ?_, fun h => ?_⟩
    · rcases s1.sub b h with h | h
      · exact hn.1 h
      · omega
    · rcases s2.sub b h with h | h
      · exact hn.2 h
      · omega
  exact ⟨h.both.two d1 s1 r2 s2 hs, keep2 s1 s2 h.op h.pf.1 h.pf.2, keep2 s1 s2 h.row h.qf.1 h.qf.2, h.p0, h.q0, no p lp h.pf, no q lq h.qf, h.pq, h.cap1, h.restl, hw⟩
theorem ref_new {w : World} {r : Nat} (h : hp w r = some (.cells #[.slice none 0 0, .slice none 0 0, .int .i64 0, .bool false, .bool false] 46 (0, 0))) : RefQ w r (fun b => b = r) DM.new :=
  ⟨⟨_, _, h, Own.nil .., Own.nil .., fun b => by simp [inSl, slBlk], by simp [inSl, slBlk], by simp [inSl, slBlk], by simp [inSl, slBlk]⟩, by simp [DM.new]⟩

theorem lit0 {w : World} {K : Kont} (hK : ∀ v w', Own w' 5 1 v 0 (bv []) → Mod (fun _ => False) w w' → (∀ b, inSl v b → w.heap.size ≤ b) → K v w') : rx Try.prog (xLit 23 0 []) w K := by
  refine rx_lit [] Try.underlying23 (elemT_of uT1) rfl rfl (by simp) (by decide) ?_
  refine hK _ _ ⟨by simp, .inr ⟨_, 0, [], rfl, Nat.le_refl _, by show hp _ _ = _; simp [go_sem], by simp, by simp⟩⟩ ((Mod.refl _ w).alloc _) fun b hb => ?_
  have : b = w.heap.size := by cases hb; rfl
  omega
theorem lit1 {w : World} {K : Kont} {u : UInt8} (hK : ∀ v w', Own w' 5 1 v 1 (bv [u]) → Mod (fun _ => False) w w' → (∀ b, inSl v b → w.heap.size ≤ b) → K v w') : rx Try.prog (xLit 23 1 [(0, .int .u8 u.toNat)]) w K := by
  refine rx_lit [.int .u8 u.toNat] Try.underlying23 (elemT_of uT1) rfl rfl (by simp [Value.cells]) (by decide) ?_
  refine hK _ _ ⟨by simp, .inr ⟨_, 1, [], rfl, Nat.le_refl _, by show hp _ _ = _; simp [go_sem, bv, Value.cells], by simp, by simp⟩⟩ ((Mod.refl _ w).alloc _) fun b hb => ?_
  have : b = w.heap.size := by cases hb; rfl
  omega

/-- The bytes handed in, with one more behind them. -/
theorem in_made {w0 W W2 : World} {o : OpM} {p d r : Nat} {F G : Nat → Prop} {D R : DM} {v : Value} (hB : Both w0 W d r F G D R) (hm : Mod (fun _ => False) W W2) (hP : hp W2 p = some (.cells (opCells o).toArray 48 (0, 0))) (p0 : w0.heap.size ≤ p) (pF : ¬ F p ∧ ¬ G p)
    (o2 : Own W2 5 1 v (0 + o.bs.length + 1) (bv [] ++ bv o.bs ++ bv [77])) (hn : ∀ b, inSl v b → W.heap.size ≤ b ∧ b ≠ p) (sW : D.waits.length + R.lasts.length < 4398046511104) :
    ∃ q cap rest, v = .slice (some ⟨q, 0, none⟩) (o.bs.length + 1) cap ∧ Rnd w0 W2 o p q cap rest d r F G D R := by
  have e : (bv [] ++ bv o.bs ++ bv [77]) = bv (o.bs ++ [77]) := by simp
  rw [e, Nat.zero_add] at o2
  obtain ⟨hl, ⟨_, h0⟩ | ⟨q, cap, rest, rfl, hc, hh, hr1, hr2⟩⟩ := o2
  · omega
  · obtain ⟨h1, h2⟩ := hn q rfl
    have l0 := hB.mod.size
    exact ⟨q, cap, rest, rfl, hB.on hm (fun _ _ h => h) (fun _ _ h => h) (fun _ h => h.elim), hP, hh, p0, by omega, pF, ⟨fun h => by have := hB.disk.lt h; omega, fun h => by have := hB.ref.lt h; omega⟩, fun e => h2 e.symm, hc, by simpa using hr1, sW⟩

end Go.Proofs

namespace Go.Proofs
open Go Go.Vc

theorem Rnd.later {w0 W W' : World} {o : OpM} {p q cap : Nat} {rest : List Value} {d r : Nat} {F G : Nat → Prop} {D R : DM} (h : Rnd w0 W o p q cap rest d r F G D R) (hm : Mod (fun _ => False) W W') : Rnd w0 W' o p q cap rest d r F G D R :=
  ⟨h.both.on hm (fun _ _ h => h) (fun _ _ h => h) (fun _ h => h.elim), hm.keep h.op id, hm.keep h.row id, h.p0, h.q0, h.pf, h.qf, h.pq, h.cap1, h.restl, h.sW⟩

set_option maxRecDepth 10000 in
theorem plays_round {w W : World} {K : Kont} {o : OpM} {p q cap : Nat} {rest : List Value} {d r : Nat} {F G : Nat → Prop} {D R : DM} {x : Value} {i T : Nat} {KN : Value × Value × Value × Unit → World → Prop}
    (hR : Rnd w W o p q cap rest d r F G D R) (ho : OpOk w o) (hb1 : D.waits.length ≤ T) (hb2 : R.lasts.length + R.waits.length ≤ T + i) (hT : T + o.bs.length ≤ 131072) (hi : i < 100)
    (hKN : ∀ W' d' F' G' D' R', Both w W' d' r F' G' D' R' → D'.waits.length ≤ T + o.bs.length → R'.lasts.length + R'.waits.length ≤ T + o.bs.length + (i + 1) → KN (x, dptr d', .int .i64 ((i + 1 : Nat) : Int), ()) W') :
    J5_5 (.pointer (some ⟨p, 0, none⟩)) (x, dptr d, .int .i64 i, ()) (dptr r) K KN (.slice (some ⟨q, 0, none⟩) o.bs.length cap, ()) W := by
  unfold J5_5
  intro _
  obtain ⟨ba, bc, hoB⟩ := ho.rd.isSl
  have hop : ∀ W', hp W' p = some (.cells (opCells o).toArray 48 (0, 0)) → hp W' p = some (.cells #[.int .i64 o.kind, .int .i64 o.file, .int .i64 o.at_, .int .i64 o.n, .slice ba o.bs.length bc] 48 (0, 0)) := fun W' h => by
    rw [h]; simp [opCells, hoB]
  have hP := hop _ hR.op
  have rB : ∀ W', Mod (fun _ => False) w W' → Rd W' 1 (.slice ba o.bs.length bc) o.bs.length (bv o.bs) := fun W' m => by
    have := ho.rd
    rw [hoB] at this
    exact this.mod m fun _ _ h => h
  have rBlt : ∀ b, inRd (.slice ba o.bs.length bc) b → b < w.heap.size := fun b hb => by
    have := ho.rd
    rw [hoB] at this
    exact this.lt hb
  obtain ⟨n1, n2⟩ := ho.n
  refine joinK (fun s W' => ∃ d' F' G' D' R', ∃ e : Int, s = (dptr d', x, .int .i64 e, .int .i64 e, ()) ∧ Rnd w W' o p q cap rest d' r F' G' D' R' ∧ D'.waits.length ≤ T + o.bs.length ∧ R'.lasts.length + R'.waits.length ≤ T + o.bs.length + (i + 1)) (fun JJ hJJ => ?_) ?_
  · have hRd := hR.later (Mod.refl (fun _ => False) W).drew
    have idle : JJ (dptr d, x, .int .i64 0, .int .i64 0, ()) W := hJJ _ _ ⟨d, F, G, D, R, 0, rfl, hR, by omega, by omega⟩
    simp [go_sem, hP]
    by_cases k0 : o.kind = 0
    · simp [go_sem, hP, k0]
      refine ca_write hRd.both.disk hRd.rdIn (fun b hb => ?_) (by omega) (by omega) fun W1 F1 d1 s1 => ?_
      · rw [inRd_at hb]
        exact ⟨hR.qf.1, lt_of_heap hRd.row⟩
      have hP1 := hop _ (s1.mod.keep hRd.op hRd.pf.1)
      simp [go_sem, hP1]
      have m1 : Mod (fun _ => False) w W1 := hRd.both.mod.on s1.mod fun b hb => .inr (hR.both.f b hb)
      refine ca_rwrite (hRd.both.refAt s1) (rB _ m1) (fun b hb hg => ?_) (by omega) (by omega) fun W2 G2 r2 s2 => ?_
      · have h1 := rBlt b hb
        have h2 := hR.both.g b hg
        omega
      obtain ⟨e1, e2⟩ := hR.both.sim.write o.file o.at_ o.bs
      obtain ⟨l1, l2⟩ := write_len D o.file o.at_ o.bs
      obtain ⟨l3, l4⟩ := write_len R o.file o.at_ o.bs
      rw [e1]
      exact hJJ _ _ ⟨d, F1, G2, _, _, _, rfl, hRd.two d1 s1 r2 s2 e2 (by rw [l4]; omega), by omega, by rw [l4]; omega⟩
    by_cases k1 : o.kind = 1
    · simp [go_sem, hP, k0, k1]
      refine ca_sync hR.both.disk (by omega) fun W1 F1 d1 s1 => ?_
      refine ca_rsync (hR.both.refAt s1) (by omega) fun W2 G2 r2 s2 => ?_
      obtain ⟨e1, e2⟩ := hR.both.sim.sync hR.both.lens
      have l1 := sync_len D
      have l2 := rsync_len R
      rw [e1]
      exact hJJ _ _ ⟨d, F1, G2, _, _, _, rfl, hR.two d1 s1 r2 s2 e2 (by omega), by omega, by omega⟩
    by_cases k2 : o.kind = 2
    · simp [go_sem, hP, k0, k1, k2]
      refine ca_arm hRd.both.disk (by omega) fun W1 d1 m1 => ?_
      have s1 : Stp F W.drew W1 F := ⟨m1.mono fun b _ e => e ▸ hRd.both.disk.self, fun b hb => .inl hb⟩
      have hP1 := hop _ (s1.mod.keep hRd.op hRd.pf.1)
      simp [go_sem, hP1]
      refine ca_rarm (hRd.both.refAt s1) (by omega) fun W2 r2 m2 => ?_
      have s2 : Stp G W1 W2 G := ⟨m2.mono fun b _ e => e ▸ hRd.both.ref.self, fun b hb => .inl hb⟩
      obtain ⟨e1, e2⟩ := hR.both.sim.arm o.n
      obtain ⟨l1, l2⟩ := arm_len D o.n
      obtain ⟨l3, l4⟩ := arm_len R o.n
      rw [e1]
      exact hJJ _ _ ⟨d, F, G, _, _, _, rfl, hRd.two d1 s1 r2 s2 e2 (by rw [l1, l4]; omega), by rw [l1]; omega, by rw [l3, l4]; omega⟩
    by_cases k3 : o.kind = 3
    · simp [go_sem, hP, k0, k1, k2, k3]
      by_cases hn : o.n < 0
      · refine ca_crash_neg hn ?_
        have hPd := hop _ hRd.op
        simp [go_sem, hPd]
        refine ca_rcrash_neg hn ?_
        exact hJJ _ _ ⟨d, F, G, D, R, _, rfl, hRd, by omega, by omega⟩
      · obtain ⟨N, hN⟩ : ∃ N : Nat, o.n = N := ⟨o.n.toNat, by omega⟩
        rw [hN]
        refine ca_crash hRd.both.disk (by omega) (by omega) hRd.rdIn (fun b hb => ?_) fun W1 F1 d1 s1 => ?_
        · rw [inRd_at hb]
          exact ⟨hR.qf.1, lt_of_heap hRd.row⟩
        have hP1 := hop _ (s1.mod.keep hRd.op hRd.pf.1)
        simp [go_sem, hP1, hN]
        have m1 : Mod (fun _ => False) w W1 := hRd.both.mod.on s1.mod fun b hb => .inr (hR.both.f b hb)
        refine ca_rcrash (hRd.both.refAt s1) (by omega) (by omega) (rB _ m1) (fun b hb hg => ?_) fun W2 G2 r2 s2 => ?_
        · have h1 := rBlt b hb
          have h2 := hR.both.g b hg
          omega
        have e2 := hR.both.sim.crash hR.both.lens N o.bs
        have l1 := rcrash_len R N o.bs
        have l2 : (D.crash N o.bs).waits = [] := rfl
        exact hJJ _ _ ⟨d, F1, G2, _, _, _, rfl, hRd.two d1 s1 r2 s2 e2 (by rw [l2]; simp; omega), by rw [l2]; simp, by omega⟩
    by_cases k4 : o.kind = 4
    · simp [go_sem, hP, k0, k1, k2, k3, k4]
      refine ca_copy hR.both.disk (by omega) fun W1 d' F' d1 m1 n1 => ?_
      have hR1 := hR.later m1
      refine ca_crash (keep := 0) (torn := []) hR1.both.disk (by omega) (by omega) (Own.nil W1 5 1).rd (fun b hb => ?_) fun W2 F2 d2 s2 => ?_
      · obtain ⟨a, n, c, e, _⟩ := hb
        cases e
      refine ca_sector (c := 120) fun W3 v3 o3 m3 n3 => ?_
      refine ca_write (d2.mod m3 fun _ _ h => h) o3.rd (fun b hb => ⟨fun h => ?_, o3.lt hb.sl⟩) (by rw [secOf_length]; decide) (by simp [DM.crash]) fun W4 F4 d4 s4 => ?_
      · have := (n3 b hb.sl).1
        have := d2.lt h
        omega
      refine ca_sync d4 ?_ fun W5 F5 d5 s5 => ?_
      · have := (write_len (D.crash 0 []) 0 0 (secOf 120)).1
        rw [secOf_length] at this
        have hz : (D.crash 0 []).waits.length = 0 := rfl
        omega
      have sall : Stp F W1 W5 F5 := ((s2.trans ⟨m3.mono fun _ _ h => h.elim, fun b hb => .inl hb⟩).trans s4).trans s5
      have lF : ∀ b, F b → b < W.heap.size := fun b hb => hR.both.disk.lt hb
      refine hJJ _ _ ⟨d', F', G, D, R, 0, rfl, ⟨⟨d1.mod sall.mod fun b hb hf => by have := n1 b hb; have := lF b hf; omega, hR1.both.ref.mod sall.mod fun b hg hf => hR.both.apart b hf hg, hR.both.sim, hR1.both.mod.on sall.mod fun b hb => .inr (hR.both.f b hb),
        fun b hb => by have := n1 b hb; have := hR.both.mod.size; omega, hR.both.g, fun b hb hg => by have := n1 b hb; have := hR.both.ref.lt hg; omega⟩,
        sall.mod.keep hR1.op hR1.pf.1, sall.mod.keep hR1.row hR1.qf.1, hR.p0, hR.q0, ⟨fun h => by have := n1 p h; have := lt_of_heap hR.op; omega, hR.pf.2⟩, ⟨fun h => by have := n1 q h; have := lt_of_heap hR.row; omega, hR.qf.2⟩, hR.pq, hR.cap1, hR.restl, hR.sW⟩, by omega, by omega⟩
    by_cases k5 : o.kind = 5
    · simp [go_sem, hP, k0, k1, k2, k3, k4, k5]
      refine JoinW.at (fun s W' => W' = W ∧ s = (.bool (decide (o.n ≤ 40 ∨ 8192 < o.n)), ())) ?_ ?_
      · by_cases hn : o.n ≤ 40
        · simp [go_sem, hP, hn]
        · simp [go_sem, hP, hn]
      rintro _ W' ⟨rfl, rfl⟩
      unfold J5_0
      intro _
      by_cases hc : o.n ≤ 40 ∨ 8192 < o.n
      · simp [go_sem, hP, hc]
        refine ca_same hR.both.disk hR.both.ref hR.both.sim (by omega) (by omega) fun W2 m2 => ?_
        simp [go_sem]
        exact hJJ _ _ ⟨d, F, G, D, R, 0, rfl, hR.later m2, by omega, by omega⟩
      · simp [go_sem, hc]
        exact idle
    simp [go_sem, hP, k0, k1, k2, k3, k4, k5]
    exact idle
  rintro _ W2 ⟨d', F', G', D', R', e, rfl, hR2, hb3, hb4⟩
  clear hR hP hb1 hb2
  unfold J5_4
  intro _
  have hP2 := hop _ hR2.op
  have hcap := hR2.cap1
  refine JoinW.at (fun s W' => W' = W2 ∧ s = (.bool false, ())) ?_ ?_
  · refine rx_toStr Try.underlying23 Try.underlying5 Try.underlying9 hR2.rdIn ?_
    simp [go_sem, hP2]
    refine rx_toStr Try.underlying23 Try.underlying5 Try.underlying9 (rB _ hR2.both.mod) ?_
    have hw1 : IntKind.i64.wrap ((o.bs.length : Int) + 1) = ((o.bs.length + 1 : Nat) : Int) := by rw [IntKind.wrap_i64]; omega
    have h1 : (0 : Int) ≤ ((o.bs.length + 1 : Nat) : Int) := by omega
    have h2 : ((o.bs.length + 1 : Nat) : Int) ≤ cap := by omega
    have h3 : ((o.bs.length + 1 : Nat) : Int).toNat = o.bs.length + 1 := by omega
    have h4 : (o.bs.length : Int) < ((o.bs.length + 1 : Nat) : Int) := by omega
    obtain ⟨C, hC⟩ : ∃ C, (bv (o.bs ++ [77]) ++ rest).toArray = C := ⟨_, rfl⟩
    have hq : hp W2 q = some (.cells C 5 (0, 0)) := by rw [← hC]; exact hR2.row
    have hCn : C[o.bs.length]? = some (.int .u8 77) := by
      rw [← hC, List.getElem?_toArray, bv_append, List.append_assoc, List.getElem?_append_right (by simp)]
      simp [bv]
    simp [-Int.natCast_add, go_sem, hw1, h1, h2, h3, h4, hq, hCn, hcap]
  rintro _ W3 ⟨rfl, rfl⟩
  unfold J5_3
  intro _
  simp [go_sem]
  unfold L5_2
  refine loopK (fun s W' => ∃ (k : Nat) (l' : List UInt8), k ≤ o.bs.length ∧ l'.length = o.bs.length ∧ s = (.int .i64 k, ()) ∧ Both w W' d' r F' G' D' R' ∧ hp W' p = some (.cells (opCells o).toArray 48 (0, 0)) ∧
      hp W' q = some (.cells (bv l' ++ (bv [77] ++ rest)).toArray 5 (0, 0)))
    (fun s _ => match s.1 with | .int _ k => o.bs.length - k.toNat | _ => 0) ⟨0, o.bs, by omega, rfl, rfl, hR2.both, hR2.op, by rw [hR2.row, bv_append, List.append_assoc]⟩ ?_
  have qf := hR2.qf
  have pq := hR2.pq
  have q0 := hR2.q0
  clear hR2 hP2
  rintro ⟨_, _⟩ W' ⟨k, l', hk, hl', ⟨⟩, hB, hp1, hq1⟩ KN2 hKN2 _
  have hw1 : IntKind.i64.wrap ((k : Int) + 1) = ((k + 1 : Nat) : Int) := by rw [IntKind.wrap_i64]; omega
  by_cases hlt : k < o.bs.length
  · obtain ⟨C, hC⟩ : ∃ C, (bv l' ++ (bv [77] ++ rest)).toArray = C := ⟨_, rfl⟩
    have hh' : hp W' q = some (.cells C 5 (0, 0)) := by rw [← hC]; exact hq1
    have hCi : C[k]? = some (.int .u8 (l'[k]'(by omega)).toNat) := by
      rw [← hC, List.getElem?_toArray, List.getElem?_append_left (by simp; omega), bv, List.getElem?_map, List.getElem?_eq_getElem (by omega)]
      rfl
    simp [-Int.natCast_add, go_sem, hlt, hh', hCi, hw1]
    have mS : Mod (fun b => b = q) W' (W'.setCell ⟨q, k, none⟩ (.int .u8 (((l'[k]'(by omega)).toNat + 1 : Int) % 256))) := (Mod.refl (fun b => b = q) W').setCell (b := q) (.inl (by simp)) _ _
    refine hKN2 _ _ ⟨k + 1, l'.set k (l'[k]'(by omega) + 1), by omega, by simp [hl'], rfl, hB.on mS (fun b hb e => qf.1 (e ▸ hb)) (fun b hb e => qf.2 (e ▸ hb)) (fun b hb => by omega), mS.keep hp1 (fun e => pq e), ?_⟩ (by simp; omega)
    simp [go_sem, hh']
    rw [← hC]
    apply Array.ext'
    rw [Array.toList_setIfInBounds]
    show (bv l' ++ (bv [77] ++ rest)).set k _ = bv _ ++ (bv [77] ++ rest)
    rw [List.set_append_left _ _ (by simp; omega), u8_succ, bv_set]
  · have hkl : k = o.bs.length := by omega
    subst hkl
    have hP3 := hop _ hp1
    obtain ⟨N, hN⟩ : ∃ N, o.bs.length / 128 = N := ⟨_, rfl⟩
    have hdv : IntKind.i64.wrap ((o.bs.length : Int) / 128) = (N : Int) := by rw [IntKind.wrap_i64]; omega
    simp [go_sem, hP3, hdv]
    refine JoinW.at (fun s W4 => Mod (fun _ => False) W' W4 ∧ s = (.bool false, ())) ?_ ?_
    · obtain ⟨sL, sW, g1, g2, g3, g4, g5, g6, g7⟩ := hB.ref.add
      obtain ⟨wa, wc, rfl, -⟩ := g3.isSl
      simp [go_sem, dptr, g1]
      refine ca_down (hB.disk.mod ((Mod.refl (fun _ => False) W').drew) fun _ _ h => h) ?_
      simp [go_sem, dptr, g1, hB.sim.off]
      refine ca_waits (hB.disk.mod ((Mod.refl (fun _ => False) W').drew) fun _ _ h => h) ?_
      simp [go_sem, dptr, g1, hB.sim.waits]
      by_cases hn0 : 0 < N
      · by_cases hn1 : (N : Int) ≤ 40
        · simp [go_sem, hn0, hn1, hP3]
          refine ca_same (hB.disk.mod ((Mod.refl (fun _ => False) W').drew) fun _ _ h => h) (hB.ref.mod ((Mod.refl (fun _ => False) W').drew) fun _ _ h => h) hB.sim (by omega) (by omega) fun W5 m5 => ?_
          simp [go_sem]
          exact ((Mod.refl _ W').drew).trans m5
        · simp [go_sem, hn0, hn1]
          exact (Mod.refl _ W').drew
      · simp [go_sem, hn0]
        exact (Mod.refl _ W').drew
    rintro _ W4 ⟨m4, rfl⟩
    unfold J5_1
    intro _
    have hw2 : IntKind.i64.wrap ((i : Int) + 1) = ((i + 1 : Nat) : Int) := by rw [IntKind.wrap_i64]; omega
    simp [-Int.natCast_add, go_sem, hw2]
    exact hKN _ _ _ _ _ _ (hB.on m4 (fun _ _ h => h) (fun _ _ h => h) (fun _ h => h.elim)) hb3 hb4
end Go.Proofs

namespace Go.Proofs
open Go Go.Vc

set_option maxRecDepth 10000 in
theorem ca_plays {w : World} {K : Kont} {l : List OpM} {a0 : Value} (h : Rd w 5 a0 l.length (l.flatMap opCells)) (hok : ∀ o ∈ l, OpOk w o) (hK : ∀ w', Mod (fun _ => False) w w' → K (.bool true) w') :
    Ca Try.prog 5 #[a0] w K := by
  obtain ⟨la, lc, rfl⟩ := h.isSl
  apply ca5
  unfold F5
  refine ca_tame h hok ?_
  simp [go_sem]
  by_cases ht' : (100 : Int) < l.length ∨ (131072 : Int) < tot l
  · rw [if_pos ht']
    exact ca_known hK
  · rw [if_neg ht']
    have ht : (l.length : Int) ≤ 100 ∧ (tot l : Int) ≤ 131072 := by omega
    refine ca_new fun w1 d1 m1 => ?_
    have h2 : hp (w1.alloc (.cells #[.slice none 0 0, .slice none 0 0, .int .i64 0, .bool false, .bool false] 46)) w1.heap.size = some (.cells #[.slice none 0 0, .slice none 0 0, .int .i64 0, .bool false, .bool false] 46 (0, 0)) := by simp [go_sem]
    have m2 : Mod (fun _ => False) w1 (w1.alloc (.cells #[.slice none 0 0, .slice none 0 0, .int .i64 0, .bool false, .bool false] 46)) := (Mod.refl _ w1).alloc _
    generalize (w1.alloc (.cells #[.slice none 0 0, .slice none 0 0, .int .i64 0, .bool false, .bool false] 46)) = w2 at h2 m2
    have hd1 := d1.lt rfl
    have l1 := m1.size
    have B0 : Both w w2 w.heap.size w1.heap.size (fun b => b = w.heap.size) (fun b => b = w1.heap.size) DM.new DM.new :=
      ⟨d1.mod m2 fun _ _ h => h, ref_new h2, Sim.new, m1.trans m2, fun b hb => by omega, fun b hb => by omega, fun b hb hg => by omega⟩
    generalize w1.heap.size = r at B0
    clear h2 m2 m1 d1 hd1 l1
    unfold L5_6
    refine loopK (fun s W => ∃ (i : Nat) (x : Value) (d : Nat) (F G : Nat → Prop) (D R : DM), i ≤ l.length ∧ s = (x, dptr d, .int .i64 i, ()) ∧ Both w W d r F G D R ∧ D.waits.length ≤ tot (l.take i) ∧ R.lasts.length + R.waits.length ≤ tot (l.take i) + i)
      (fun s _ => match s.2.2.1 with | .int _ i => l.length - i.toNat | _ => 0) ⟨0, _, _, _, _, _, _, by omega, rfl, B0, by simp [DM.new], by simp [DM.new]⟩ ?_
    clear B0
    rintro ⟨_, _⟩ W ⟨i, x, d, F, G, D, R, hi, ⟨⟩, hB, hb1, hb2⟩ KN hKN _
    by_cases hlt : i < l.length
    · obtain ⟨b, off, cap, C, e, fz, hv, hC, c0, c1, c2, c3, c4⟩ := op_cells h hlt
      have ho := hok _ (List.getElem_mem hlt)
      have hC' : hp W b = some (.cells C e fz) := hB.mod.keep hC id
      have htot := tot_le l (i + 1)
      rw [tot_take l i hlt] at htot
      obtain ⟨o, hoo⟩ : ∃ o, l[i] = o := ⟨_, rfl⟩
      rw [hoo] at c0 c1 c2 c3 c4 ho htot
      obtain ⟨ba, bc, hoB⟩ := ho.rd.isSl
      rw [hoB] at c4
      rw [hv]
      simp [go_sem, hlt, hC', c0, c1, c2, c3, c4]
      have hP : hp (W.alloc (.cells #[.int .i64 o.kind, .int .i64 o.file, .int .i64 o.at_, .int .i64 o.n, .slice ba o.bs.length bc] 48)) W.heap.size = some (.cells (opCells o).toArray 48 (0, 0)) := by simp [go_sem, opCells, hoB]
      have mP : Mod (fun _ => False) W (W.alloc (.cells #[.int .i64 o.kind, .int .i64 o.file, .int .i64 o.at_, .int .i64 o.n, .slice ba o.bs.length bc] 48)) := (Mod.refl _ W).alloc _
      generalize (W.alloc (.cells #[.int .i64 o.kind, .int .i64 o.file, .int .i64 o.at_, .int .i64 o.n, .slice ba o.bs.length bc] 48)) = W1 at hP mP
      obtain ⟨p, hpp⟩ : ∃ p, W.heap.size = p := ⟨_, rfl⟩
      rw [hpp] at hP ⊢
      have lw := hB.mod.size
      have pF : ¬ F p ∧ ¬ G p := ⟨fun h => by have := hB.disk.lt h; omega, fun h => by have := hB.ref.lt h; omega⟩
      refine joinK (fun s W2 => ∃ q cap2 rest, s = (.slice (some ⟨q, 0, none⟩) o.bs.length cap2, ()) ∧ Rnd w W2 o p q cap2 rest d r F G D R) (fun JJ hJJ => ?_) ?_
      · have ld : ∀ W2, hp W2 p = some (.cells (opCells o).toArray 48 (0, 0)) → (opCells o).toArray[4]? = some (.slice ba o.bs.length bc) := fun _ _ => by simp [opCells, hoB]
        have ld := ld W1 hP
        have hsm := ho.small
        have rB : Rd W1 1 (.slice ba o.bs.length bc) o.bs.length (bv o.bs) := by
          have := ho.rd
          rw [hoB] at this
          exact (this.mod hB.mod fun _ _ h => h).mod mP fun _ _ h => h
        have sW : D.waits.length + R.lasts.length < 4398046511104 := by omega
        have plW : ∀ b, W1.heap.size ≤ b → W.heap.size ≤ b ∧ b ≠ p := fun b hb => by have := lt_of_heap hP; have := mP.size; omega
        have fin : ∀ v40 w41, Mod (fun _ => False) W1 w41 → Own w41 5 1 v40 (0 + o.bs.length + 1) (bv [] ++ bv o.bs ++ bv [77]) → (∀ b, inSl v40 b → W1.heap.size ≤ b) →
            ∃ v, (∀ w, Sem.run Try.prog (Instr.sliceAt 23 v40 none (some (.int .i64 (o.bs.length : Int))) none) w = .ok v w) ∧ JJ (v, ()) w41 := by
          intro v40 w41 m41 o41 n41
          obtain ⟨q, cap2, rest, rfl, hR⟩ := in_made hB (mP.trans m41) (m41.keep hP id) (by omega) pF o41 (fun b hb => plW b (n41 b hb)) sW
          have hc1 := hR.cap1
          have hc2 : o.bs.length ≤ cap2 := by omega
          refine ⟨.slice (some ⟨q, 0, none⟩) o.bs.length cap2, fun w => ?_, hJJ _ _ ⟨q, cap2, rest, rfl, hR⟩⟩
          simp [go_sem, hc2]
        refine ⟨lit0 fun va wa oa ma na => ?_, lit1 (u := 77) fun vb wb ob mb nb => ?_⟩
        · have ma : Mod (fun _ => False) W1 wa := ((Mod.refl _ W1).drew).trans ma
          have pa : hp wa p = some (.cells (opCells o).toArray 48 (0, 0)) := ma.keep hP id
          refine ⟨by simp only [pa, ld], ?_, ?_⟩
          · refine rx_append Try.underlying23 Try.underlying23 (elemT_of uT1) oa (rB.mod ma fun _ _ h => h) (bv_one _) (by omega) fun vc wc oc mc nc => ?_
            have nc' : ∀ b, inSl vc b → W1.heap.size ≤ b := fun b hb => by
              rcases nc b hb with h | h
              · exact na b h
              · have := ma.size; omega
            have mc' : Mod (fun _ => False) W1 wc := ma.on mc fun b hb => .inr (na b hb)
            have pc : hp wc p = some (.cells (opCells o).toArray 48 (0, 0)) := mc'.keep hP id
            refine ⟨by simp only [pc, ld], ?_⟩
            refine lit1 (u := 77) fun vd wd od md nd => ?_
            have pd : hp wd p = some (.cells (opCells o).toArray 48 (0, 0)) := md.keep pc id
            refine ⟨by simp only [pd, ld], ?_⟩
            refine rx_append Try.underlying23 Try.underlying23 (elemT_of uT1) (oc.mod md fun _ _ h => h) od.rd (bv_one _) (by omega) fun ve we oe me ne => ?_
            have me' : Mod (fun _ => False) W1 we := (mc'.trans md).on me fun b hb => .inr (nc' b hb)
            have pe : hp we p = some (.cells (opCells o).toArray 48 (0, 0)) := me'.keep hP id
            refine ⟨by simp only [pe, ld], ?_⟩
            exact fin ve we me' oe fun b hb => by
              rcases ne b hb with h | h
              · exact nc' b h
              · have := (mc'.trans md).size; omega
          · refine lit1 (u := 77) fun vd wd od md nd => ?_
            have md' : Mod (fun _ => False) W1 wd := ma.trans md
            have pd : hp wd p = some (.cells (opCells o).toArray 48 (0, 0)) := md'.keep hP id
            refine ⟨by simp only [pd, ld], ?_⟩
            refine rx_append Try.underlying23 Try.underlying23 (elemT_of uT1) (oa.mod md fun _ _ h => h) (rB.mod md' fun _ _ h => h) (bv_one _) (by omega) fun vc wc oc mc nc => ?_
            have ladd := ma.size
            have ladd' := md'.size
            have nc' : ∀ b, inSl vc b → W1.heap.size ≤ b := fun b hb => by
              rcases nc b hb with h | h
              · exact na b h
              · omega
            have mc' : Mod (fun _ => False) W1 wc := md'.on mc fun b hb => .inr (na b hb)
            have pc : hp wc p = some (.cells (opCells o).toArray 48 (0, 0)) := mc'.keep hP id
            refine ⟨by simp only [pc, ld], ?_⟩
            have hdis : ∀ b, inSl vd b → ¬ inSl va b := fun b h1 h2 => by
              have := oa.lt h2; have := nd b h1; omega
            refine rx_append Try.underlying23 Try.underlying23 (elemT_of uT1) oc (od.mod mc hdis).rd (bv_one _) (by omega) fun ve we oe me ne => ?_
            have me' : Mod (fun _ => False) W1 we := mc'.on me fun b hb => .inr (nc' b hb)
            have pe : hp we p = some (.cells (opCells o).toArray 48 (0, 0)) := me'.keep hP id
            refine ⟨by simp only [pe, ld], ?_⟩
            exact fin ve we me' oe fun b hb => by
              rcases ne b hb with h | h
              · exact nc' b h
              · have := mc'.size; omega
        · have mb : Mod (fun _ => False) W1 wb := ((Mod.refl _ W1).drew).trans mb
          have pb : hp wb p = some (.cells (opCells o).toArray 48 (0, 0)) := mb.keep hP id
          refine ⟨by simp only [pb, ld], ?_⟩
          refine lit0 fun va wa oa ma na => ?_
          have ma' : Mod (fun _ => False) W1 wa := mb.trans ma
          have pa : hp wa p = some (.cells (opCells o).toArray 48 (0, 0)) := ma'.keep hP id
          refine ⟨by simp only [pa, ld], ?_⟩
          refine rx_append Try.underlying23 Try.underlying23 (elemT_of uT1) oa (rB.mod ma' fun _ _ h => h) (bv_one _) (by omega) fun vc wc oc mc nc => ?_
          have lb := mb.size
          have la := ma'.size
          have nc' : ∀ b, inSl vc b → W1.heap.size ≤ b := fun b hb => by
            rcases nc b hb with h | h
            · have := na b h; omega
            · omega
          have mc' : Mod (fun _ => False) W1 wc := ma'.on mc fun b hb => .inr (by have := na b hb; omega)
          have pc : hp wc p = some (.cells (opCells o).toArray 48 (0, 0)) := mc'.keep hP id
          refine ⟨by simp only [pc, ld], ?_⟩
          have hdis : ∀ b, inSl vb b → ¬ inSl va b := fun b h1 h2 => by
            have := na b h2; have := ob.lt h1; omega
          refine rx_append Try.underlying23 Try.underlying23 (elemT_of uT1) oc ((ob.mod ma fun _ _ h => h).mod mc hdis).rd (bv_one _) (by omega) fun ve we oe me ne => ?_
          have me' : Mod (fun _ => False) W1 we := mc'.on me fun b hb => .inr (nc' b hb)
          have pe : hp we p = some (.cells (opCells o).toArray 48 (0, 0)) := me'.keep hP id
          refine ⟨by simp only [pe, ld], ?_⟩
          exact fin ve we me' oe fun b hb => by
            rcases ne b hb with h | h
            · exact nc' b h
            · have := mc'.size; omega
      rintro _ W2 ⟨q, cap2, rest, rfl, hR⟩
      clear hP mP hpp pF lw
      refine plays_round (i := i) (T := tot (l.take i)) hR ho hb1 hb2 (by omega) (by omega) fun W' d' F' G' D' R' hB' h1 h2 => hKN _ _ ⟨i + 1, _, d', F', G', D', R', hlt, rfl, hB', ?_, ?_⟩ (by simp; omega)
      · rw [tot_take l i hlt, hoo]; exact h1
      · rw [tot_take l i hlt, hoo]; exact h2
    · have hil : i = l.length := by omega
      subst hil
      simp [go_sem]
      exact ca_known fun w' m' => hK _ (hB.mod.trans m')
end Go.Proofs
