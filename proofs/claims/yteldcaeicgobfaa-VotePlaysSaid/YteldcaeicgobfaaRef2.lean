/-
  The contracts of the document's disk: find, Read.
  Conditions: the memory holds it.
-/
import Derived.Test.YteldcaeicgobfaaRef1
import Derived.Test.YteldcaeicgobfaaSync1
set_option linter.unusedSimpArgs false
set_option linter.unusedVariables false
namespace Go.Proofs
open Go Go.Vc

theorem lk_putL_or (ws : List (Pl × Sec)) : ∀ (L : List (Pl × Sec)) (k : Pl), lk (putL L ws) k = (lk (putL [] ws) k).or (lk L k) := by
  induction ws with
  | nil => intro L k; rfl
  | cons p ws ih =>
    intro L k
    show lk (putL (put L p.1 p.2) ws) k = (lk (putL (put [] p.1 p.2) ws) k).or (lk L k)
    rw [ih, ih (put [] p.1 p.2), lk_put, lk_put]
    cases lk (putL [] ws) k with
    | some s => rfl
    | none =>
      simp only [Option.none_or]
      split <;> rfl
theorem lk_at_last (l : List (Pl × Sec)) (i : Nat) (hi : i < l.length) (h : ∀ j (hj : j < l.length), i < j → l[j].1 ≠ l[i].1) : lk (putL [] l) l[i].1 = some l[i].2 := by
  have e : putL [] l = putL (putL [] (l.take (i + 1))) (l.drop (i + 1)) := by rw [putL_append, List.take_append_drop]
  rw [e, lk_putL, putL_take _ _ _ hi, lk_put, if_pos rfl]
  intro p hp
  obtain ⟨j, hj, rfl⟩ := List.getElem_of_mem hp
  rw [List.getElem_drop]
  simp only [List.length_drop] at hj
  exact h _ (by omega) (by omega)
theorem lk_none (l : List (Pl × Sec)) (k : Pl) (h : ∀ j (hj : j < l.length), l[j].1 ≠ k) : lk (putL [] l) k = none := by
  rw [lk_putL]
  · rfl
  · intro p hp
    obtain ⟨j, hj, rfl⟩ := List.getElem_of_mem hp
    exact h j hj

theorem cellsP_len (l : List (Pl × Sec)) : ∀ x ∈ l, (cellsP x).length = 3 := fun _ _ => rfl

/-- What find answers. -/
def findV (l : List (Pl × Sec)) (k : Pl) : Value × Bool :=
  match lk (putL [] l) k with
  | some s => (.string (strOf s), true)
  | none => (.string ⟨#[]⟩, false)

set_option maxRecDepth 10000 in
theorem ca_find {w : World} {sL : Value} {l : List (Pl × Sec)} {f a : Int} {K : Kont} (h : Own w 122 3 sL l.length (l.flatMap cellsP)) (hlen : l.length < 4611686018427387904)
    (hK : K (.tuple #[(findV l (f, a)).1, .bool (findV l (f, a)).2]) w) : Ca Try.prog 83 #[sL, .int .i64 f, .int .i64 a] w K := by
  obtain ⟨sa, sc, rfl, hsc⟩ := h.isSl
  apply ca83
  unfold F83
  have hw0 : IntKind.i64.wrap ((l.length : Int) - 1) = (l.length : Int) - 1 := by rw [IntKind.wrap_i64]; omega
  simp [go_sem, hw0]
  unfold L83_1
  refine loopW (fun s W => W = w ∧ ∃ (i : Int) (x y : Value), -1 ≤ i ∧ i < l.length ∧ s = (x, y, .int .i64 i, ()) ∧ ∀ (j : Nat) (hj : j < l.length), i < j → l[j].1 ≠ (f, a))
    (fun s _ => match s.2.2.1 with | .int _ i => (i + 1).toNat | _ => 0) ⟨rfl, _, _, _, by omega, by omega, rfl, fun j hj hij => by omega⟩ ?_
  rintro ⟨_, _⟩ W ⟨rfl, i, x, y, hi0, hi1, ⟨⟩, hno⟩ _
  by_cases hge : 0 ≤ i
  · obtain ⟨i, rfl⟩ : ∃ k : Nat, i = k := ⟨i.toNat, by omega⟩
    have hlt : i < l.length := by omega
    obtain ⟨b, cap, hsl, hAt⟩ := Own.elem h hlt
    obtain ⟨rfl, -, rfl⟩ : sa = some ⟨b, 0, none⟩ ∧ True ∧ sc = cap := by injection hsl with e1 e2 e3; exact ⟨e1, trivial, e3⟩
    rw [flat_get cellsP 3 _ _ (cellsP_len l) hlt] at hAt
    obtain ⟨C, e, fz, hC, hCg⟩ := hAt.get
    have hC0 : C[i * 3]? = some (.int .i64 l[i].1.1) := hCg 0 _ rfl
    have hC1 : C[i * 3 + 1]? = some (.int .i64 l[i].1.2) := hCg 1 _ rfl
    have hC2 : C[i * 3 + 2]? = some (.string (strOf l[i].2)) := hCg 2 _ rfl
    have hw1 : IntKind.i64.wrap ((i : Int) - 1) = (i : Int) - 1 := by rw [IntKind.wrap_i64]; omega
    simp [go_sem, hge]
    refine JoinW.at (fun s W' => s = (.bool (decide (l[i].1 = (f, a))), ()) ∧ W' = W) ?_ ?_
    · simp [go_sem, hlt, hC, hC0, hC1]
      by_cases e1 : l[i].1.1 = f
      · have e3 : (l[i].1 = (f, a)) = (l[i].1.2 = a) := by
          rw [← e1]; simp [Prod.ext_iff]
        simp [e1, e3, go_sem, hlt, hC, hC1]
        rw [Bool.eq_iff_iff]
        simp
      · have e3 : ¬ l[i].1 = (f, a) := fun e => e1 (by rw [e])
        simp [e1, e3]
    rintro _ W' ⟨rfl, rfl⟩
    unfold J83_0
    intro _
    by_cases e : l[i].1 = (f, a)
    · have hfind : findV l (f, a) = (.string (strOf l[i].2), true) := by
        unfold findV
        rw [← e, lk_at_last l i hlt fun j hj hij => by rw [e]; exact hno j hj (by omega)]
      rw [hfind] at hK
      simp [go_sem, e, hlt, hC, hC2]
      exact hK
    · simp [go_sem, e, hw1]
      refine ⟨(i : Int) - 1, by omega, by omega, rfl, fun j hj hij => ?_⟩
      by_cases hji : j = i
      · subst hji; exact e
      · exact hno j hj (by omega)
  · have hfind : findV l (f, a) = (.string ⟨#[]⟩, false) := by
      unfold findV
      rw [lk_none l (f, a) fun j hj => hno j hj (by omega)]
    rw [hfind] at hK
    simp [go_sem, hge]
    exact hK

/-- A sector, as the document has it. -/
def rsec (R : DM) (k : Pl) : Sec := ((lk (putL [] R.waits) k).or (lk (putL [] R.lasts) k)).getD zsec
def rreadB (R : DM) (f a : Int) (n : Nat) : List UInt8 := (List.range n).flatMap fun j : Nat => rsec R (f, a + (j : Int))
theorem rreadB_succ (R : DM) (f a : Int) (n : Nat) : rreadB R f a (n + 1) = rreadB R f a n ++ rsec R (f, a + (n : Int)) := by simp [rreadB, List.range_succ]

theorem uS8 : elemOk Try.prog 5 1 1 = true := by kernel_rfl
theorem strOf_def (l : List UInt8) : (⟨l.toArray⟩ : ByteArray) = strOf l := rfl

set_option maxRecDepth 10000 in
theorem ca_rread {w : World} {r : Nat} {F : Nat → Prop} {R : DM} {K : Kont} {f a n : Int} (h : RefQ w r F R) (hlens : (∀ p ∈ R.lasts, p.2.length = 128) ∧ ∀ p ∈ R.waits, p.2.length = 128) (hn1 : R.waits.length < 4611686018427387904) (hn2 : R.lasts.length < 4611686018427387904)
    (hK1 : R.off = true → K (.tuple #[.slice none 0 0, .int .i64 180]) w)
    (hK2 : R.off = false → mayB f a n = false → K (.tuple #[.slice none 0 0, .int .i64 2]) w)
    (hK3 : R.off = false → mayB f a n = true → ∀ w' v, Own w' 5 1 v (n.toNat * 128) (bv (rreadB R f a n.toNat)) → Mod (fun _ => False) w w' → (∀ b, inSl v b → w.heap.size ≤ b) → K (.tuple #[v, .int .i64 0]) w') :
    Ca Try.prog 63 #[dptr r, .int .i64 f, .int .i64 a, .int .i64 n] w K := by
  have h0 := h
  obtain ⟨⟨sL, sW, h1, h2, h3, h4, h5, h6, h7⟩, hle⟩ := h
  apply ca63
  unfold F63
  simp [go_sem, dptr, hp_of h1]
  cases ho : R.off
  · simp
    refine ca_rmay ?_
    cases hm : mayB f a n
    · simp [go_sem]
      exact hK2 ho hm
    · simp [go_sem]
      have hmay := hm
      simp only [mayB, decide_eq_true_eq] at hmay
      obtain ⟨c1, c2, c3, c4, c5, c6⟩ := hmay
      obtain ⟨N, rfl⟩ : ∃ N : Nat, n = N := ⟨n.toNat, by omega⟩
      unfold L63_2
      refine loopK (fun s W => ∃ (i : Nat) (v : Value), i ≤ N ∧ s = (v, .int .i64 i, ()) ∧ Mod (fun _ => False) w W ∧ Own W 5 1 v (i * 128) (bv (rreadB R f a i)) ∧ ∀ b, inSl v b → w.heap.size ≤ b)
        (fun s _ => match s.2.1 with | .int _ i => N - i.toNat | _ => 0) ⟨0, _, by omega, rfl, Mod.refl _ _, Own.nil .., fun b hb => by cases hb⟩ ?_
      rintro ⟨_, _⟩ W ⟨i, v, hi, ⟨⟩, mW, oW, fW⟩ KN hKN _
      have hd := mW.keep h1 id
      have hw1 : IntKind.i64.wrap ((i : Int) + 1) = ((i + 1 : Nat) : Int) := by rw [IntKind.wrap_i64]; omega
      have hw2 : IntKind.i64.wrap (a + (i : Int)) = a + i := by rw [IntKind.wrap_i64]; omega
      by_cases hlt : i < N
      · simp [-Int.natCast_add, go_sem, hlt, hp_of hd, hw2]
        refine ca_find (h3.mod mW fun _ _ h => h) hn1 ?_
        simp [-Int.natCast_add, go_sem]
        have hsl : (rsec R (f, a + (i : Int))).length = 128 := by
          unfold rsec
          cases e1 : lk (putL [] R.waits) (f, a + (i : Int)) with
          | some s => exact putL_len (L := []) (by simp) hlens.2 _ (lk_mem e1)
          | none =>
            cases e2 : lk (putL [] R.lasts) (f, a + (i : Int)) with
            | some s => exact putL_len (L := []) (by simp) hlens.1 _ (lk_mem e2)
            | none => exact zsec_length
        refine JoinW.at (fun s W' => W' = W ∧ ∃ x y, s = (x, .bool y, ()) ∧ (y = true → x = .string (strOf (rsec R (f, a + (i : Int))))) ∧ (y = false → rsec R (f, a + (i : Int)) = zsec)) ?_ ?_
        · cases e1 : lk (putL [] R.waits) (f, a + (i : Int)) with
          | some s =>
            simp [findV, e1, rsec]
          | none =>
            simp [-Int.natCast_add, findV, e1, go_sem, hp_of hd, hw2]
            refine ca_find (h2.mod mW fun _ _ h => h) hn2 ?_
            cases e2 : lk (putL [] R.lasts) (f, a + (i : Int)) <;> simp [go_sem, findV, e1, e2, rsec]
        rintro _ W' ⟨rfl, x, y, rfl, hx, hy⟩
        unfold J63_1
        intro _
        refine JoinW.at (fun s W2 => Mod (fun _ => False) W' W2 ∧ s = (.string (strOf (rsec R (f, a + (i : Int)))), ())) ?_ ?_
        · cases y
          · simp [go_sem]
            refine rx_make Try.underlying23 (elemT_of uT1) (by omega) (by omega) (by omega) uT2 ?_
            have e3 : (madeCells (Value.int .u8 0).cells (Int.toNat 128 * 1)) = (bv zsec).toArray := by
              apply Array.ext'
              rw [show (Value.int .u8 0).cells = #[.int .u8 0] from rfl, toList_madeCells_one, zsec, bv_replicate]
              rfl
            rw [e3, show Int.toNat 128 = 128 from rfl]
            have hA : hp (W'.alloc (.cells (bv zsec).toArray 5)) W'.heap.size = some (.cells (bv zsec).toArray 5 (0, 0)) := by simp [go_sem]
            have mA : Mod (fun _ => False) W' (W'.alloc (.cells (bv zsec).toArray 5)) := (Mod.refl _ W').alloc _
            generalize (W'.alloc (.cells (bv zsec).toArray 5)) = WA at hA mA
            refine rx_toStr (l := zsec) Try.underlying23 Try.underlying5 Try.underlying9 ⟨by simp [zsec_length], .inr ⟨_, _, _, rfl, Nat.le_refl _, ⟨_, _, _, hA, by simp, by simp; exact List.take_of_length_le (by simp)⟩⟩⟩ ?_
            exact ⟨mA, by rw [hy rfl]⟩
          · simp [go_sem]
            exact ⟨Mod.refl _ _, hx rfl⟩
        rintro _ W2 ⟨m2, rfl⟩
        unfold J63_0
        intro _
        refine rx_toBytes Try.underlying9 Try.underlying23 Try.underlying5 fun vb W3 rb m3 n3 => ?_
        rw [hsl] at rb
        refine rx_append Try.underlying23 Try.underlying23 (elemT_of uT1) (oW.mod (m2.trans m3) fun _ _ h => h) rb (bv_one _) (by omega) fun v4 W4 o4 m4 n4 => ?_
        have hl3 := (mW.trans (m2.trans m3)).size
        have ei : i * 128 + 128 = (i + 1) * 128 := by omega
        rw [← bv_append, ← rreadB_succ, ei] at o4
        simp [-Int.natCast_add, go_sem, hw1]
        refine hKN _ _ ⟨i + 1, v4, hlt, rfl, (mW.trans (m2.trans m3)).on m4 (fun b hb => .inr (fW b hb)), o4, fun b hb => ?_⟩ (by simp; omega)
        rcases n4 b hb with h | h
        · exact fW b h
        · omega
      · obtain rfl : i = N := by omega
        simp [go_sem, hlt]
        exact hK3 ho hm _ _ oW mW fW
  · simp
    exact hK1 ho
end Go.Proofs
