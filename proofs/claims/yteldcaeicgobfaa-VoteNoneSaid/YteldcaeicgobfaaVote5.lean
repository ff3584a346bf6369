/-
  The contracts of the vote's write and clean.
  Conditions: the memory holds the vote and its disk.
-/
import Derived.Test.YteldcaeicgobfaaVote4
import Derived.Test.YteldcaeicgobfaaPlays3
set_option linter.unusedSimpArgs false
set_option linter.unusedVariables false
namespace Go.Proofs
open Go Go.Vc

/-- Sectors, one after the other, as long as the power stays. -/
def DM.writes (D : DM) (f : Int) : List (Int × Sec) → Int × DM
  | [] => (0, D)
  | (a, s) :: r => if (D.write f a s).1 = 0 then DM.writes (D.write f a s).2 f r else D.write f a s
def secI (p : List UInt8) (i : Nat) : Sec := (p.drop (128 * i)).take 128
theorem secI_length {p : List UInt8} (hp : p.length = 384) {i : Nat} (hi : i < 3) : (secI p i).length = 128 := by simp [secI]; omega
def placeW (at_ : Nat) (p : List UInt8) : List (Int × Sec) := (List.range 3).map fun i : Nat => ((3 * (at_ : Int) + (i : Int)), secI p i)
def cleanFrom (at_ : Nat) (p : List UInt8) (i : Nat) : List (Int × Sec) := ((List.range 3).drop i).filterMap fun i : Nat => if secI p i = zsec then none else some ((3 * (at_ : Int) + (i : Int)), zsec)
theorem placeW_drop (at_ : Nat) (p : List UInt8) (i : Nat) (hi : i < 3) : (placeW at_ p).drop i = ((3 * (at_ : Int) + (i : Int)), secI p i) :: (placeW at_ p).drop (i + 1) := by
  rw [List.drop_eq_getElem_cons (by simp [placeW]; exact hi)]
  simp [placeW]
theorem cleanFrom_yes (at_ : Nat) (p : List UInt8) (i : Nat) (hi : i < 3) (h : secI p i = zsec) : cleanFrom at_ p i = cleanFrom at_ p (i + 1) := by
  unfold cleanFrom
  rw [List.drop_eq_getElem_cons (by simpa using hi)]
  simp [h]
theorem cleanFrom_no (at_ : Nat) (p : List UInt8) (i : Nat) (hi : i < 3) (h : secI p i ≠ zsec) : cleanFrom at_ p i = ((3 * (at_ : Int) + (i : Int)), zsec) :: cleanFrom at_ p (i + 1) := by
  unfold cleanFrom
  rw [List.drop_eq_getElem_cons (by simpa using hi)]
  simp [h]

set_option maxRecDepth 10000 in
theorem ca_vwrite {w : World} {K : Kont} {v d : Nat} {F : Nat → Prop} {D : DM} {file : Int} {m : MarkM} {n at_ k : Nat} {p : List UInt8} (hv : VoteAt w v d file m n at_) (hvF : ¬ F v) (h : DiskR w d F D) (hD : D.waits.length < 274877906944) (hp384 : p.length = 384) (hk : k ≤ 1)
    (hK : ∀ w' F', DiskR w' d F' (D.writes file (placeW k p)).2 → Stp F w w' F' → K (.int .i64 (D.writes file (placeW k p)).1) w') : Ca Try.prog 68 #[dptr v, .int .i64 (k : Int), .agg (bv p).toArray] w K := by
  apply ca68
  unfold F68
  refine rv_box ?_
  have mA : Mod (fun _ => False) w (w.alloc (.cells (bv p).toArray 127)) := (Mod.refl _ w).alloc _
  have hA : hp (w.alloc (.cells (bv p).toArray 127)) w.heap.size = some (.cells (bv p).toArray 127 (0, 0)) := by simp only [hp_alloc, if_pos]
  generalize (w.alloc (.cells (bv p).toArray 127)) = W0 at mA hA
  obtain ⟨q, hq⟩ : ∃ q, w.heap.size = q := ⟨_, rfl⟩
  rw [hq] at hA ⊢
  unfold L68_0
  refine loopK (fun s W => ∃ (i : Nat) (x : Value) (Di : DM) (F' : Nat → Prop), i ≤ 3 ∧ s = (x, .int .i64 i, ()) ∧ DiskR W d F' Di ∧ Stp F w W F' ∧ D.writes file (placeW k p) = Di.writes file ((placeW k p).drop i) ∧ Di.waits.length ≤ D.waits.length + 128 * i ∧ ¬ F' q ∧ ¬ F' v ∧
      hp W q = some (.cells (bv p).toArray 127 (0, 0)) ∧ VoteAt W v d file m n at_)
    (fun s _ => match s.2.1 with | .int _ i => 3 - i.toNat | _ => 0) ⟨0, _, D, F, by omega, rfl, h.mod mA fun _ _ h => h, ⟨mA.mono fun _ _ h => h.elim, fun b hb => .inl hb⟩, rfl, by omega, fun hb => by have := h.lt hb; omega, hvF, hA, mA.keep hv id⟩ ?_
  rintro ⟨_, _⟩ W ⟨i, x, Di, F', hi, ⟨⟩, dW, sW, eW, lW, qF, vF, hQ, hV⟩ KN hKN _
  have hw1 : IntKind.i64.wrap ((i : Int) + 1) = ((i + 1 : Nat) : Int) := by rw [IntKind.wrap_i64]; omega
  by_cases hlt : i < 3
  · have hlt' : (i : Int) < 3 := by omega
    have hw2 : IntKind.i64.wrap (3 * (k : Int)) = 3 * (k : Int) := by rw [IntKind.wrap_i64]; omega
    have hw3 : IntKind.i64.wrap (3 * (k : Int) + (i : Int)) = 3 * (k : Int) + i := by rw [IntKind.wrap_i64]; omega
    have hVd := hV
    unfold VoteAt dptr at hVd
    simp [-Int.natCast_add, go_sem, dptr, hlt', hlt, hVd, hw2, hw3]
    have hsl := secI_length hp384 hlt
    refine ca_write (n := 128) (bs := secI p i) (dW.mod ((Mod.refl (fun _ => False) W).drew) fun _ _ h => h) ?_ (fun b hb => ?_) (by rw [hsl]; decide) (by omega) fun W2 F2 d2 s2 => ?_
    · have := rd_sub (W := W.drew) hQ (i * 128) 128 128 (by omega) (by omega)
      rw [Nat.mul_comm i 128] at this ⊢
      exact this
    · rw [inRd_at hb]
      exact ⟨qF, lt_of_heap hQ⟩
    have s2' : Stp F' W W2 F2 := ⟨((Mod.refl _ W).drew).trans s2.mod, s2.sub⟩
    rw [placeW_drop k p i hlt] at eW
    simp only [DM.writes] at eW
    by_cases he : (Di.write file (3 * (k : Int) + (i : Int)) (secI p i)).1 = 0
    · rw [if_pos he] at eW
      simp [-Int.natCast_add, go_sem, he, hw1]
      have hl := (write_len Di file (3 * (k : Int) + (i : Int)) (secI p i)).1
      have hno : ∀ b, b < W.heap.size → ¬ F' b → ¬ F2 b := fun b hb hf h => by
        rcases s2.sub b h with h | h
        · exact hf h
        · rw [size_drew] at h; omega
      exact hKN _ _ ⟨i + 1, _, _, F2, hlt, rfl, d2, sW.trans s2', eW, by omega, hno q (lt_of_heap hQ) qF, hno v (lt_of_heap hV) vF, s2'.mod.keep hQ qF, s2'.mod.keep hV vF⟩ (by simp; omega)
    · rw [if_neg he] at eW
      rw [eW] at hK
      simp [go_sem, he]
      exact hK _ F2 d2 (sW.trans s2')
  · have : i = 3 := by omega
    subst this
    have hnil : (placeW k p).drop 3 = [] := List.drop_of_length_le (by simp [placeW])
    rw [hnil] at eW
    have eW' : D.writes file (placeW k p) = (0, Di) := eW
    rw [eW'] at hK
    simp [go_sem]
    exact hK _ F' dW sW
end Go.Proofs
