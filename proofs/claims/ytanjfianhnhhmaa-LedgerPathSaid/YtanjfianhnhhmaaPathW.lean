/-
  The walk of LedgerPath.
  Conditions: where they ask for any, each theorem names them.
-/
import Derived.Test.YtanjfianhnhhmaaPlayW
set_option linter.unusedVariables false
set_option linter.unusedSimpArgs false
namespace Go.Proofs
open Go Go.Vc

theorem wrap_add1' {i : Nat} (h : i < 1000000) : IntKind.i64.wrap ((i : Int) + 1) = ((i + 1 : Nat) : Int) := by rw [IntKind.wrap_i64]; omega

theorem ca_won {w : World} {v : Value} {L : List (Int × Int)} {n : Int} {K : Kont} (h : Rd w 2 v L.length (L.flatMap cellsVa)) (hl : L.length < 1000000) (hK : K (.int .i64 (wonBy L n)) w) :
    Ca Try.prog 19 #[v, .int .u32 n] w K := by
  obtain ⟨va, vc, rfl⟩ := h.isSl
  apply ca19
  unfold F19
  simp [go_sem]
  refine loopK (fun s W => ∃ (x : Value) (i : Nat), i ≤ L.length ∧ s = (x, .int .i64 i, ()) ∧ W = w ∧ ∀ j (hj : j < i) (hj' : j < L.length), L[j].1 ≠ n)
    (fun s _ => match s.2.1 with | .int _ i => L.length - i.toNat | _ => 0) ⟨_, 0, by omega, rfl, rfl, fun j hj => absurd hj (Nat.not_lt_zero _)⟩ ?_
  rintro ⟨sv, _⟩ W ⟨x, i, hi, ⟨⟩, rfl, hno⟩ KN hKN
  unfold L19_0
  intro _
  by_cases hlt : i < L.length
  · obtain ⟨b, off, cap, hsl, hAt⟩ := Rd.elemR h hlt
    cases hsl
    rw [flat_get cellsVa 2 _ _ (fun _ _ => rfl) hlt] at hAt
    obtain ⟨C, e, fz, hC, hCg⟩ := hAt.get
    have hC0 : C[off + i * 2]? = some (.int .u32 L[i].1) := hCg 0 _ rfl
    have hC1 : C[off + (i * 2 + 1)]? = some (.int .i64 L[i].2) := by have := hCg 1 _ rfl; rwa [Nat.add_assoc] at this
    have hw := wrap_add1' (i := i) (by omega)
    simp [-Int.natCast_add, go_sem, hlt, hC, hC0, hC1]
    by_cases e : L[i].1 = n
    · have : wonBy L n = L[i].2 := by
        unfold wonBy
        have hf : L.find? (fun x => decide (x.1 = n)) = some L[i] := by
          rw [List.find?_eq_some_iff_getElem]
          refine ⟨by simpa using e, i, hlt, rfl, fun j hj => ?_⟩
          simpa using hno j hj (by omega)
        rw [hf]; rfl
      rw [this] at hK
      simp [e]
      exact hK
    · simp [-Int.natCast_add, e, hw]
      refine hKN _ _ ⟨sv, i + 1, by omega, rfl, rfl, fun j hj hj' => ?_⟩ (by simp; omega)
      by_cases hji : j = i
      · subst hji; exact e
      · exact hno j (by omega) hj'
  · obtain rfl : i = L.length := by omega
    have : wonBy L n = 0 := by
      unfold wonBy
      have hf : L.find? (fun x => decide (x.1 = n)) = none := by
        rw [List.find?_eq_none]
        intro x hx
        obtain ⟨j, hj, rfl⟩ := List.getElem_of_mem hx
        simpa using hno j hj hj
      rw [hf]; rfl
    rw [this] at hK
    simp [go_sem]
    exact hK

/-! The plain law. -/
theorem mark_ok0 {S : Led} {c p : Int} {cl : Bool} (h : (S.mark c p cl).1 = 0) : c ≠ 0 ∧ 1 ≤ p ∧ p ≤ MP ∧ (S.mark c p cl).2.1 = (S.holders c).map (fun x => (x.a, x.q * p - x.b)) ∧ (S.mark c p cl).2.2 = S.marked (S.holders c) p cl := by
  unfold Led.mark at h ⊢
  by_cases hc : c = 0 ∨ amongB p 1 MP = false
  · rw [if_pos hc] at h; cases h
  · rw [if_neg hc]
    have hp : 1 ≤ p ∧ p ≤ MP := amongB_iff.1 (by cases h : amongB p 1 MP with | true => rfl | false => exact absurd (.inr h) hc)
    exact ⟨fun e => hc (.inl e), hp.1, hp.2, rfl, rfl⟩
theorem mark_of {S : Led} {c p : Int} (cl : Bool) (hc : c ≠ 0) (hp : 1 ≤ p ∧ p ≤ MP) : (S.mark c p cl).1 = 0 := by
  unfold Led.mark
  rw [if_neg]
  rintro (h | h)
  · exact hc h
  · rw [amongB_iff.2 hp] at h; cases h
theorem path_won {S : Led} (hs : SortP S.held) {c p q : Int} (n : Int) :
    wonBy ((S.holders c).map fun x => (x.a, x.q * p - x.b)) n + wonBy (((S.marked (S.holders c) p false).holders c).map fun x => (x.a, x.q * q - x.b)) n = wonBy ((S.holders c).map fun x => (x.a, x.q * q - x.b)) n := by
  rw [Led.won_pos, Led.won_pos, Led.won_pos, Led.mark_pos hs, if_pos rfl]
  simp only [Po.mark, Bool.false_eq_true, if_false]
  omega
theorem path_pos {S : Led} (hs : SortP S.held) {c p q : Int} (n : Int) :
    ((S.marked (S.holders c) p false).marked ((S.marked (S.holders c) p false).holders c) q false).position c n = (S.marked (S.holders c) q false).position c n := by
  rw [Led.mark_pos (marked_sort hs), Led.mark_pos hs, Led.mark_pos hs, if_pos rfl, if_pos rfl, if_pos rfl]
  rfl
theorem path_again {S : Led} (hs : SortP S.held) {c q : Int} : ∀ x ∈ ((S.marked (S.holders c) q false).holders c).map (fun x => (x.a, x.q * q - x.b)), x.2 = 0 := by
  intro x hx
  obtain ⟨p, hp, rfl⟩ := List.mem_map.1 hx
  obtain ⟨h1, h2⟩ := Led.holders_self (marked_sort hs) hp
  rw [Led.mark_pos hs, if_pos h2] at h1
  simp only [Po.mark, Bool.false_eq_true, if_false] at h1
  rw [← h1]
  simp only
  omega
theorem won_bd {S : Led} (hok : S.Ok) (c p n : Int) (hp : 1 ≤ p ∧ p ≤ MP) : -1100000000000000 ≤ wonBy ((S.holders c).map fun x => (x.a, x.q * p - x.b)) n ∧ wonBy ((S.holders c).map fun x => (x.a, x.q * p - x.b)) n ≤ 1100000000000000 := by
  rw [Led.won_pos]
  obtain ⟨-, -, p4, p5, p6, p7⟩ := hok.position c n
  have hb := mul_bd (x := (S.position c n).q) (y := p) (m := MP) (n := MP) ⟨p4, p5⟩ ⟨by omega, hp.2⟩
  simp only [MP, MF] at *
  omega
end Go.Proofs
