/-
  The program's check of accounts.
  Conditions: where they ask for any, each theorem names them.
-/
import Derived.Test.YtanjfianhnhhmaaFromL
import Derived.Test.YtanjfianhnhhmaaSameW
set_option linter.unusedVariables false
set_option linter.unusedSimpArgs false
namespace Go.Proofs
open Go Go.Vc
attribute [local congr] Ca_cong

theorem rv_ok' {P : Program} {s : Sem Value} {w : World} {K : Kont} {v : Value} {w' : World} (h : s.run P w = .ok v w') (hK : K v w') : rv P s w K := by
  rw [rv_iff]; unfold rvD; rw [h]; exact hK
theorem take_snoc {α : Type} {A : List α} {i : Nat} (hi : i < A.length) : A.take (i + 1) = A.take i ++ [A[i]] := by
  rw [List.take_add_one, List.getElem?_eq_getElem hi]; rfl
theorem takeA_sum {A : List Ac} {i : Nat} (hi : i < A.length) : ((A.take (i + 1)).map (·.cash)).sum = ((A.take i).map (·.cash)).sum + A[i].cash := by
  rw [take_snoc hi, List.map_append, List.sum_append]; simp
theorem PA.sum {A : List Ac} (h : PA A) (hl : A.length ≤ 64) : 0 ≤ (A.map (·.cash)).sum ∧ (A.map (·.cash)).sum ≤ 64000000000000000 := by
  have h1 := sum_bd2 (l := A.map (·.cash)) (B := 1000000000000000) fun x hx => by
    obtain ⟨a, ha, rfl⟩ := List.mem_map.1 hx
    have := amongB_iff'.1 (h.num a ha).2
    simp only [MF] at this; omega
  rw [List.length_map] at h1
  have h0 : 0 ≤ (A.map (·.cash)).sum := by
    clear h1 hl
    have : ∀ x ∈ A.map (·.cash), 0 ≤ x := fun x hx => by
      obtain ⟨a, ha, rfl⟩ := List.mem_map.1 hx
      exact (amongB_iff'.1 (h.num a ha).2).1
    generalize A.map (·.cash) = l at this
    induction l with
    | nil => simp
    | cons x l ih =>
      have h1 := this x List.mem_cons_self
      have h2 := ih fun y hy => this y (List.mem_cons_of_mem _ hy)
      rw [List.sum_cons]; omega
  omega

set_option maxRecDepth 10000 in
set_option maxHeartbeats 1000000 in
theorem ca_people {w : World} {f : Int} {v : Value} {A : List Ac} {K : Kont} (hA : Rd w 4 v A.length (A.flatMap cellsAc)) (hn : A.length < 4294967296)
    (hK : ∀ b w', Mod (fun _ => False) w w' → (b = true ↔ A.length ≤ 64 ∧ amongB f 0 MF = true ∧ PA A ∧ f + (A.map (·.cash)).sum ≤ MF) → K (.bool b) w') :
    Ca Try.prog 53 #[.int .i64 f, v] w K := by
  obtain ⟨va, vc, rfl⟩ := hA.isSl
  apply ca53
  unfold F53
  refine JoinW.at (fun s W => s = (.bool (decide (64 < A.length) || !amongB f 0 MF), ()) ∧ W = w) ?_ ?_
  · by_cases hl : 64 < A.length
    · have hl' : (64 : Int) < (A.length : Int) := by omega
      simp [go_sem, hl, hl']
    · have hl' : ¬ (64 : Int) < (A.length : Int) := by omega
      simp [go_sem, hl, hl']
      refine ca_within ?_
      simp [go_sem, MF]
  rintro _ w' ⟨rfl, rfl⟩
  unfold J53_2
  intro _
  by_cases hbad : (decide (64 < A.length) || !amongB f 0 MF) = true
  · rw [hbad]
    simp only [ifB_bool, if_true]
    refine hK false _ (Mod.refl _ _) ⟨fun h => (by cases h), fun h => ?_⟩
    obtain ⟨h1, h2, -, -⟩ := h
    rw [h2] at hbad
    simp at hbad; omega
  rw [Bool.eq_false_iff.2 hbad]
  simp only [ifB_bool, Bool.false_eq_true, if_false]
  have hl : A.length ≤ 64 := by
    apply Classical.byContradiction; intro h; apply hbad; simp; left; omega
  have hf : amongB f 0 MF = true := by
    cases hh : amongB f 0 MF with
    | true => rfl
    | false => exact absurd (by rw [hh]; simp) hbad
  have hfb := amongB_iff'.1 hf
  simp only [MF] at hfb
  clear hbad
  simp [go_sem]
  refine loopK (fun s W => ∃ (i : Nat) (last : Int) (x : Value), i ≤ A.length ∧ s = (.int .i64 (f + ((A.take i).map (·.cash)).sum), x, .int .u32 last, .int .i64 i, ()) ∧ AInv (A.take i) last ∧ Mod (fun _ => False) w' W)
    (fun s _ => match s.2.2.2.1 with | .int _ i => A.length - i.toNat | _ => 0) ⟨0, 0, .bool false, by omega, by simp, AInv.nil, Mod.refl _ _⟩ ?_
  rintro ⟨_, _⟩ W ⟨i, last, x, hi, ⟨⟩, hinv, mW⟩ KN hKN
  unfold L53_1
  intro _
  by_cases hlt : i < A.length
  · obtain ⟨b, off, cap, C, e', fz, e, hC, c0, c1, c2, c3⟩ := rdAc (hA.mod mW fun _ _ h => h) hlt
    cases e
    have hw := wr_add1 (i := i) (by omega)
    refine rv_ok' (v := .bool true) (w' := W) (by simp [go_sem, hlt]) ?_
    rw [ifB_bool, if_pos rfl]
    simp [-Int.natCast_add, go_sem, hlt, hC, c0, c1, c2, c3]
    generalize hw1 : W.alloc _ = W1
    have mw1 : Mod (fun _ => False) W W1 := by subst hw1; exact (Mod.refl _ W).alloc _
    have hloc : hp W1 W.heap.size = some (.cells #[.int .u32 A[i].num, .int .i64 A[i].cash, .bool A[i].kil, .bool A[i].dfl] 34 (0, 0)) := by subst hw1; simp [go_sem]
    refine JoinW.at (fun s W' => s = (.bool (decide (A[i].num ≤ last) || !amongB A[i].cash 0 MF), ()) ∧ W' = W1) ?_ ?_
    · by_cases h1 : A[i].num ≤ last
      · simp [go_sem, hp_of hloc, h1]
      · simp [go_sem, hp_of hloc, h1]
        refine ca_within ?_
        simp [go_sem, MF]
    rintro _ _ ⟨rfl, rfl⟩
    unfold J53_0
    intro _
    by_cases hbad : (decide (A[i].num ≤ last) || !amongB A[i].cash 0 MF) = true
    · rw [hbad]
      simp only [ifB_bool, if_true]
      refine hK false _ (mW.trans mw1) ⟨fun h => (by cases h), fun h => ?_⟩
      refine absurd h.2.2.1 (AInv.bad hlt hinv ?_)
      rw [Bool.or_eq_true, decide_eq_true_eq] at hbad
      rcases hbad with h | h
      · exact .inl h
      · exact .inr (by simpa using h)
    · rw [Bool.eq_false_iff.2 hbad]
      have h1 : last < A[i].num := by
        apply Classical.byContradiction; intro h; apply hbad; simp; left; omega
      have h2 : amongB A[i].cash 0 MF = true := by
        cases hh : amongB A[i].cash 0 MF with
        | true => rfl
        | false => exact absurd (by rw [hh]; simp) hbad
      have hinv' := hinv.step h1 h2
      rw [← take_snoc hlt] at hinv'
      have hs := hinv'.pa.sum (by rw [List.length_take]; omega)
      have hws : IntKind.i64.wrap (f + ((A.take i).map (·.cash)).sum + A[i].cash) = f + ((A.take (i + 1)).map (·.cash)).sum := by
        rw [takeA_sum hlt] at hs ⊢
        rw [IntKind.wrap_i64]; omega
      simp only [ifB_bool, Bool.false_eq_true, if_false]
      simp [-Int.natCast_add, -List.map_take, go_sem, hp_of hloc]
      rw [← List.map_take, hws, hw]
      exact hKN _ _ ⟨i + 1, _, _, by omega, rfl, hinv', mW.trans mw1⟩ (by simp; omega)
  · obtain rfl : i = A.length := by omega
    clear hKN
    rw [List.take_of_length_le (Nat.le_refl _)] at hinv ⊢
    refine rv_ok' (v := .bool false) (w' := W) (by simp [go_sem]) ?_
    rw [ifB_bool, if_neg Bool.false_ne_true]
    simp [-Int.natCast_add, go_sem]
    refine hK _ _ mW ⟨fun h => ⟨hl, hf, hinv.pa, ?_⟩, fun h => ?_⟩
    · simpa [MF] using h
    · have := h.2.2.2
      simpa [MF] using this
end Go.Proofs
