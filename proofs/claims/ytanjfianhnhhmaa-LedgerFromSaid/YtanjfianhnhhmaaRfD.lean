/-
  The document's ledger: Holders, Of.
  Conditions: where they ask for any, each theorem names them.
-/
import Derived.Test.YtanjfianhnhhmaaRfC
set_option linter.unusedVariables false
set_option linter.unusedSimpArgs false
namespace Go.Proofs
open Go Go.Vc

theorem ca_rholders {w : World} {r : Nat} {F : Nat → Prop} {R : Led} {K : Kont} {c : Int} (h : RfQ w r F R) (hl : R.held.length < 4294967200)
    (hK : ∀ w' v, Own w' 31 4 v (R.holders c).length ((R.holders c).flatMap cellsPo) → (∀ b, inSl v b → w.heap.size ≤ b) → Mod (fun _ => False) w w' → K v w') : Ca Try.prog 50 #[lptr r, .int .u32 c] w K := by
  obtain ⟨⟨sA, sH, h1, h2, h3, h4, h5⟩, hself, hFl⟩ := h
  obtain ⟨aH, cH, hsH⟩ := h3.isSl
  subst hsH
  apply ca50
  unfold F50
  refine loopK (fun s W => ∃ (v : Value) (i : Nat), i ≤ R.held.length ∧ s = (v, .int .i64 i, ()) ∧ Own W 31 4 v ((R.held.take i).filter fun p => decide (p.c = c)).length (((R.held.take i).filter fun p => decide (p.c = c)).flatMap cellsPo) ∧
      Mod (fun _ => False) w W ∧ ∀ b, inSl v b → w.heap.size ≤ b)
    (fun s _ => match s.2.1 with | .int _ i => R.held.length - i.toNat | _ => 0) ⟨_, 0, by omega, rfl, (show Own w _ 4 (.slice none 0 0) 0 [] from Own.nil ..), Mod.refl _ _, fun b hb => by cases hb⟩ ?_
  rintro ⟨sv, _⟩ W ⟨v, i, hi, ⟨⟩, oW, mW, hv⟩ KN hKN
  have g1 := mW.keep h1 id
  have g3 := h3.mod mW fun _ _ h => h
  have hw := wr_add1 (i := i) (by omega)
  have hfl : ((R.held.take i).filter fun p => decide (p.c = c)).length ≤ R.held.length := Nat.le_trans (List.length_filter_le ..) (by rw [List.length_take]; omega)
  unfold L50_1
  intro _
  by_cases hlt2 : i < R.held.length
  · obtain ⟨b, off, cap, C, e, fz, hsl, hC, c0, c1, c2, c3⟩ := rdPo g3 hlt2
    obtain ⟨rfl, -, rfl⟩ : aH = some ⟨b, off, none⟩ ∧ True ∧ cH = cap := by injection hsl with e1 e2 e3; exact ⟨e1, trivial, e3⟩
    have htk : R.held.take (i + 1) = R.held.take i ++ [R.held[i]] := List.take_succ_eq_append_getElem hlt2
    simp [-Int.natCast_add, go_sem, lptr, hp_of g1, hlt2]
    let Je : (Value × Unit) → World → Prop := fun s W' => ∃ v' : Value, s = (v', ()) ∧ Own W' 31 4 v' ((R.held.take (i + 1)).filter fun p => decide (p.c = c)).length (((R.held.take (i + 1)).filter fun p => decide (p.c = c)).flatMap cellsPo) ∧
      Mod (fun _ => False) w W' ∧ ∀ b, inSl v' b → w.heap.size ≤ b
    refine JoinW.at Je ?_ ?_
    · by_cases e : R.held[i].c = c
      · have hx : R.held[i].c = c := e
        simp [-Int.natCast_add, go_sem, hp_of g1, hlt2, hC, c0, c1, c2, c3, e]
        have hpush : ∀ (K : Kont), (∀ v' w', Own w' 31 4 v' (((R.held.take i).filter fun p => decide (p.c = c)) ++ [R.held[i]]).length ((((R.held.take i).filter fun p => decide (p.c = c)) ++ [R.held[i]]).flatMap cellsPo) → Mod (inSl sv) W w' → (∀ b, inSl v' b → inSl sv b ∨ W.heap.size ≤ b) → K v' w') →
            rx Try.prog (xLit 59 1 [(0, .agg (cellsPo R.held[i]).toArray)]) W fun v36 w37 => rx Try.prog (xAppend #[59, 59] 59 [sv, v36]) w37 K := fun K hk =>
          push1 (d := (R.held.take i).filter fun p => decide (p.c = c)) (enc := cellsPo) (x := R.held[i]) (k := 3) tSlP poE1 rfl rfl (by omega) (by omega) oW (by omega) hk
        simp only [cellsPo, hx] at hpush
        refine hpush _ fun v' w'' o' m'' n' => ?_
        refine ⟨v', rfl, ?_, mW.on m'' fun b hb => .inr (hv b hb), fun b hb => (n' b hb).elim (hv b) fun h => Nat.le_trans mW.size h⟩
        rw [htk, List.filter_append, show [R.held[i]].filter (fun p => decide (p.c = c)) = [R.held[i]] by simp [e]]
        exact o'
      · simp [-Int.natCast_add, go_sem, hp_of g1, hlt2, hC, c0, c1, c2, c3, e]
        refine ⟨sv, rfl, ?_, mW, hv⟩
        rw [htk, List.filter_append, show [R.held[i]].filter (fun p => decide (p.c = c)) = [] by simp [e], List.append_nil]
        exact oW
    · rintro _ W' ⟨v', rfl, o', m', hv'⟩
      unfold J50_0
      intro _
      simp [-Int.natCast_add, go_sem, hw]
      exact hKN _ _ ⟨v', i + 1, by omega, rfl, o', m', hv'⟩ (by simp; omega)
  · obtain rfl : i = R.held.length := by omega
    rw [List.take_of_length_le (Nat.le_refl _)] at oW
    simp [-Int.natCast_add, go_sem, lptr, hp_of g1]
    exact hK _ _ oW hv mW

theorem ca_rof {w : World} {r : Nat} {F : Nat → Prop} {R : Led} {K : Kont} {c : Int} (h : RfQ w r F R) (hl : R.held.length < 4294967200)
    (hK : ∀ w' v, Own w' 31 4 v (R.ofA c).length ((R.ofA c).flatMap cellsPo) → (∀ b, inSl v b → w.heap.size ≤ b) → Mod (fun _ => False) w w' → K v w') : Ca Try.prog 51 #[lptr r, .int .u32 c] w K := by
  obtain ⟨⟨sA, sH, h1, h2, h3, h4, h5⟩, hself, hFl⟩ := h
  obtain ⟨aH, cH, hsH⟩ := h3.isSl
  subst hsH
  apply ca51
  unfold F51
  refine loopK (fun s W => ∃ (v : Value) (i : Nat), i ≤ R.held.length ∧ s = (v, .int .i64 i, ()) ∧ Own W 31 4 v ((R.held.take i).filter fun p => decide (p.a = c)).length (((R.held.take i).filter fun p => decide (p.a = c)).flatMap cellsPo) ∧
      Mod (fun _ => False) w W ∧ ∀ b, inSl v b → w.heap.size ≤ b)
    (fun s _ => match s.2.1 with | .int _ i => R.held.length - i.toNat | _ => 0) ⟨_, 0, by omega, rfl, (show Own w _ 4 (.slice none 0 0) 0 [] from Own.nil ..), Mod.refl _ _, fun b hb => by cases hb⟩ ?_
  rintro ⟨sv, _⟩ W ⟨v, i, hi, ⟨⟩, oW, mW, hv⟩ KN hKN
  have g1 := mW.keep h1 id
  have g3 := h3.mod mW fun _ _ h => h
  have hw := wr_add1 (i := i) (by omega)
  have hfl : ((R.held.take i).filter fun p => decide (p.a = c)).length ≤ R.held.length := Nat.le_trans (List.length_filter_le ..) (by rw [List.length_take]; omega)
  unfold L51_1
  intro _
  by_cases hlt2 : i < R.held.length
  · obtain ⟨b, off, cap, C, e, fz, hsl, hC, c0, c1, c2, c3⟩ := rdPo g3 hlt2
    obtain ⟨rfl, -, rfl⟩ : aH = some ⟨b, off, none⟩ ∧ True ∧ cH = cap := by injection hsl with e1 e2 e3; exact ⟨e1, trivial, e3⟩
    have htk : R.held.take (i + 1) = R.held.take i ++ [R.held[i]] := List.take_succ_eq_append_getElem hlt2
    simp [-Int.natCast_add, go_sem, lptr, hp_of g1, hlt2]
    let Je : (Value × Unit) → World → Prop := fun s W' => ∃ v' : Value, s = (v', ()) ∧ Own W' 31 4 v' ((R.held.take (i + 1)).filter fun p => decide (p.a = c)).length (((R.held.take (i + 1)).filter fun p => decide (p.a = c)).flatMap cellsPo) ∧
      Mod (fun _ => False) w W' ∧ ∀ b, inSl v' b → w.heap.size ≤ b
    refine JoinW.at Je ?_ ?_
    · by_cases e : R.held[i].a = c
      · have hx : R.held[i].a = c := e
        simp [-Int.natCast_add, go_sem, hp_of g1, hlt2, hC, c0, c1, c2, c3, e]
        have hpush : ∀ (K : Kont), (∀ v' w', Own w' 31 4 v' (((R.held.take i).filter fun p => decide (p.a = c)) ++ [R.held[i]]).length ((((R.held.take i).filter fun p => decide (p.a = c)) ++ [R.held[i]]).flatMap cellsPo) → Mod (inSl sv) W w' → (∀ b, inSl v' b → inSl sv b ∨ W.heap.size ≤ b) → K v' w') →
            rx Try.prog (xLit 59 1 [(0, .agg (cellsPo R.held[i]).toArray)]) W fun v36 w37 => rx Try.prog (xAppend #[59, 59] 59 [sv, v36]) w37 K := fun K hk =>
          push1 (d := (R.held.take i).filter fun p => decide (p.a = c)) (enc := cellsPo) (x := R.held[i]) (k := 3) tSlP poE1 rfl rfl (by omega) (by omega) oW (by omega) hk
        simp only [cellsPo, hx] at hpush
        refine hpush _ fun v' w'' o' m'' n' => ?_
        refine ⟨v', rfl, ?_, mW.on m'' fun b hb => .inr (hv b hb), fun b hb => (n' b hb).elim (hv b) fun h => Nat.le_trans mW.size h⟩
        rw [htk, List.filter_append, show [R.held[i]].filter (fun p => decide (p.a = c)) = [R.held[i]] by simp [e]]
        exact o'
      · simp [-Int.natCast_add, go_sem, hp_of g1, hlt2, hC, c0, c1, c2, c3, e]
        refine ⟨sv, rfl, ?_, mW, hv⟩
        rw [htk, List.filter_append, show [R.held[i]].filter (fun p => decide (p.a = c)) = [] by simp [e], List.append_nil]
        exact oW
    · rintro _ W' ⟨v', rfl, o', m', hv'⟩
      unfold J51_0
      intro _
      simp [-Int.natCast_add, go_sem, hw]
      exact hKN _ _ ⟨v', i + 1, by omega, rfl, o', m', hv'⟩ (by simp; omega)
  · obtain rfl : i = R.held.length := by omega
    rw [List.take_of_length_le (Nat.le_refl _)] at oW
    simp [-Int.natCast_add, go_sem, lptr, hp_of g1]
    exact hK _ _ oW hv mW
end Go.Proofs
