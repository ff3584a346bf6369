/-
  The end of LedgerFrom: the arguments' copies turned, both ledgers compared.
  Conditions: where they ask for any, each theorem names them.
-/
import Derived.Test.YtanjfianhnhhmaaFromD
set_option linter.unusedVariables false
set_option linter.unusedSimpArgs false
namespace Go.Proofs
open Go Go.Vc
attribute [local congr] Ca_cong

/-- A row of fours, of which the k-th are numbers. -/
def IncQ (W : World) (b k n : Nat) : Prop := ∃ C ty, hp W b = some (.cells C ty (0, 0)) ∧ ∀ j, j < n → ∃ x, C[j * 4 + k]? = some (.int .i64 x)
theorem IncQ.set {W : World} {b k n : Nat} (h : IncQ W b k n) (i : Nat) (x : Int) : IncQ (W.setCell ⟨b, i, none⟩ (.int .i64 x)) b k n := by
  obtain ⟨C, ty, h1, h2⟩ := h
  refine ⟨C.setIfInBounds i (.int .i64 x), ty, ?_, fun j hj => ?_⟩
  · simp [go_sem, h1]
  · obtain ⟨y, hy⟩ := h2 j hj
    rw [Array.getElem?_setIfInBounds]
    by_cases e : i = j * 4 + k
    · have hlt : j * 4 + k < C.size := (Array.getElem?_eq_some_iff.1 hy).1
      rw [if_pos e]
      exact ⟨x, by subst e; simp [hlt]⟩
    · rw [if_neg e]; exact ⟨y, hy⟩
theorem IncQ.keep {W W' : World} {b k n : Nat} (h : IncQ W b k n) (e : W'.heap[b]? = W.heap[b]?) : IncQ W' b k n := by
  obtain ⟨C, ty, h1, h2⟩ := h
  exact ⟨C, ty, by show W'.heap[b]? = _; rw [e]; exact h1, h2⟩
theorem incA {W : World} {v : Value} {A : List Ac} {b : Nat} (h : Own W 34 4 v A.length (A.flatMap cellsAc)) (hb : inSl v b) : IncQ W b 1 A.length := by
  obtain ⟨hl, ⟨rfl, -⟩ | ⟨b', cap, rest, rfl, hc, hh, hr⟩⟩ := h
  · cases hb
  · obtain rfl : b' = b := Option.some.inj hb
    refine ⟨_, _, hh, fun j hj => ⟨A[j].cash, ?_⟩⟩
    have hg := flat_get cellsAc 4 _ _ (fun _ _ => rfl) hj
    have := congrArg (fun l => l[1]?) hg
    simp only [List.getElem?_take, List.getElem?_drop] at this
    simp only [List.getElem?_toArray]
    rw [List.getElem?_append_left (by rw [hl]; omega)]
    simpa [cellsAc] using this
theorem incP {W : World} {v : Value} {A : List Po} {b : Nat} (h : Own W 31 4 v A.length (A.flatMap cellsPo)) (hb : inSl v b) : IncQ W b 2 A.length := by
  obtain ⟨hl, ⟨rfl, -⟩ | ⟨b', cap, rest, rfl, hc, hh, hr⟩⟩ := h
  · cases hb
  · obtain rfl : b' = b := Option.some.inj hb
    refine ⟨_, _, hh, fun j hj => ⟨A[j].q, ?_⟩⟩
    have hg := flat_get cellsPo 4 _ _ (fun _ _ => rfl) hj
    have := congrArg (fun l => l[2]?) hg
    simp only [List.getElem?_take, List.getElem?_drop] at this
    simp only [List.getElem?_toArray]
    rw [List.getElem?_append_left (by rw [hl]; omega)]
    simpa [cellsPo] using this

set_option maxRecDepth 10000 in
set_option maxHeartbeats 2000000 in
theorem from_tail {W : World} {v15 v19 v23 v29 vp : Value} {A : List Ac} {P : List Po} {K : Kont} (o15 : Own W 34 4 v15 A.length (A.flatMap cellsAc)) (o19 : Own W 31 4 v19 P.length (P.flatMap cellsPo))
    (hP : Rd W 4 vp P.length (P.flatMap cellsPo)) (hPd : ∀ b, inRd vp b → ¬ (inSl v15 b ∨ inSl v19 b)) (hA1 : A.length ≤ 100) (hl : P.length ≤ 200) (hd : ∀ b, inSl v15 b → ¬ inSl v19 b)
    (hS : v23 = .pointer none ∨ ∃ l r F G S, v23 = lptr l ∧ v29 = lptr r ∧ LedQ W l F S ∧ RfQ W r G S ∧ S.held.length ≤ 200 ∧ (∀ b, F b → ¬ (inSl v15 b ∨ inSl v19 b)) ∧ (∀ b, G b → ¬ (inSl v15 b ∨ inSl v19 b)))
    (hK : ∀ W', Mod (fun b => inSl v15 b ∨ inSl v19 b) W W' → K (.bool true) W') :
    LoopW (L7_2 (.int .i64 A.length) v15 v19 v23 K vp v29) (.int .i64 0, ()) W := by
  obtain ⟨a15, c15, rfl, -⟩ := o15.isSl
  obtain ⟨a19, c19, rfl, -⟩ := o19.isSl
  obtain ⟨ap, cp, rfl⟩ := hP.isSl
  refine loopK (fun s W' => ∃ i : Nat, i ≤ A.length ∧ s = (.int .i64 i, ()) ∧ (∀ b, inSl (.slice a15 A.length c15) b → IncQ W' b 1 A.length) ∧ Mod (inSl (.slice a15 A.length c15)) W W')
    (fun s _ => match s.1 with | .int _ i => A.length - i.toNat | _ => 0) ⟨0, by omega, rfl, fun b hb => incA o15 hb, Mod.refl _ _⟩ ?_
  rintro ⟨_, _⟩ W1 ⟨i, hi, ⟨⟩, hinc, m1⟩ KN hKN
  unfold L7_2
  intro _
  by_cases hlt : i < A.length
  · obtain ⟨b, cap, hsl, -⟩ := Own.elem o15 hlt
    injection hsl with e1 e2 e3
    subst e1 e3
    obtain ⟨C, ty, hC, hCg⟩ := hinc b rfl
    obtain ⟨x, hx⟩ := hCg i hlt
    have hw := wr_add1 (i := i) (by omega)
    refine rv_ok' (v := .bool true) (w' := W1) (by simp [go_sem, hlt]) ?_
    rw [ifB_bool, if_pos rfl]
    simp [-Int.natCast_add, go_sem, hlt, hC, hx, hw]
    exact hKN _ _ ⟨i + 1, by omega, rfl, fun b' hb' => by
      obtain rfl : b = b' := Option.some.inj hb'
      exact (hinc b rfl).set _ _, m1.trans (((Mod.refl (fun b' => b' = b) W1).setCell (b := b) (.inl rfl) _ _).mono fun b' _ h => by subst h; rfl)⟩ (by simp; omega)
  · obtain rfl : i = A.length := by omega
    clear hKN
    have o19' := o19.mod m1 fun b h1 h2 => hd b h2 h1
    refine rv_ok' (v := .bool false) (w' := W1) (by simp [go_sem]) ?_
    rw [ifB_bool, if_neg Bool.false_ne_true]
    refine rn_ok' (v := .int .i64 P.length) (w' := W1) (by simp [go_sem]) ?_
    refine loopK (fun s W' => ∃ i : Nat, i ≤ P.length ∧ s = (.int .i64 i, ()) ∧ (∀ b, inSl (.slice a19 P.length c19) b → IncQ W' b 2 P.length) ∧ Mod (inSl (.slice a19 P.length c19)) W1 W')
      (fun s _ => match s.1 with | .int _ i => P.length - i.toNat | _ => 0) ⟨0, by omega, rfl, fun b hb => incP o19' hb, Mod.refl _ _⟩ ?_
    rintro ⟨_, _⟩ W2 ⟨i, hi, ⟨⟩, hinc2, m2⟩ KN hKN
    unfold L7_1
    intro _
    by_cases hlt : i < P.length
    · obtain ⟨b, cap, hsl, -⟩ := Own.elem o19 hlt
      injection hsl with e1 e2 e3
      subst e1 e3
      obtain ⟨C, ty, hC, hCg⟩ := hinc2 b rfl
      obtain ⟨x, hx⟩ := hCg i hlt
      have hw := wr_add1 (i := i) (by omega)
      refine rv_ok' (v := .bool true) (w' := W2) (by simp [go_sem, hlt]) ?_
      rw [ifB_bool, if_pos rfl]
      simp [-Int.natCast_add, go_sem, hlt, hC, hx, hw]
      exact hKN _ _ ⟨i + 1, by omega, rfl, fun b' hb' => by
        obtain rfl : b = b' := Option.some.inj hb'
        exact (hinc2 b rfl).set _ _, m2.trans (((Mod.refl (fun b' => b' = b) W2).setCell (b := b) (.inl rfl) _ _).mono fun b' _ h => by subst h; rfl)⟩ (by simp; omega)
    · obtain rfl : i = P.length := by omega
      clear hKN
      have m02 : Mod (fun b => inSl (.slice a15 A.length c15) b ∨ inSl (.slice a19 P.length c19) b) W W2 := (m1.mono fun b _ h => .inl h).trans (m2.mono fun b _ h => .inr h)
      have hP2 := hP.mod m02 hPd
      refine rv_ok' (v := .bool false) (w' := W2) (by simp [go_sem]) ?_
      rw [ifB_bool, if_neg Bool.false_ne_true]
      rcases hS with rfl | ⟨l, r, F, G, S, rfl, rfl, qL, qR, hSl, dF, dG⟩
      · refine rv_ok' (v := .bool true) (w' := W2) (by simp [go_sem]) ?_
        rw [ifB_bool, if_pos rfl]
        exact ca_known fun W3 m3 => hK _ (m02.trans (m3.mono fun _ _ h => h.elim))
      · have q2 := qL.mod m02 dF
        have r2 := qR.mod m02 dG
        refine rv_ok' (v := .bool false) (w' := W2) (by simp [go_sem, lptr]) ?_
        rw [ifB_bool, if_neg Bool.false_ne_true]
        refine rn_ok' (v := .int .i64 P.length) (w' := W2) (by simp [go_sem]) ?_
        refine loopK (fun s W' => ∃ (i : Nat) (x : Value), i ≤ P.length ∧ s = (x, .int .i64 i, ()) ∧ Mod (fun _ => False) W2 W')
          (fun s _ => match s.2.1 with | .int _ i => P.length - i.toNat | _ => 0) ⟨0, _, by omega, rfl, Mod.refl _ _⟩ ?_
        rintro ⟨z1, _⟩ W3 ⟨i, x, hi, ⟨⟩, m3⟩ KN hKN
        have q3 := q2.mod m3 fun _ _ h => h
        have r3 := r2.modF m3
        unfold L7_0
        intro _
        by_cases hlt : i < P.length
        · obtain ⟨b, off, cap, C, e', fz, e, hC, c0, c1, c2, c3⟩ := rdPo (hP2.mod m3 fun _ _ h => h) hlt
          cases e
          have hw := wr_add1 (i := i) (by omega)
          refine rv_ok' (v := .bool true) (w' := W3) (by simp [go_sem, hlt]) ?_
          rw [ifB_bool, if_pos rfl]
          refine rv_ok' (by simp [-Int.natCast_add, go_sem, hlt]; first | exact ⟨rfl, rfl⟩ | exact rfl) ?_
          refine rv_ok' (by simp [-Int.natCast_add, go_sem]; first | exact ⟨rfl, rfl⟩ | exact rfl) ?_
          refine rv_ok' (by simp [-Int.natCast_add, go_sem, hC, c0]; first | exact ⟨rfl, rfl⟩ | exact rfl) ?_
          refine ca_eqHolders q3 r3 (by omega) fun W4 m4 => ?_
          simp [-Int.natCast_add, go_sem, hw]
          exact hKN _ _ ⟨i + 1, _, by omega, rfl, m3.trans m4⟩ (by simp; omega)
        · obtain rfl : i = P.length := by omega
          clear hKN
          refine rv_ok' (v := .bool false) (w' := W3) (by simp [go_sem]) ?_
          rw [ifB_bool, if_neg Bool.false_ne_true]
          refine ca_same q3 r3 (by omega) fun W4 m4 => ?_
          simp [go_sem]
          exact ca_known fun W5 m5 => hK _ (m02.trans (((m3.trans m4).trans m5).mono fun _ _ h => h.elim))
end Go.Proofs
