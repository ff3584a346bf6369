/-
  The document's ledger: Get, put, hold, Holders, Of.
  Conditions: where they ask for any, each theorem names them.
-/
import Derived.Test.YtanjfianhnhhmaaRfA
set_option linter.unusedVariables false
set_option linter.unusedSimpArgs false
namespace Go.Proofs
open Go Go.Vc

theorem ca_rget {w : World} {r : Nat} {F : Nat → Prop} {R : Led} {K : Kont} {n : Int} (h : RfQ w r F R) (hl : R.all.length < 4294967296)
    (hK : ∀ w', Mod (fun _ => False) w w' → K (.tuple #[acV (R.getV n).1, .int .i64 (R.getV n).2]) w') : Ca Try.prog 24 #[lptr r, .int .u32 n] w K := by
  have h0 := h
  obtain ⟨⟨sA, sH, h1, h2, h3, h4, h5⟩, hs, hFl⟩ := h
  obtain ⟨aA, cA, hsA⟩ := h2.isSl
  subst hsA
  apply ca24
  unfold F24
  have hlt := lt_of_heap h1
  simp [go_sem]
  generalize hw1 : World.alloc _ _ = w1
  have m1 : Mod (fun _ => False) w w1 := by subst hw1; exact (Mod.refl _ w).alloc _
  have hloc : hp w1 w.heap.size = some (.cells #[.int .u32 0, .int .i64 0, .bool false, .bool false] 34 (0, 0)) := by subst hw1; simp [go_sem]
  have g1 := m1.keep h1 id
  have g2 := h2.mod m1 fun _ _ h => h
  have q1 := h0.modF m1
  unfold Led.getV Led.getO at hK
  by_cases hn : n = 0
  · simp only [if_pos hn] at hK
    simp [hn, lptr, go_sem, hp_of g1, hp_of hloc]
    refine hK _ ?_
    exact (((m1.setCell (.inr (Nat.le_refl _)) _ _).setCell (.inr (Nat.le_refl _)) _ _).setCell (.inr (Nat.le_refl _)) _ _).setCell (.inr (Nat.le_refl _)) _ _
  · simp only [if_neg hn] at hK
    simp [hn]
    refine ca_rat q1 hl fun i hi0 hi1 => ?_
    cases hf : R.find n with
    | none =>
      rw [hf] at hK
      obtain rfl := hi0 hf
      simp [go_sem, hp_of hloc]
      refine hK _ ?_
      exact (((m1.setCell (.inr (Nat.le_refl _)) _ _).setCell (.inr (Nat.le_refl _)) _ _).setCell (.inr (Nat.le_refl _)) _ _).setCell (.inr (Nat.le_refl _)) _ _
    | some a =>
      rw [hf] at hK
      obtain ⟨k, rfl, hk⟩ := hi1 a hf
      obtain ⟨hk1, hk2⟩ := List.getElem?_eq_some_iff.1 hk
      obtain ⟨b, off, cap, C, e, fz, hsl, hC, c0, c1, c2, c3⟩ := rdAc g2 hk1
      obtain ⟨rfl, -, rfl⟩ : aA = some ⟨b, off, none⟩ ∧ True ∧ cA = cap := by injection hsl with e1 e2 e3; exact ⟨e1, trivial, e3⟩
      rw [hk2] at c0 c1 c2 c3
      simp [go_sem, lptr, hp_of g1, hk1, hC, c0, c1, c2, c3, hp_of hloc]
      refine hK _ ?_
      exact (((m1.setCell (.inr (Nat.le_refl _)) _ _).setCell (.inr (Nat.le_refl _)) _ _).setCell (.inr (Nat.le_refl _)) _ _).setCell (.inr (Nat.le_refl _)) _ _

/-- What put has written of a list's beginning. -/
def outA (l : List Ac) (a : Ac) (mid : List Ac) : List Ac := l.filter (fun x => decide (x.num < a.num)) ++ (mid ++ l.filter (fun x => decide (a.num < x.num)))
theorem outA_end (l : List Ac) (a : Ac) : outA l a [a] = insA l a := rfl
theorem outA_gt {l : List Ac} {a x : Ac} {mid : List Ac} (h : a.num < x.num) : outA (l ++ [x]) a mid = outA l a mid ++ [x] := by
  simp [outA, List.filter_append, h, show ¬ x.num < a.num by omega]
theorem outA_eq {l : List Ac} {a x : Ac} {mid : List Ac} (h : x.num = a.num) : outA (l ++ [x]) a mid = outA l a mid := by
  simp [outA, List.filter_append, h]
theorem outA_lt {l : List Ac} {a x : Ac} (h : x.num < a.num) (hl : ∀ y ∈ l, y.num < a.num) : outA (l ++ [x]) a [] = outA l a [] ++ [x] := by
  have e : l.filter (fun x => decide (a.num < x.num)) = [] := List.filter_eq_nil_iff.2 fun y hy => by have := hl y hy; simp; omega
  simp [outA, List.filter_append, h, e, show ¬ a.num < x.num by omega]
theorem outA_mid {l : List Ac} {a : Ac} (hl : ∀ y ∈ l, y.num < a.num) : outA l a [] ++ [a] = outA l a [a] := by
  have e : l.filter (fun x => decide (a.num < x.num)) = [] := List.filter_eq_nil_iff.2 fun y hy => by have := hl y hy; simp; omega
  simp [outA, e]
theorem outA_len (l : List Ac) (a : Ac) (mid : List Ac) : (outA l a mid).length ≤ l.length + mid.length := by
  have : (l.filter fun x => decide (x.num < a.num)).length + (l.filter fun x => decide (a.num < x.num)).length ≤ l.length := by
    induction l with
    | nil => simp
    | cons x l ih =>
      by_cases h1 : x.num < a.num
      · simp [h1, show ¬ a.num < x.num by omega]; omega
      · by_cases h2 : a.num < x.num
        · simp [h1, h2]; omega
        · simp [h1, h2]; omega
  simp only [outA, List.length_append]
  omega
def midA (a : Ac) : Bool → List Ac
  | true => [a]
  | false => []

set_option maxRecDepth 10000 in
theorem ca_rput {w : World} {r : Nat} {F : Nat → Prop} {R : Led} {K : Kont} {a : Ac} (h : RfQ w r F R) (hs : SortA R.all) (hl : R.all.length ≤ 64)
    (hK : ∀ w', RfQ w' r (fun b => F b ∨ (w.heap.size ≤ b ∧ b < w'.heap.size)) { R with all := insA R.all a } → Mod (fun b => b = r) w w' → K (.tuple #[]) w') : Ca Try.prog 47 #[lptr r, acV a] w K := by
  have h0 := h
  obtain ⟨⟨sA, sH, h1, h2, h3, h4, h5⟩, hself, hFl⟩ := h
  obtain ⟨aA, cA, hsA⟩ := h2.isSl
  subst hsA
  have hlt := lt_of_heap h1
  apply ca47
  unfold F47
  simp [go_sem, acV]
  generalize hw1 : World.alloc _ _ = w1
  have m1 : Mod (fun _ => False) w w1 := by subst hw1; exact (Mod.refl _ w).alloc _
  have hsz1 : w1.heap.size = w.heap.size + 1 := by subst hw1; simp [go_sem]
  have hloc : hp w1 w.heap.size = some (.cells #[.int .u32 a.num, .int .i64 a.cash, .bool a.kil, .bool a.dfl] 34 (0, 0)) := by subst hw1; simp [go_sem]
  refine loopK (fun s W => ∃ (v : Value) (dn : Bool) (i : Nat), i ≤ R.all.length ∧ s = (v, .bool dn, .int .i64 i, ()) ∧ Own W 34 4 v (outA (R.all.take i) a (midA a dn)).length ((outA (R.all.take i) a (midA a dn)).flatMap cellsAc) ∧
      (dn = false → ∀ y ∈ R.all.take i, y.num < a.num) ∧ (dn = true → ∀ y ∈ R.all.drop i, a.num < y.num) ∧ Mod (fun _ => False) w1 W ∧ ∀ b, inSl v b → w.heap.size < b)
    (fun s _ => match s.2.2.1 with | .int _ i => R.all.length - i.toNat | _ => 0) ⟨_, false, 0, by omega, rfl, (show Own w1 _ 4 (.slice none 0 0) 0 [] from Own.nil ..), (fun _ y hy => by simp at hy), (fun h => by cases h), Mod.refl _ _, fun b hb => by cases hb⟩ ?_
  rintro ⟨sv, _⟩ W ⟨v, dn, i, hi, ⟨⟩, oW, hno, hyes, mW, hv⟩ KN hKN
  have mW0 := m1.trans mW
  have g1 := mW0.keep h1 id
  have g2 := h2.mod mW0 fun _ _ h => h
  have gl := mW.keep hloc id
  have hw := wr_add1 (i := i) (by omega)
  have ol := outA_len (R.all.take i) a (midA a dn)
  have tl : (R.all.take i).length = i := by rw [List.length_take]; omega
  have ml : (midA a dn).length ≤ 1 := by cases dn <;> simp [midA]
  unfold L47_4
  intro _
  by_cases hlt2 : i < R.all.length
  · obtain ⟨b, off, cap, C, e, fz, hsl, hC, c0, c1, c2, c3⟩ := rdAc g2 hlt2
    obtain ⟨rfl, -, rfl⟩ : aA = some ⟨b, off, none⟩ ∧ True ∧ cA = cap := by injection hsl with e1 e2 e3; exact ⟨e1, trivial, e3⟩
    have htk : R.all.take (i + 1) = R.all.take i ++ [R.all[i]] := List.take_succ_eq_append_getElem hlt2
    have hdr : R.all.drop i = R.all[i] :: R.all.drop (i + 1) := List.drop_eq_getElem_cons hlt2
    have hsd : ∀ y ∈ R.all.drop (i + 1), (R.all[i]).num < y.num := fun y hy => by
      have := hs.drop (i := i)
      rw [hdr] at this
      exact (List.pairwise_cons.1 this).1 y hy
    generalize hX : R.all[i] = X at *
    have hne1 : r ≠ W.heap.size := by have := lt_of_heap g1; omega
    have hneL : w.heap.size ≠ W.heap.size := by have := lt_of_heap gl; omega
    have hszW : W.heap.size > w.heap.size := by have := lt_of_heap gl; omega
    simp [-Int.natCast_add, go_sem, lptr, hp_of g1, hlt2, hC, c0, c1, c2, c3, hp_of gl, hneL]
    let Jo : (Value × Value × Unit) → World → Prop := fun s W' => ∃ (v' : Value) (dn' : Bool), s = (.bool dn', v', ()) ∧ Own W' 34 4 v' (outA (R.all.take (i + 1)) a (midA a dn')).length ((outA (R.all.take (i + 1)) a (midA a dn')).flatMap cellsAc) ∧
      (dn' = false → ∀ y ∈ R.all.take (i + 1), y.num < a.num) ∧ (dn' = true → ∀ y ∈ R.all.drop (i + 1), a.num < y.num) ∧ Mod (fun _ => False) w1 W' ∧ ∀ b, inSl v' b → w.heap.size < b
    refine JoinW.at Jo ?_ ?_
    · (try simp [go_sem])
      generalize hW1 : W.alloc _ = W1
      have mA : Mod (fun _ => False) W W1 := by subst hW1; exact (Mod.refl _ W).alloc _
      have gX : hp W1 W.heap.size = some (.cells #[.int .u32 X.num, .int .i64 X.cash, .bool X.kil, .bool X.dfl] 34 (0, 0)) := by subst hW1; simp [go_sem]
      have ga := mA.keep gl id
      have o1 := oW.mod mA fun _ _ h => h
      let Jm : (Value × Value × Unit) → World → Prop := fun s W' => ∃ (v2 : Value) (d2 : Bool), s = (.bool d2, v2, ()) ∧ Own W' 34 4 v2 (outA (R.all.take i) a (midA a d2)).length ((outA (R.all.take i) a (midA a d2)).flatMap cellsAc) ∧
        (d2 = false → X.num < a.num ∧ ∀ y ∈ R.all.take i, y.num < a.num) ∧ (d2 = true → a.num ≤ X.num) ∧ Mod (fun b => inSl sv b) W1 W' ∧ (∀ b, inSl v2 b → w.heap.size < b ∧ b ≠ W.heap.size)
      refine JoinW.at Jm ?_ ?_
      · refine JoinW.at (fun s W' => s = (.bool (!dn && decide (a.num ≤ X.num)), ()) ∧ W' = W1) ?_ ?_
        · cases dn <;> simp [go_sem]
        rintro _ W' ⟨rfl, rfl⟩
        unfold J47_0
        intro _
        have hsv : ∀ b, inSl sv b → w.heap.size < b ∧ b ≠ W.heap.size := fun b hb => ⟨hv b hb, fun e => by have := oW.lt hb; omega⟩
        cases dn with
        | true =>
          simp [go_sem]
          have := hyes rfl X (by rw [hdr]; exact List.mem_cons_self)
          exact ⟨sv, true, rfl, o1, (fun h => by cases h), fun _ => by omega, Mod.refl _ _, hsv⟩
        | false =>
          by_cases hge : a.num ≤ X.num
          · simp [go_sem, hge, hp_of ga]
            refine push1 (d := outA (R.all.take i) a (midA a false)) (enc := cellsAc) (x := a) (k := 3) tSlA acE1 rfl rfl (by omega) (by omega) o1 (by omega) fun v' w'' o' m'' n' => ?_
            rw [show outA (R.all.take i) a (midA a false) ++ [a] = outA (R.all.take i) a (midA a true) from outA_mid (hno rfl)] at o'
            refine ⟨v', true, rfl, o', (fun h => by cases h), fun _ => hge, m'', fun b hb => ?_⟩
            rcases n' b hb with h | h
            · exact hsv b h
            · have := lt_of_heap gX; exact ⟨by omega, by omega⟩
          · simp [go_sem, hge]
            exact ⟨sv, false, rfl, o1, (fun _ => ⟨by omega, hno rfl⟩), (fun h => by cases h), Mod.refl _ _, hsv⟩
      rintro _ W2 ⟨v2, d2, rfl, o2, hn2, hy2, m2, hv2⟩
      unfold J47_1
      intro _
      have gX2 := m2.keep gX (fun h => by have := oW.lt h; omega)
      have ga2 := m2.keep ga (fun h => by have := hv _ h; omega)
      have mW2 : Mod (fun _ => False) w1 W2 := (mW.trans mA).on m2 fun b hb => .inr (by have := hv b hb; omega)
      have ol2 := outA_len (R.all.take i) a (midA a d2)
      have ml2 : (midA a d2).length ≤ 1 := by cases d2 <;> simp [midA]
      simp [go_sem, hp_of gX2, hp_of ga2]
      by_cases heq : X.num = a.num
      · have hd2 : d2 = true := by cases d2 with
          | true => rfl
          | false => have := (hn2 rfl).1; omega
        subst hd2
        simp [heq]
        refine ⟨v2, true, rfl, ?_, (fun h => by cases h), (fun _ y hy => by have := hsd y hy; omega), mW2, fun b hb => (hv2 b hb).1⟩
        rw [htk, outA_eq heq]
        exact o2
      · simp [heq]
        refine push1 (d := outA (R.all.take i) a (midA a d2)) (enc := cellsAc) (x := X) (k := 3) tSlA acE1 rfl rfl (by omega) (by omega) o2 (by omega) fun v' w'' o' m'' n' => ?_
        refine ⟨v', d2, rfl, ?_, fun h y hy => ?_, fun h y hy => ?_, mW2.on m'' fun b hb => .inr (by have := (hv2 b hb).1; omega), fun b hb => ?_⟩
        · have e1 : outA (R.all.take (i + 1)) a (midA a d2) = outA (R.all.take i) a (midA a d2) ++ [X] := by
            rw [htk]
            cases d2 with
            | true => exact outA_gt (by have := hy2 rfl; omega)
            | false => exact outA_lt (hn2 rfl).1 (hn2 rfl).2
          rw [e1]; exact o'
        · subst h
          rw [htk] at hy
          rcases List.mem_append.1 hy with hy | hy
          · exact (hn2 rfl).2 y hy
          · rw [List.mem_singleton.1 hy]; exact (hn2 rfl).1
        · subst h
          have := hsd y hy
          have := hy2 rfl
          omega
        · rcases n' b hb with h | h
          · exact (hv2 b h).1
          · have := lt_of_heap ga2; omega
    · rintro _ W' ⟨v', dn', rfl, o', hno', hyes', m', hv'⟩
      unfold J47_2
      intro _
      simp [-Int.natCast_add, go_sem, hw]
      exact hKN _ _ ⟨v', dn', i + 1, by omega, rfl, o', hno', hyes', m', hv'⟩ (by simp; omega)
  · obtain rfl : i = R.all.length := by omega
    rw [List.take_of_length_le (Nat.le_refl _)] at oW hno ol
    simp [-Int.natCast_add, go_sem, lptr, hp_of g1]
    refine JoinW.at (fun s W' => ∃ (v' : Value), s = (v', ()) ∧ Own W' 34 4 v' (insA R.all a).length ((insA R.all a).flatMap cellsAc) ∧ Mod (fun _ => False) w1 W' ∧ ∀ b, inSl v' b → w.heap.size < b) ?_ ?_
    · cases dn with
      | true =>
        simp [go_sem]
        exact ⟨oW, mW, hv⟩
      | false =>
        simp [go_sem, hp_of gl]
        refine push1 (d := outA R.all a []) (enc := cellsAc) (x := a) (k := 3) tSlA acE1 rfl rfl (by omega) (by omega) oW (by have : (outA R.all a (midA a false)).length < 4294967296 := (by omega); exact this) fun v' w'' o' m'' n' => ?_
        rw [outA_mid (hno rfl), outA_end] at o'
        exact ⟨o', mW.on m'' fun b hb => .inr (by have := hv b hb; omega), fun b hb => (n' b hb).elim (hv b) fun h => by have := lt_of_heap gl; omega⟩
    rintro _ W' ⟨v', rfl, o', m', hv'⟩
    unfold J47_3
    intro _
    have g1' := (m1.trans m').keep h1 id
    obtain ⟨va, vc, hvv, -⟩ := o'.isSl
    subst hvv
    simp [-Int.natCast_add, go_sem, lptr, hp_of g1']
    have mS : Mod (fun b => b = r) W' (W'.setCell ⟨r, 1, none⟩ (.slice va (insA R.all a).length vc)) := (Mod.refl (fun b => b = r) W').setCell (b := r) (.inl rfl) _ _
    refine hK _ ⟨⟨.slice va (insA R.all a).length vc, sH, ?_, ?_, ?_, fun b hb => ?_, fun b hb => ⟨.inl (h5 b hb).1, (h5 b hb).2⟩⟩, .inl hself, fun b hb => ?_⟩ (((m1.trans m').mono fun _ _ h => h.elim).trans mS)
    · simp [go_sem, hp_of g1', g1']
    · exact o'.rd.mod mS fun b hb e => by have := hv' b hb.sl; omega
    · exact (h3.mod (m1.trans m') fun _ _ h => h).mod mS fun b hb e => (h5 b hb).2 e
    · have := hv' b hb.sl
      have := o'.lt hb.sl
      exact ⟨.inr ⟨by omega, by rw [size_setCell]; omega⟩, by omega⟩
    · rcases hb with hb | hb
      · exact Nat.lt_of_lt_of_le (hFl b hb) (by rw [size_setCell]; exact (m1.trans m').size)
      · exact hb.2
end Go.Proofs
