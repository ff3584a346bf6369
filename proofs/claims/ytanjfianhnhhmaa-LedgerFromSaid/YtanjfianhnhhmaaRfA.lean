/-
  The document's ledger in memory, and the contracts of what only reads it.
  Conditions: where they ask for any, each theorem names them.
-/
import Derived.Test.YtanjfianhnhhmaaLedY
import Derived.Test.YtanjfianhnhhmaaMarkL
set_option linter.unusedVariables false
set_option linter.unusedSimpArgs false
namespace Go.Proofs
open Go Go.Vc

theorem wr_add1 {i : Nat} (h : i < 4294967296) : IntKind.i64.wrap ((i : Int) + 1) = ((i + 1 : Nat) : Int) := by rw [IntKind.wrap_i64]; omega

theorem rdAc {w : World} {s : Value} {l : List Ac} (h : Rd w 4 s l.length (l.flatMap cellsAc)) {i : Nat} (hi : i < l.length) :
    ∃ b off cap C e fz, s = .slice (some ⟨b, off, none⟩) l.length cap ∧ hp w b = some (.cells C e fz) ∧ C[off + i * 4]? = some (.int .u32 l[i].num) ∧ C[off + (i * 4 + 1)]? = some (.int .i64 l[i].cash) ∧ C[off + (i * 4 + 2)]? = some (.bool l[i].kil) ∧ C[off + (i * 4 + 3)]? = some (.bool l[i].dfl) := by
  obtain ⟨b, off, cap, e, hA⟩ := Rd.elemR h hi
  rw [flat_get cellsAc 4 _ _ (fun _ _ => rfl) hi] at hA
  obtain ⟨C, e', fz, hC, hCg⟩ := hA.get
  refine ⟨b, off, cap, C, e', fz, e, hC, hCg 0 _ rfl, ?_, ?_, ?_⟩
  · have := hCg 1 _ rfl; rwa [Nat.add_assoc] at this
  · have := hCg 2 _ rfl; rwa [Nat.add_assoc] at this
  · have := hCg 3 _ rfl; rwa [Nat.add_assoc] at this
theorem rdPo {w : World} {s : Value} {l : List Po} (h : Rd w 4 s l.length (l.flatMap cellsPo)) {i : Nat} (hi : i < l.length) :
    ∃ b off cap C e fz, s = .slice (some ⟨b, off, none⟩) l.length cap ∧ hp w b = some (.cells C e fz) ∧ C[off + i * 4]? = some (.int .u32 l[i].c) ∧ C[off + (i * 4 + 1)]? = some (.int .u32 l[i].a) ∧ C[off + (i * 4 + 2)]? = some (.int .i64 l[i].q) ∧ C[off + (i * 4 + 3)]? = some (.int .i64 l[i].b) := by
  obtain ⟨b, off, cap, e, hA⟩ := Rd.elemR h hi
  rw [flat_get cellsPo 4 _ _ (fun _ _ => rfl) hi] at hA
  obtain ⟨C, e', fz, hC, hCg⟩ := hA.get
  refine ⟨b, off, cap, C, e', fz, e, hC, hCg 0 _ rfl, ?_, ?_, ?_⟩
  · have := hCg 1 _ rfl; rwa [Nat.add_assoc] at this
  · have := hCg 2 _ rfl; rwa [Nat.add_assoc] at this
  · have := hCg 3 _ rfl; rwa [Nat.add_assoc] at this

/-- The document's ledger at r. -/
structure RfQ (w : World) (r : Nat) (F : Nat → Prop) (R : Led) : Prop where
  out : ∃ sA sH, hp w r = some (.cells #[.int .i64 R.fund, sA, sH] 61 (0, 0)) ∧ Rd w 4 sA R.all.length (R.all.flatMap cellsAc) ∧ Rd w 4 sH R.held.length (R.held.flatMap cellsPo) ∧
    (∀ b, inRd sA b → F b ∧ b ≠ r) ∧ (∀ b, inRd sH b → F b ∧ b ≠ r)
  self : F r
  lt : ∀ b, F b → b < w.heap.size
theorem RfQ.mod {F G : Nat → Prop} {w w' : World} {r : Nat} {R : Led} (h : RfQ w r F R) (hm : Mod G w w') (hd : ∀ b, F b → ¬ G b) : RfQ w' r F R := by
  obtain ⟨⟨sA, sH, h1, h2, h3, h4, h5⟩, hs, hl⟩ := h
  exact ⟨⟨sA, sH, hm.keep h1 (hd r hs), h2.mod hm fun b hb => hd b (h4 b hb).1, h3.mod hm fun b hb => hd b (h5 b hb).1, h4, h5⟩, hs, fun b hb => Nat.lt_of_lt_of_le (hl b hb) hm.size⟩
theorem RfQ.modF {F : Nat → Prop} {w w' : World} {r : Nat} {R : Led} (h : RfQ w r F R) (hm : Mod (fun _ => False) w w') : RfQ w' r F R := h.mod hm fun _ _ h => h

theorem ca_ramong {n lo hi : Int} {w : World} {K : Kont} (hK : K (.bool (amongB n lo hi)) w) : Ca Try.prog 45 #[.int .i64 n, .int .i64 lo, .int .i64 hi] w K := by
  apply ca45
  unfold F45
  simp [go_sem]
  unfold amongB at hK
  split
  · rename_i h
    have e : decide (lo ≤ n ∧ n ≤ hi) = decide (n ≤ hi) := by rw [decide_eq_decide]; omega
    rw [← e]; exact hK
  · rename_i h
    have e : decide (lo ≤ n ∧ n ≤ hi) = false := by rw [decide_eq_false_iff_not]; omega
    rw [e] at hK; exact hK

theorem find_none_of {α : Type} {l : List α} {p : α → Bool} (h : ∀ j (hj : j < l.length), p l[j] = false) : l.find? p = none := by
  rw [List.find?_eq_none]
  intro x hx
  obtain ⟨j, hj, rfl⟩ := List.getElem_of_mem hx
  simp [h j hj]
theorem find_some_of {α : Type} {l : List α} {p : α → Bool} {i : Nat} (hi : i < l.length) (h : p l[i] = true) (hno : ∀ j (hj : j < l.length), j < i → p l[j] = false) : l.find? p = some l[i] := by
  rw [List.find?_eq_some_iff_getElem]
  exact ⟨h, i, hi, rfl, fun j hj => by simp [hno j (by omega) hj]⟩

/-- The place of an account, or -1. -/
theorem ca_rat {w : World} {r : Nat} {F : Nat → Prop} {R : Led} {K : Kont} {n : Int} (h : RfQ w r F R) (hl : R.all.length < 4294967296)
    (hK : ∀ i : Int, (R.find n = none → i = -1) → (∀ a, R.find n = some a → ∃ k : Nat, i = k ∧ R.all[k]? = some a) → K (.int .i64 i) w) : Ca Try.prog 48 #[lptr r, .int .u32 n] w K := by
  obtain ⟨⟨sA, sH, h1, h2, h3, h4, h5⟩, hs, hFl⟩ := h
  obtain ⟨aA, cA, hsA⟩ := h2.isSl
  apply ca48
  unfold F48
  refine loopK (fun s W => ∃ (x : Value) (i : Nat), i ≤ R.all.length ∧ s = (x, .int .i64 i, ()) ∧ W = w ∧ ∀ j (hj : j < R.all.length), j < i → decide (R.all[j].num = n) = false)
    (fun s _ => match s.2.1 with | .int _ i => R.all.length - i.toNat | _ => 0) ⟨_, 0, by omega, rfl, rfl, fun j hj h => absurd h (Nat.not_lt_zero _)⟩ ?_
  rintro ⟨sv, _⟩ W ⟨x, i, hi, ⟨⟩, rfl, hno⟩ KN hKN
  unfold L48_0
  intro _
  have hw := wr_add1 (i := i) (by omega)
  subst hsA
  by_cases hlt : i < R.all.length
  · obtain ⟨b, off, cap, C, e, fz, hsl, hC, c0, c1, c2, c3⟩ := rdAc h2 hlt
    obtain ⟨rfl, -, rfl⟩ : aA = some ⟨b, off, none⟩ ∧ True ∧ cA = cap := by injection hsl with e1 e2 e3; exact ⟨e1, trivial, e3⟩
    simp [-Int.natCast_add, go_sem, lptr, hp_of h1, hlt, hC, c0]
    by_cases e : R.all[i].num = n
    · simp [e]
      refine hK i (fun hf => ?_) fun a ha => ⟨i, rfl, ?_⟩
      · rw [show R.find n = R.all.find? _ from rfl, find_some_of hlt (by simpa using e) hno] at hf; cases hf
      · rw [show R.find n = R.all.find? _ from rfl, find_some_of hlt (by simpa using e) hno] at ha
        rw [List.getElem?_eq_getElem hlt]; exact ha
    · simp [-Int.natCast_add, e, hw]
      refine hKN _ _ ⟨sv, i + 1, by omega, rfl, rfl, fun j hj hji => ?_⟩ (by simp; omega)
      by_cases hjj : j = i
      · subst hjj; simpa using e
      · exact hno j hj (by omega)
  · obtain rfl : i = R.all.length := by omega
    simp [go_sem, lptr, hp_of h1]
    have hn : R.find n = none := find_none_of fun j hj => hno j hj hj
    refine hK _ (fun _ => rfl) fun a ha => ?_
    rw [hn] at ha; cases ha

theorem ca_rfunds {w : World} {r : Nat} {F : Nat → Prop} {R : Led} {K : Kont} (h : RfQ w r F R) (hok : R.Ok) (hK : K (.int .i64 R.funds) w) : Ca Try.prog 46 #[lptr r] w K := by
  obtain ⟨⟨sA, sH, h1, h2, h3, h4, h5⟩, hs, hFl⟩ := h
  obtain ⟨aA, cA, hsA⟩ := h2.isSl
  subst hsA
  apply ca46
  unfold F46
  simp [go_sem, lptr, hp_of h1]
  have hlen := hok.len
  have hfb := hok.funds
  have hf0 := hok.fund
  refine loopK (fun s W => ∃ (i : Nat), i ≤ R.all.length ∧ s = (.int .i64 (R.fund + ((R.all.map (·.cash)).take i).sum), .int .i64 i, ()) ∧ W = w)
    (fun s _ => match s.2.1 with | .int _ i => R.all.length - i.toNat | _ => 0) ⟨0, by omega, by simp, rfl⟩ ?_
  rintro ⟨_, _⟩ W ⟨i, hi, ⟨⟩, rfl⟩ KN hKN
  unfold L46_0
  intro _
  have hw := wr_add1 (i := i) (by omega)
  by_cases hlt : i < R.all.length
  · obtain ⟨b, off, cap, C, e, fz, hsl, hC, c0, c1, c2, c3⟩ := rdAc h2 hlt
    obtain ⟨rfl, -, rfl⟩ : aA = some ⟨b, off, none⟩ ∧ True ∧ cA = cap := by injection hsl with e1 e2 e3; exact ⟨e1, trivial, e3⟩
    have ht : ((R.all.map (·.cash)).take (i + 1)).sum = ((R.all.map (·.cash)).take i).sum + R.all[i].cash := by
      rw [List.take_add_one]; simp [hlt]
    have hsb : 0 ≤ ((R.all.map (·.cash)).take (i + 1)).sum ∧ ((R.all.map (·.cash)).take (i + 1)).sum ≤ (R.all.map (·.cash)).sum := by
      have e1 : (R.all.map (·.cash)).sum = ((R.all.map (·.cash)).take (i + 1)).sum + ((R.all.map (·.cash)).drop (i + 1)).sum := by
        rw [← List.sum_append, List.take_append_drop]
      have p1 : ∀ l : List Int, (∀ x ∈ l, 0 ≤ x) → 0 ≤ l.sum := by
        intro l hl
        induction l with
        | nil => simp
        | cons x l ih =>
          have := hl x List.mem_cons_self
          have := ih fun y hy => hl y (List.mem_cons_of_mem _ hy)
          simp only [List.sum_cons]; omega
      have hnn : ∀ x ∈ R.all.map (·.cash), 0 ≤ x := fun x hx => by
        obtain ⟨a, ha, rfl⟩ := List.mem_map.1 hx
        exact (hok.acc a ha).2.2.1
      have h1 := p1 _ fun x hx => hnn x (List.mem_of_mem_take (i := i + 1) hx)
      have h2 := p1 _ fun x hx => hnn x (List.mem_of_mem_drop (i := i + 1) hx)
      omega
    unfold Led.funds at hfb
    simp only [MF] at hfb hf0
    have hwr : IntKind.i64.wrap (R.fund + ((R.all.map (·.cash)).take i).sum + R.all[i].cash) = R.fund + ((R.all.map (·.cash)).take (i + 1)).sum := by
      rw [IntKind.wrap_i64]; omega
    simp [-Int.natCast_add, go_sem, lptr, hp_of h1, hlt, hC, c1]
    rw [hwr, hw]
    exact hKN _ _ ⟨i + 1, by omega, rfl, rfl⟩ (by simp; omega)
  · obtain rfl : i = R.all.length := by omega
    simp [go_sem, lptr, hp_of h1]
    rw [show R.fund + ((R.all.map (·.cash)).take R.all.length).sum = R.funds by rw [List.take_of_length_le (by simp)]; rfl]
    exact hK

theorem ca_rposition {w : World} {r : Nat} {F : Nat → Prop} {R : Led} {K : Kont} {c a : Int} (h : RfQ w r F R) (hl : R.held.length < 4294967296)
    (hK : ∀ w', Mod (fun _ => False) w w' → K (poV (R.position c a)) w') : Ca Try.prog 30 #[lptr r, .int .u32 c, .int .u32 a] w K := by
  have h0 := h
  obtain ⟨⟨sA, sH, h1, h2, h3, h4, h5⟩, hs, hFl⟩ := h
  obtain ⟨aH, cH, hsH⟩ := h3.isSl
  subst hsH
  apply ca30
  unfold F30
  simp [go_sem]
  generalize hw1 : World.alloc _ _ = w1
  have m1 : Mod (fun _ => False) w w1 := by subst hw1; exact (Mod.refl _ w).alloc _
  have hloc : hp w1 w.heap.size = some (.cells #[.int .u32 0, .int .u32 0, .int .i64 0, .int .i64 0] 31 (0, 0)) := by subst hw1; simp [go_sem]
  have g1 := m1.keep h1 id
  have g3 := h3.mod m1 fun _ _ h => h
  refine loopK (fun s W => ∃ (i : Nat), i ≤ R.held.length ∧ s = (.int .i64 i, ()) ∧ W = w1 ∧ ∀ j (hj : j < R.held.length), j < i → decide (R.held[j].key = (c, a)) = false)
    (fun s _ => match s.1 with | .int _ i => R.held.length - i.toNat | _ => 0) ⟨0, by omega, rfl, rfl, fun j hj h => absurd h (Nat.not_lt_zero _)⟩ ?_
  rintro ⟨_, _⟩ W ⟨i, hi, ⟨⟩, rfl, hno⟩ KN hKN
  unfold L30_1
  intro _
  have hw := wr_add1 (i := i) (by omega)
  by_cases hlt : i < R.held.length
  · obtain ⟨b, off, cap, C, e, fz, hsl, hC, c0, c1, c2, c3⟩ := rdPo g3 hlt
    obtain ⟨rfl, -, rfl⟩ : aH = some ⟨b, off, none⟩ ∧ True ∧ cH = cap := by injection hsl with e1 e2 e3; exact ⟨e1, trivial, e3⟩
    simp [-Int.natCast_add, go_sem, lptr, hp_of g1, hlt]
    refine JoinW.at (fun s W' => s = (.bool (decide (R.held[i].key = (c, a))), ()) ∧ W' = W) ?_ ?_
    · simp [go_sem, hC, c0, c1, hp_of g1, hlt]
      by_cases e1 : R.held[i].c = c
      · simp [e1, Po.key, hC, c1, hlt]
        rw [Bool.eq_iff_iff]; simp
      · simp [e1, Po.key]
    rintro _ W' ⟨rfl, rfl⟩
    unfold J30_0
    intro _
    by_cases e : R.held[i].key = (c, a)
    · have hf : R.position c a = R.held[i] := by
        unfold Led.position Led.pos?
        rw [find_some_of hlt (by simpa using e) hno]; rfl
      rw [hf] at hK
      simp [go_sem, e, hp_of g1, hlt, hC, c0, c1, c2, c3, hp_of hloc]
      refine hK _ ?_
      exact (((m1.setCell (.inr (Nat.le_refl _)) _ _).setCell (.inr (Nat.le_refl _)) _ _).setCell (.inr (Nat.le_refl _)) _ _).setCell (.inr (Nat.le_refl _)) _ _
    · simp [-Int.natCast_add, go_sem, e, hw]
      refine hKN _ _ ⟨i + 1, by omega, rfl, rfl, fun j hj hji => ?_⟩ (by simp; omega)
      by_cases hjj : j = i
      · subst hjj; simpa using e
      · exact hno j hj (by omega)
  · obtain rfl : i = R.held.length := by omega
    have hf : R.position c a = ⟨c, a, 0, 0⟩ := by
      unfold Led.position Led.pos?
      rw [find_none_of fun j hj => hno j hj hj]; rfl
    rw [hf] at hK
    simp [go_sem, lptr, hp_of g1, hp_of hloc]
    refine hK _ ?_
    exact (((m1.setCell (.inr (Nat.le_refl _)) _ _).setCell (.inr (Nat.le_refl _)) _ _).setCell (.inr (Nat.le_refl _)) _ _).setCell (.inr (Nat.le_refl _)) _ _
end Go.Proofs
