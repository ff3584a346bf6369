/-
  The contracts of the program's ledger: Withdraw, Get, Set, Position, put, Within, Trade.
  Conditions: where they ask for any, each theorem names them.
-/
import Derived.Test.YtanjfianhnhhmaaLedA
set_option linter.unusedVariables false
set_option linter.unusedSimpArgs false
namespace Go.Proofs
open Go Go.Vc

theorem getO_find {S : Led} {n : Int} (h : n ≠ 0) : S.getO n = S.find n := by unfold Led.getO; rw [if_neg h]

theorem ca_withdraw {w : World} {l : Nat} {F : Nat → Prop} {S : Led} {K : Kont} {n m : Int} (h : LedQ w l F S) (hn : 0 ≤ n ∧ n < 4294967296)
    (hK : ∀ w', LedQ w' l F (S.withdraw n m).2 → Mod F w w' → K (.int .i64 (S.withdraw n m).1) w') : Ca Try.prog 22 #[lptr l, .int .u32 n, .int .i64 m] w K := by
  have h0 := h
  obtain ⟨⟨m1, m2, A, B, h1, h2, h3, h4, h5, h6, h7⟩, hok⟩ := h
  apply ca22
  unfold F22
  refine ca_ready h0 ?_
  simp [go_sem, lptr, h1]
  refine rx_look2 (enc := encU) (ev := acV) (x := n) (acV ⟨0, 0, false, false⟩) uMapA kU32 zAc (.inr ⟨m1, rfl, h2⟩) ?_
  rw [elim_acV, LedQ.lkA h2 h4]
  generalize hb : (S.getO n).getD ⟨0, 0, false, false⟩ = a
  have hlt := lt_of_heap h1
  simp [go_sem, acV]
  generalize hw1 : w.alloc (.cells #[.int .u32 a.num, .int .i64 a.cash, .bool a.kil, .bool a.dfl] 34) = w1
  have m1' : Mod (fun _ => False) w w1 := by subst hw1; exact (Mod.refl _ w).alloc _
  have hloc : hp w1 w.heap.size = some (.cells #[.int .u32 a.num, .int .i64 a.cash, .bool a.kil, .bool a.dfl] 34 (0, 0)) := by subst hw1; simp [go_sem]
  have h1w := m1'.keep h1 id
  have h2w := h2.mod m1' id
  have q1 := h0.mod m1' fun _ _ h => h
  have mF : Mod F w w1 := m1'.mono fun _ _ h => h.elim
  have hMF : MF = 1000000000000000 := rfl
  unfold Led.withdraw at hK
  refine JoinW.at (fun s W => s = (.bool (decide (n = 0 ∨ amongB m 1 MF = false)), ()) ∧ W = w1) ?_ ?_
  · by_cases hn0 : n = 0
    · simp [go_sem, hn0]
    · simp [go_sem, hn0]
      refine ca_within ?_
      have hM : amongB m 1 1000000000000000 = amongB m 1 MF := rfl
      simp [go_sem, hM]
  rintro _ W ⟨rfl, rfl⟩
  unfold J22_0
  intro _
  by_cases hc : n = 0 ∨ amongB m 1 MF = false
  · rw [if_pos hc] at hK
    simp only [decide_eq_true hc, ifB_bool, if_true]
    exact hK _ q1 mF
  · rw [if_neg hc] at hK
    simp only [decide_eq_false hc, ifB_bool, Bool.false_eq_true, if_false]
    obtain ⟨hn0, hm0⟩ : n ≠ 0 ∧ amongB m 1 MF = true := ⟨fun e => hc (.inl e), by cases h : amongB m 1 MF with | true => rfl | false => exact absurd (.inr h) hc⟩
    have hmr := amongB_iff.1 hm0
    rw [getO_find hn0] at hb
    rw [getO_find hn0]
    cases hg : S.find n with
    | none =>
      rw [hg] at hK
      simp [go_sem]
      exact hK _ q1 mF
    | some x =>
      rw [hg] at hK hb
      simp only [Option.getD_some] at hb
      subst hb
      obtain ⟨hx, hxn⟩ := Led.find_mem hg
      obtain ⟨g1, g2, g3, g4⟩ := hok.acc x hx
      simp only at hK
      simp [go_sem, hp_of hloc]
      by_cases hcash : x.cash < m
      · rw [if_pos hcash] at hK ⊢
        exact hK _ q1 mF
      · rw [if_neg hcash] at hK ⊢
        have hwr2 : IntKind.i64.wrap (x.cash - m) = x.cash - m := by rw [IntKind.wrap_i64]; omega
        have hne : l ≠ w.heap.size := by omega
        simp [go_sem, hwr2, hp_of hloc, hp_of h1w, hne]
        generalize hw3 : (W.setCell ⟨w.heap.size, 1, none⟩ (.int .i64 (x.cash - m))) = w3
        have m3 : Mod (fun b => b = w.heap.size) W w3 := by subst hw3; exact ((Mod.refl _ W).setCell (by simp) _ _)
        have m13 : Mod (fun _ => False) w w3 := m1'.on m3 fun b hb => .inr (by omega)
        let a' : Ac := { x with cash := x.cash - m }
        have hnum : a'.num = n := hxn
        have hcell : ∀ W : World, ∀ K : World → Prop, rux Try.prog (xMapUp 71 (.map (some m1)) (encU a'.num) (acV a')) W K → rux Try.prog (xMapUp 71 (.map (some m1)) (.int .u32 n) (.agg #[.int .u32 x.num, .int .i64 (x.cash - m), .bool x.kil, .bool x.dfl])) W K := by
          intro W K h
          have : encU a'.num = .int .u32 n := by rw [hnum]; rfl
          rw [this] at h
          exact h
        refine hcell _ _ ?_
        refine rux_mapUp (enc := encU) (ev := acV) uMapA kU32 ((h2.mod m13 id).mod ((Mod.refl (fun _ => False) w3).drew) id) fun w4 hA m4 hs4 => ?_
        have m4' : Mod (fun b => b = m1) w3 w4 := ((Mod.refl _ w3).drew).trans m4
        refine hK w4 (LedQ.putA (a := a') (m13.keep h1 id) (h2.mod m13 id) (h3.mod m13 id) h4 h5 h6 h7 hok ?_ ?_ hA m4') ?_
        · intro hz; exact absurd (hz.symm.trans hnum).symm hn0
        · refine hok.putA ⟨by rw [hnum]; omega, by rw [hnum]; omega⟩ ⟨by simp only [a']; omega, by simp only [a']; omega⟩ (.inl ?_)
          rw [hnum, hg]
          simp
        · exact (m13.mono fun _ _ h => h.elim).on m4' fun b hb => .inl ((h6 b).2 (.inr (.inl hb)))

/-- What Get answers. -/
def Led.getV (S : Led) (n : Int) : Ac × Int := ((S.getO n).getD ⟨0, 0, false, false⟩, if S.getO n = none then 7 else 0)
theorem ca_get {w : World} {l : Nat} {F : Nat → Prop} {S : Led} {K : Kont} {n : Int} (h : LedQ w l F S)
    (hK : ∀ w', Mod (fun _ => False) w w' → K (.tuple #[acV (S.getV n).1, .int .i64 (S.getV n).2]) w') : Ca Try.prog 13 #[lptr l, .int .u32 n] w K := by
  have h0 := h
  obtain ⟨⟨m1, m2, A, B, h1, h2, h3, h4, h5, h6, h7⟩, hok⟩ := h
  have hlt := lt_of_heap h1
  apply ca13
  unfold F13
  simp [go_sem]
  generalize hw1 : w.alloc _ = w1
  have m1' : Mod (fun _ => False) w w1 := by subst hw1; exact (Mod.refl _ w).alloc _
  have hloc : hp w1 w.heap.size = some (.cells #[.int .u32 0, .int .i64 0, .bool false, .bool false] 34 (0, 0)) := by subst hw1; simp [go_sem]
  have q1 := h0.mod m1' fun _ _ h => h
  refine ca_ready q1 ?_
  have h1w := m1'.keep h1 id
  have h2w := h2.mod m1' id
  simp [go_sem, lptr, hp_of h1w]
  refine rx_look2 (enc := encU) (ev := acV) (x := n) (acV ⟨0, 0, false, false⟩) uMapA kU32 zAc (.inr ⟨m1, rfl, h2w⟩) ?_
  rw [elim_acV, LedQ.lkA h2 h4]
  have hlt1 := lt_of_heap hloc
  have hne : w.heap.size ≠ w1.heap.size := by omega
  unfold Led.getV at hK
  cases hg : S.getO n with
  | none =>
    rw [hg] at hK
    simp [go_sem, acV, hp_of hloc, hne]
    refine hK _ ?_
    exact ((((m1'.alloc _).setCell (.inr (Nat.le_refl _)) _ _).setCell (.inr (Nat.le_refl _)) _ _).setCell (.inr (Nat.le_refl _)) _ _).setCell (.inr (Nat.le_refl _)) _ _
  | some x =>
    rw [hg] at hK
    simp [go_sem, acV, hp_of hloc, hne]
    refine hK _ ?_
    exact ((((m1'.alloc _).setCell (.inr (Nat.le_refl _)) _ _).setCell (.inr (Nat.le_refl _)) _ _).setCell (.inr (Nat.le_refl _)) _ _).setCell (.inr (Nat.le_refl _)) _ _
end Go.Proofs

namespace Go.Proofs
open Go Go.Vc

theorem ca_size {a : Int} {w : World} {K : Kont} (ha : -9223372036854775808 ≤ a ∧ a < 9223372036854775808) (hK : K (.tuple #[.int .u64 (if a < 0 then -a else a), .bool (decide (a < 0))]) w) : Ca Try.prog 54 #[.int .i64 a] w K := by
  apply ca54
  unfold F54
  simp [go_sem]
  by_cases h : a < 0
  · rw [if_pos h] at hK ⊢
    have e1 : IntKind.u64.wrap a = a + 18446744073709551616 := by
      simp [IntKind.wrap, IntKind.bits, IntKind.signed]; omega
    have e2 : IntKind.u64.wrap (-(a + 18446744073709551616)) = -a := by
      simp [IntKind.wrap, IntKind.bits, IntKind.signed]; omega
    simp [e1, e2, h] at hK ⊢
    exact hK
  · rw [if_neg h] at hK ⊢
    have e1 : IntKind.u64.wrap a = a := by
      simp [IntKind.wrap, IntKind.bits, IntKind.signed]; omega
    simp [e1, h] at hK ⊢
    exact hK

theorem ca_Within {a m : Int} {w : World} {K : Kont} (ha : -9223372036854775808 ≤ a ∧ a < 9223372036854775808) (hm : 0 ≤ m ∧ m < 9223372036854775808) (hK : K (.bool (amongB a (-m) m)) w) : Ca Try.prog 37 #[.int .i64 a, .int .i64 m] w K := by
  apply ca37
  unfold F37
  refine ca_size ha ?_
  have e1 : IntKind.u64.wrap m = m := by
    simp [IntKind.wrap, IntKind.bits, IntKind.signed]; omega
  simp [go_sem, e1, hm.1]
  have e : amongB a (-m) m = decide ((if a < 0 then -a else a) ≤ m) := by
    unfold amongB
    rw [decide_eq_decide]
    split <;> omega
  rw [e] at hK
  exact hK

/-- A position, or noughts. -/
theorem ca_position {w : World} {l : Nat} {F : Nat → Prop} {S : Led} {K : Kont} {c a : Int} (h : LedQ w l F S)
    (hK : ∀ w', Mod (fun _ => False) w w' → K (poV (S.position c a)) w') : Ca Try.prog 12 #[lptr l, .int .u32 c, .int .u32 a] w K := by
  have h0 := h
  obtain ⟨⟨m1, m2, A, B, h1, h2, h3, h4, h5, h6, h7⟩, hok⟩ := h
  have hlt := lt_of_heap h1
  apply ca12
  unfold F12
  simp [go_sem]
  generalize hw1 : World.alloc _ _ = w1
  have m1' : Mod (fun _ => False) w w1 := by subst hw1; exact ((Mod.refl _ w).alloc _).alloc _
  have hloc : hp w1 w.heap.size = some (.cells #[.int .u32 0, .int .u32 0, .int .i64 0, .int .i64 0] 31 (0, 0)) := by subst hw1; simp [go_sem]
  have hloc2 : hp w1 (w.heap.size + 1) = some (.cells #[.int .u32 c, .int .u32 a, .int .i64 0, .int .i64 0] 31 (0, 0)) := by subst hw1; simp [go_sem]
  have q1 := h0.mod m1' fun _ _ h => h
  refine ca_ready q1 ?_
  have h1w := m1'.keep h1 id
  have h3w := h3.mod m1' id
  simp [go_sem, lptr, hp_of h1w]
  refine rx_look2 (enc := encKey) (ev := poV) (x := (c, a)) (poV ⟨0, 0, 0, 0⟩) uMapP kKey zPo (.inr ⟨m2, rfl, h3w⟩) ?_
  rw [elim_poV, LedQ.lkP h3 h5]
  have hlt1 := lt_of_heap hloc
  have hlt2 := lt_of_heap hloc2
  have hne : w.heap.size ≠ w1.heap.size := by omega
  have hne2 : w.heap.size + 1 ≠ w1.heap.size := by omega
  unfold Led.position at hK
  cases hg : S.pos? (c, a) with
  | none =>
    rw [hg] at hK
    simp [go_sem, poV, hp_of hloc, hp_of hloc2, hne, hne2]
    refine hK _ ?_
    exact ((((m1'.alloc _).setCell (.inr (Nat.le_refl _)) _ _).setCell (.inr (Nat.le_refl _)) _ _).setCell (.inr (Nat.le_refl _)) _ _).setCell (.inr (Nat.le_refl _)) _ _
  | some x =>
    rw [hg] at hK
    simp [go_sem, poV, hp_of hloc, hp_of hloc2, hne, hne2]
    refine hK _ ?_
    exact ((((m1'.alloc _).setCell (.inr (Nat.le_refl _)) _ _).setCell (.inr (Nat.le_refl _)) _ _).setCell (.inr (Nat.le_refl _)) _ _).setCell (.inr (Nat.le_refl _)) _ _

/-- The ledger behind a position's store. -/
theorem LedQ.putP {w w' : World} {l m1 m2 : Nat} {F : Nat → Prop} {S : Led} {A : List (Int × Ac)} {B' : List ((Int × Int) × Po)} (h1 : hp w l = some (.cells #[.map (some m1), .map (some m2)] 74 (0, 0)))
    (h2 : MapAt encU acV w m1 A) (h4 : A.Perm S.accs) (h6 : ∀ b, F b ↔ b = l ∨ b = m1 ∨ b = m2) (h7 : l ≠ m1 ∧ l ≠ m2 ∧ m1 ≠ m2) (p : Po)
    (hB : B'.Perm (S.putP p).poss) (hok' : (S.putP p).Ok) (hA : MapAt encKey poV w' m2 B') (hm : Mod (fun b => b = m2) w w') : LedQ w' l F (S.putP p) :=
  ⟨⟨m1, m2, A, B', hm.keep h1 h7.2.1, h2.mod hm h7.2.2, hA, h4, hB, h6, h7⟩, hok'⟩

theorem ca_put {w : World} {l : Nat} {F : Nat → Prop} {S : Led} {K : Kont} {p : Po} (h : LedQ w l F S) (hok' : (S.putP p).Ok)
    (hK : ∀ w', LedQ w' l F (S.putP p) → Mod F w w' → K (.tuple #[]) w') : Ca Try.prog 38 #[lptr l, poV p] w K := by
  have h0 := h
  obtain ⟨⟨m1, m2, A, B, h1, h2, h3, h4, h5, h6, h7⟩, hok⟩ := h
  have hlt := lt_of_heap h1
  have hA1 := h2.lt
  have hB1 := h3.lt
  apply ca38
  unfold F38
  simp [go_sem, poV]
  generalize hw1 : World.alloc _ _ = w1
  have m1' : Mod (fun _ => False) w w1 := by subst hw1; exact ((Mod.refl _ w).alloc _).alloc _
  have hloc : hp w1 w.heap.size = some (.cells #[.int .u32 p.c, .int .u32 p.a, .int .i64 p.q, .int .i64 p.b] 31 (0, 0)) := by subst hw1; simp [go_sem]
  have hloc2 : hp w1 (w.heap.size + 1) = some (.cells #[.int .u32 p.c, .int .u32 p.a] 81 (0, 0)) := by subst hw1; simp [go_sem]
  have h1w := m1'.keep h1 id
  refine JoinW.at (fun s W => s = (.bool p.isZ, ()) ∧ W = w1) ?_ ?_
  · simp [go_sem, hp_of hloc]
    unfold Po.isZ
    by_cases hq : p.q = 0 <;> by_cases hb : p.b = 0 <;> simp [hq, hb]
  rintro _ W ⟨rfl, rfl⟩
  unfold J38_0
  intro _
  have h3d : MapAt encKey poV W.drew m2 B := (h3.mod m1' id).mod ((Mod.refl (fun _ => False) W).drew) id
  cases hz : p.isZ with
  | true =>
    simp [go_sem, lptr, hp_of h1w, hp_of hloc2]
    refine rx_delete (enc := encKey) (ev := poV) (x := p.key) uMapP kKey (.inr ⟨m2, rfl, h3d⟩) fun w4 hB m4 hs4 => ?_
    rcases hB with ⟨hB, _⟩ | ⟨b, hb, hB⟩
    · cases hB
    cases hb
    have m4' : Mod (fun b => b = m2) W w4 := (((Mod.refl _ W).drew).trans (m4.mono fun b _ e => by cases e; rfl))
    refine hK w4 (LedQ.putP h1w (h2.mod m1' id) h4 h6 h7 p (Led.del_poss h3.1 h5 p hz) hok' hB m4') ?_
    exact (m1'.mono fun _ _ h => h.elim).on m4' fun b hb => .inl ((h6 b).2 (.inr (.inr hb)))
  | false =>
    simp [go_sem, lptr, hp_of h1w, hp_of hloc, hp_of hloc2]
    refine rux_mapUp (enc := encKey) (ev := poV) (x := p.key) (v := p) uMapP kKey h3d fun w4 hB m4 hs4 => ?_
    have m4' : Mod (fun b => b = m2) W w4 := ((Mod.refl _ W).drew).trans m4
    refine hK w4 (LedQ.putP h1w (h2.mod m1' id) h4 h6 h7 p (Led.put_poss h3.1 h5 p hz) hok' hB m4') ?_
    exact (m1'.mono fun _ _ h => h.elim).on m4' fun b hb => .inl ((h6 b).2 (.inr (.inr hb)))
end Go.Proofs
