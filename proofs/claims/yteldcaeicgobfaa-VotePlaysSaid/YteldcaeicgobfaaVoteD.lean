/-
  What six sectors count as: plain laws of marks.
  What six sectors hold while marks are set, the power goes, and they are opened: plain laws.
  Marks while the power comes and goes: the states of a vote's two places, and what each call makes of them.
  What opening, setting and crashing make of a vote's two places.
  A vote through openings, settings and crashes: what the walk of VotePlays asks.
  Conditions: where they ask for any, each theorem names them.
-/
import Derived.Test.YteldcaeicgobfaaVoteC
set_option linter.unusedSimpArgs false
set_option linter.unusedVariables false
namespace Go.Proofs
open Go Go.Vc

theorem wr_three (n : Nat) (m : MarkM) : wr n m = secW 0 n m ++ (secW 1 n m ++ secW 2 n m) := by
  simp [wr, wrN, List.range_succ]
theorem secI_0 {a b c : Sec} (ha : a.length = 128) : secI (a ++ (b ++ c)) 0 = a := by
  simp [secI, ← ha]
theorem secI_1 {a b c : Sec} (ha : a.length = 128) (hb : b.length = 128) : secI (a ++ (b ++ c)) 1 = b := by
  unfold secI
  rw [show 128 * 1 = a.length by omega, List.drop_left]
  rw [show (128 : Nat) = b.length by omega, List.take_left]
theorem secI_2 {a b c : Sec} (ha : a.length = 128) (hb : b.length = 128) (hc : c.length = 128) : secI (a ++ (b ++ c)) 2 = c := by
  unfold secI
  rw [← List.append_assoc, show 128 * 2 = (a ++ b).length by simp; omega, List.drop_left]
  exact List.take_of_length_le (by omega)
theorem three_inj {a b c a' b' c' : Sec} (ha : a.length = 128) (hb : b.length = 128) (ha' : a'.length = 128) (hb' : b'.length = 128) (h : a ++ (b ++ c) = a' ++ (b' ++ c')) : a = a' ∧ b = b' ∧ c = c' := by
  obtain ⟨h1, h2⟩ := List.append_inj h (by omega)
  obtain ⟨h3, h4⟩ := List.append_inj h2 (by omega)
  exact ⟨h1, h3, h4⟩
theorem secW_inj {k n n' : Nat} {m m' : MarkM} (hn : n < 18446744073709551616) (hn' : n' < 18446744073709551616) (hm : m.ok) (hm' : m'.ok) (h : secW k n m = secW k n' m') : n = n' ∧ m = m' := by
  obtain ⟨h1, -⟩ := List.append_inj h (by simp [body39_length])
  unfold body39 at h1
  rw [List.cons.injEq] at h1
  obtain ⟨h2, -⟩ := List.append_inj h1.2 (by simp [hdr_length])
  exact hdr_inj hn hn' hm hm' h2
theorem secW_ne {k n : Nat} {m : MarkM} (hk : k < 3) : secW k n m ≠ zsec := by
  intro h
  have h1 := congrArg List.head? h
  have : k = 0 ∨ k = 1 ∨ k = 2 := by omega
  rcases this with rfl | rfl | rfl <;> simp [secW, body39, zsec] at h1
theorem z384_three : z384 = zsec ++ (zsec ++ zsec) := by
  simp [z384, zsec]

theorem readP_cases (p : List UInt8) : readP p = (0, mark0) ∨ ∃ n m, readP p = (n, m) ∧ n ≠ 0 ∧ n < 18446744073709551616 ∧ m.ok ∧ m.may = true ∧ p = wr n m := by
  by_cases h : rawNum p = 0 ∨ (rawMark p).may = false ∨ p ≠ wr (rawNum p) (rawMark p)
  · exact .inl (by unfold readP; rw [if_pos h])
  · refine .inr ⟨rawNum p, rawMark p, by unfold readP; rw [if_neg h], ?_⟩
    simp only [not_or, ne_eq, Bool.not_eq_false, Decidable.not_not] at h
    exact ⟨h.1, ofB8_lt _, rawMark_ok p, h.2.1, h.2.2⟩

theorem take8_be {n : Nat} {l : List UInt8} : (be 8 n ++ l).take 8 = be 8 n := by
  rw [List.take_append_of_le_length (by simp [be_length]), List.take_of_length_le (by simp [be_length])]
theorem drop_be {n k : Nat} {l : List UInt8} : (be 8 n ++ l).drop (k + 8) = l.drop k := by
  rw [List.drop_append, List.drop_eq_nil_of_le (by simp [be_length]), List.nil_append, be_length]
  congr 1
theorem get_be {n k : Nat} {l : List UInt8} {d : UInt8} : (be 8 n ++ l).getD (k + 8) d = l.getD k d := by
  simp only [List.getD_eq_getElem?_getD]
  rw [List.getElem?_append_right (by simp [be_length]), be_length, Nat.add_sub_cancel]
theorem ofB_be8 {n : Nat} (h : n < 18446744073709551616) : ofB (be 8 n) = n := by
  rw [ofB_be, Nat.mod_eq_of_lt (by simpa using h)]
theorem i8F_forB {x : Int} (h1 : -1 ≤ x) (h2 : x ≤ 6) : i8F (forB x) = x := by
  unfold i8F
  rw [i8w, i8w]
  unfold forB
  have : (UInt8.ofNat ((x + 1) % 256).toNat).toNat = (x + 1).toNat := by simp; omega
  rw [this]
  omega
theorem readP_wr {n : Nat} {m : MarkM} (hn : n < 18446744073709551616) (h0 : n ≠ 0) (hm : m.ok) (hmay : m.may = true) : readP (wr n m) = (n, m) := by
  obtain ⟨t, ht⟩ : ∃ t, wr n m = UInt8.ofNat 1 :: (be 8 n ++ (be 8 m.term ++ (forB m.for_ :: m.file :: (be 8 m.base ++ (be 8 m.bt ++ t))))) := by
    rw [wr_three]
    refine ⟨be 4 (crcOf (hdr n m)) ++ (List.replicate 89 0 ++ (secW 1 n m ++ secW 2 n m)), ?_⟩
    have e : secW 0 n m = UInt8.ofNat 1 :: (hdr n m ++ (be 4 (crcOf (hdr n m)) ++ List.replicate 89 0)) := by simp [secW, body39]
    rw [e]
    generalize secW 1 n m = S1
    generalize secW 2 n m = S2
    generalize be 4 (crcOf (hdr n m)) = S3
    simp [hdr]
  obtain ⟨a1, a2, a3, a4, a5⟩ := hm
  have hmay' := hmay
  simp only [MarkM.may, decide_eq_true_eq] at hmay'
  have e1 : rawNum (wr n m) = n := by
    unfold rawNum
    rw [ht, List.drop_succ_cons, List.drop_zero, take8_be, ofB_be8 hn]
  have e2 : rawMark (wr n m) = m := by
    unfold rawMark
    rw [ht]
    have d9 : ∀ l : List UInt8, (UInt8.ofNat 1 :: (be 8 n ++ l)).drop 9 = l := fun l => by rw [List.drop_succ_cons, show (8 : Nat) = 0 + 8 from rfl, drop_be, List.drop_zero]
    rw [d9, take8_be, ofB_be8 a1]
    have d17 : ∀ (l : List UInt8) k, (UInt8.ofNat 1 :: (be 8 n ++ (be 8 m.term ++ l))).drop (k + 17) = l.drop k := fun l k => by rw [show k + 17 = (k + 8 + 8) + 1 by omega, List.drop_succ_cons, drop_be, drop_be]
    have g17 : ∀ (l : List UInt8) k, (UInt8.ofNat 1 :: (be 8 n ++ (be 8 m.term ++ l))).getD (k + 17) 0 = l.getD k 0 := fun l k => by rw [show k + 17 = (k + 8 + 8) + 1 by omega, List.getD_cons_succ, get_be, get_be]
    rw [show (17 : Nat) = 0 + 17 from rfl, g17, show (18 : Nat) = 1 + 17 from rfl, g17, show (19 : Nat) = 2 + 17 from rfl, d17, show (27 : Nat) = 10 + 17 from rfl, d17]
    simp only [List.getD_cons_zero, List.getD_cons_succ, List.drop_succ_cons, List.drop_zero]
    rw [show (8 : Nat) = 0 + 8 from rfl, drop_be, List.drop_zero]
    rw [show (0 + 8 : Nat) = 8 from rfl, take8_be, take8_be, ofB_be8 a4, ofB_be8 a5, i8F_forB hmay'.1 hmay'.2.1]
  unfold readP
  rw [if_neg]
  · rw [e1, e2]
  · rw [e1, e2, hmay]
    simp [h0]
end Go.Proofs

namespace Go.Proofs
open Go Go.Vc

/-! ### Contents -/
def cont (D : DM) (i : Nat) : Sec := (lk D.lasts (2, (i : Int))).getD zsec
def LenOk (D : DM) : Prop := ∀ p ∈ D.lasts, p.2.length = 128
theorem cont_len {D : DM} (h : LenOk D) (i : Nat) : (cont D i).length = 128 := lk_sec h _
def plS (c : Nat → Sec) (k : Nat) : List UInt8 := c (3 * k) ++ (c (3 * k + 1) ++ c (3 * k + 2))
theorem place_read {D : DM} (h : LenOk D) (hw : D.waits = []) : placeI (D.readB 2 0 6) 0 = plS (cont D) 0 ∧ placeI (D.readB 2 0 6) 1 = plS (cont D) 1 := by
  have l := cont_len h
  have e : D.readB 2 0 6 = (cont D 0 ++ (cont D 1 ++ cont D 2)) ++ (cont D 3 ++ (cont D 4 ++ cont D 5)) := by
    have s : ∀ j : Nat, D.secAt 2 (0 + (j : Int)) = cont D j := fun j => by
      unfold DM.secAt cont
      rw [hw, Int.zero_add]
      rfl
    unfold DM.readB
    simp only [s]
    simp [List.range_succ]
  rw [e]
  constructor
  · unfold placeI plS
    rw [Nat.mul_zero, List.drop_zero]
    exact List.take_left' (by simp [l])
  · unfold placeI plS
    rw [show 384 * 1 = (cont D 0 ++ (cont D 1 ++ cont D 2)).length by simp [l], List.drop_left]
    exact List.take_of_length_le (by simp [l])

def updC : (Nat → Sec) → List (Int × Sec) → Nat → Sec
  | c, [], i => c i
  | c, (a, s) :: T, i => updC (fun i => if a = (i : Int) then s else c i) T i
def tg (x : Int × Sec) : Pl × Sec := ((2, x.1), x.2)
theorem cont_putL : ∀ (T : List (Int × Sec)) (L : List (Pl × Sec)), (fun i : Nat => (lk (putL L (T.map tg)) (2, (i : Int))).getD zsec) = updC (fun i : Nat => (lk L (2, (i : Int))).getD zsec) T
  | [], L => rfl
  | (a, s) :: T, L => by
    have h := cont_putL T (put L (2, a) s)
    show (fun i : Nat => (lk (putL (put L (2, a) s) (T.map tg)) (2, (i : Int))).getD zsec) = updC (fun i : Nat => if a = (i : Int) then s else (lk L (2, (i : Int))).getD zsec) T
    rw [h]
    congr 1
    funext i
    rw [lk_put]
    by_cases e : a = (i : Int)
    · simp [e]
    · simp [e]
theorem updC_not : ∀ (T : List (Int × Sec)) (c : Nat → Sec) (i : Nat), (∀ x ∈ T, x.1 ≠ (i : Int)) → updC c T i = c i
  | [], c, i, _ => rfl
  | (a, s) :: T, c, i, h => by
    unfold updC
    rw [updC_not T _ i fun x hx => h x (List.mem_cons_of_mem _ hx), if_neg (h (a, s) (List.mem_cons_self ..))]
theorem updC_len : ∀ (T : List (Int × Sec)) (c : Nat → Sec), (∀ i, (c i).length = 128) → (∀ x ∈ T, x.2.length = 128) → ∀ i, (updC c T i).length = 128
  | [], c, h, _, i => h i
  | (a, s) :: T, c, h, ht, i => by
    unfold updC
    refine updC_len T _ (fun i => ?_) (fun x hx => ht x (List.mem_cons_of_mem _ hx)) i
    split
    · exact ht (a, s) (List.mem_cons_self ..)
    · exact h i

/-- What lasts of what waited. -/
def Crashed (l T : List (Int × Sec)) : Prop := (∃ k, T = l.take k) ∨ ∃ k x t, l[k]? = some x ∧ T = l.take k ++ [(x.1, t)]
theorem Crashed.sub {l T : List (Int × Sec)} (h : Crashed l T) : ∀ x ∈ T, ∃ y ∈ l, x.1 = y.1 := by
  intro x hx
  rcases h with ⟨k, rfl⟩ | ⟨k, y, t, hy, rfl⟩
  · exact ⟨x, List.mem_of_mem_take hx, rfl⟩
  · rcases List.mem_append.1 hx with hx | hx
    · exact ⟨x, List.mem_of_mem_take hx, rfl⟩
    · rw [List.mem_singleton] at hx
      subst hx
      exact ⟨y, List.mem_of_getElem? hy, rfl⟩
theorem crash_cont {D : DM} {l : List (Int × Sec)} {j keep : Nat} {torn : List UInt8} (hw : D.waits = (l.take j).map tg) : ∃ T, Crashed l T ∧ cont (D.crash keep torn) = updC (cont D) T := by
  have htk : D.waits.take keep = (l.take (min keep j)).map tg := by rw [hw, ← List.map_take, List.take_take]
  have h1 : (fun i : Nat => (lk (putL D.lasts (D.waits.take keep)) (2, (i : Int))).getD zsec) = updC (cont D) (l.take (min keep j)) := by
    rw [htk]
    exact cont_putL _ _
  cases hk : D.waits[keep]? with
  | none =>
    refine ⟨l.take (min keep j), .inl ⟨_, rfl⟩, ?_⟩
    rw [← h1]
    funext i
    unfold cont DM.crash
    rw [hk]
  | some p =>
    by_cases ht : torn = []
    · refine ⟨l.take (min keep j), .inl ⟨_, rfl⟩, ?_⟩
      rw [← h1]
      funext i
      unfold cont DM.crash
      rw [hk]
      simp only [ht, if_true]
    · rw [hw, List.getElem?_map, Option.map_eq_some_iff] at hk
      obtain ⟨x, hx, rfl⟩ := hk
      have hkj : keep < j ∧ l[keep]? = some x := by
        rw [List.getElem?_take] at hx
        split at hx
        · exact ⟨by assumption, hx⟩
        · cases hx
      have hm : min keep j = keep := by omega
      rw [hm] at h1 htk
      refine ⟨l.take keep ++ [(x.1, tornSec torn)], .inr ⟨keep, x, tornSec torn, hkj.2, rfl⟩, ?_⟩
      have h2 := cont_putL (l.take keep ++ [(x.1, tornSec torn)]) D.lasts
      rw [List.map_append, ← putL_append, ← htk] at h2
      refine Eq.trans ?_ h2
      funext i
      unfold cont DM.crash
      have hk' : D.waits[keep]? = some (tg x) := by rw [hw, List.getElem?_map, hx]; rfl
      rw [hk']
      simp only [ht, if_false]
      rfl

/-! ### Writing -/
theorem step_is (D : DM) : D.step.2.lasts = D.lasts ∧ D.step.2.waits = D.waits ∧ (D.step.1 = true → D.step.2.off = D.off) ∧ (D.step.1 = false → D.step.2.off = true) ∧ (D.armed = false → D.step = (true, D)) := by
  unfold DM.step
  cases ha : D.armed
  · simp
  · by_cases h0 : D.left = 0
    · simp [h0]
    · simp [h0]
theorem write_sec {D : DM} {a : Int} {s : Sec} (ho : D.off = false) (h0 : 0 ≤ a) (h1 : a < 8192) (hs : s.length = 128) :
    D.write 2 a s = if D.step.1 = true then (0, { D.step.2 with waits := D.waits ++ [((2, a), s)] }) else (180, D.step.2) := by
  have hm : mayB 2 a 1 = true := by simp [mayB]; omega
  have hc : chunks s 1 = [s] := by simp [chunks, ← hs]
  unfold DM.write
  rw [if_neg (by simp [ho]), hs]
  rw [if_pos ⟨by decide, hm⟩, show 128 / 128 = 1 from rfl, hc]
  simp only [DM.write1, (step_is D).2.1]
theorem writes_spec : ∀ (l : List (Int × Sec)) (D : DM), D.off = false → (∀ x ∈ l, x.2.length = 128 ∧ 0 ≤ x.1 ∧ x.1 < 8192) →
    ∃ j, (D.writes 2 l).2.lasts = D.lasts ∧ (D.writes 2 l).2.waits = D.waits ++ (l.take j).map tg ∧
      (((D.writes 2 l).1 = 0 ∧ l.take j = l ∧ (D.writes 2 l).2.off = false) ∨ ((D.writes 2 l).1 = 180 ∧ (D.writes 2 l).2.off = true)) ∧ (D.armed = false → (D.writes 2 l).1 = 0 ∧ (D.writes 2 l).2.armed = false)
  | [], D, ho, _ => ⟨0, rfl, by simp [DM.writes], .inl ⟨rfl, rfl, ho⟩, fun h => ⟨rfl, h⟩⟩
  | (a, s) :: l, D, ho, hl => by
    obtain ⟨h1, h2, h3⟩ := hl (a, s) (List.mem_cons_self ..)
    obtain ⟨s1, s2, s3, s4, s5⟩ := step_is D
    unfold DM.writes
    rw [write_sec ho h2 h3 h1]
    cases hs : D.step.1
    · refine ⟨0, ?_⟩
      simp only [Bool.false_eq_true, if_false]
      rw [if_neg (by decide)]
      refine ⟨s1, by simp [s2], .inr ⟨rfl, s4 hs⟩, fun h => ?_⟩
      rw [s5 h] at hs
      cases hs
    · simp only [if_true]
      obtain ⟨j, g1, g2, g3, g4⟩ := writes_spec l { D.step.2 with waits := D.waits ++ [((2, a), s)] } ((s3 hs).trans ho) fun x hx => hl x (List.mem_cons_of_mem _ hx)
      refine ⟨j + 1, g1.trans s1, ?_, ?_, fun h => g4 ?_⟩
      · rw [g2]
        simp [tg]
      · rcases g3 with ⟨g3, g5, g6⟩ | g3
        · exact .inl ⟨g3, by rw [List.take_succ_cons, g5], g6⟩
        · exact .inr g3
      · show D.step.2.armed = false
        rw [s5 h]
        exact h
theorem sync_is {D : DM} (ho : D.off = false) : ((D.sync.1 = 0 ∧ D.sync.2.lasts = putL D.lasts D.waits ∧ D.sync.2.waits = [] ∧ D.sync.2.off = false) ∨ (D.sync.1 = 180 ∧ D.sync.2.lasts = D.lasts ∧ D.sync.2.waits = D.waits ∧ D.sync.2.off = true)) ∧
    (D.armed = false → D.sync.1 = 0 ∧ D.sync.2.armed = false) := by
  obtain ⟨s1, s2, s3, s4, s5⟩ := step_is D
  unfold DM.sync
  rw [if_neg (by simp [ho])]
  cases hs : D.step.1
  · rw [if_neg (by simp)]
    refine ⟨.inr ⟨rfl, s1, s2, s4 hs⟩, fun h => ?_⟩
    rw [s5 h] at hs
    cases hs
  · rw [if_pos rfl]
    refine ⟨.inl ⟨rfl, by rw [s1, s2], rfl, (s3 hs).trans ho⟩, fun h => ⟨rfl, ?_⟩⟩
    show D.step.2.armed = false
    rw [s5 h]
    exact h
end Go.Proofs

namespace Go.Proofs
open Go Go.Vc

/-- The place k holds the mark m of number n; or there is none. -/
structure Holds (c : Nat → Sec) (n : Nat) (m : MarkM) (k : Nat) : Prop where
  le : k ≤ 1
  ok : m.ok
  out : (n = 0 ∧ k = 1 ∧ m = mK0 ∧ plS c k = z384) ∨ (n ≠ 0 ∧ n < 18446744073709551616 ∧ m.may = true ∧ plS c k = wr n m)
/-- The other place counts for less, or for the mark under way, or not. -/
def Oth (c : Nat → Sec) (n g : Nat) (m' : MarkM) : Prop :=
  (c (3 * g + 2) = zsec ∨ ∃ n' m2, n' < n ∧ m2.ok ∧ c (3 * g + 2) = secW 2 n' m2) ∨ c (3 * g + 1) = secW 1 (n + 1) m' ∨ c (3 * g) = zsec
structure Idle (D : DM) (n : Nat) (m : MarkM) (k : Nat) : Prop where
  off : D.off = false
  waits : D.waits = []
  holds : Holds (cont D) n m k
  other : plS (cont D) (1 - k) = z384 ∨ ∃ n' m2, n' < n ∧ m2.ok ∧ plS (cont D) (1 - k) = wr n' m2
structure Pend (D : DM) (n : Nat) (m : MarkM) (k : Nat) (m' : MarkM) : Prop where
  off : D.off = false
  waits : D.waits = []
  holds : Holds (cont D) n m k
  other : Oth (cont D) n (1 - k) m'

theorem plS_inj {c c' : Nat → Sec} {k k' : Nat} (h : ∀ i, (c i).length = 128) (h' : ∀ i, (c' i).length = 128) (e : plS c k = plS c' k') : c (3 * k) = c' (3 * k') ∧ c (3 * k + 1) = c' (3 * k' + 1) ∧ c (3 * k + 2) = c' (3 * k' + 2) :=
  three_inj (h _) (h _) (h' _) (h' _) e
theorem plS_wr {c : Nat → Sec} {k n : Nat} {m : MarkM} (h : ∀ i, (c i).length = 128) : plS c k = wr n m ↔ c (3 * k) = secW 0 n m ∧ c (3 * k + 1) = secW 1 n m ∧ c (3 * k + 2) = secW 2 n m := by
  rw [wr_three]
  constructor
  · exact three_inj (h _) (h _) (secW_length ..) (secW_length ..)
  · rintro ⟨h1, h2, h3⟩
    unfold plS
    rw [h1, h2, h3]
theorem plS_zero {c : Nat → Sec} {k : Nat} (h : ∀ i, (c i).length = 128) : plS c k = z384 ↔ c (3 * k) = zsec ∧ c (3 * k + 1) = zsec ∧ c (3 * k + 2) = zsec := by
  rw [z384_three]
  constructor
  · exact three_inj (h _) (h _) zsec_length zsec_length
  · rintro ⟨h1, h2, h3⟩
    unfold plS
    rw [h1, h2, h3]
theorem plS_secI {c : Nat → Sec} {k : Nat} (h : ∀ i, (c i).length = 128) : secI (plS c k) 0 = c (3 * k) ∧ secI (plS c k) 1 = c (3 * k + 1) ∧ secI (plS c k) 2 = c (3 * k + 2) :=
  ⟨secI_0 (h _), secI_1 (h _) (h _), secI_2 (h _) (h _) (h _)⟩
theorem plS_congr {c c' : Nat → Sec} {k : Nat} (h : ∀ j, j < 3 → c (3 * k + j) = c' (3 * k + j)) : plS c k = plS c' k := by
  unfold plS
  rw [h 1 (by omega), h 2 (by omega), show c (3 * k) = c' (3 * k) from h 0 (by omega)]

theorem oth_read {c : Nat → Sec} {n g : Nat} {m' : MarkM} (hl : ∀ i, (c i).length = 128) (h : Oth c n g m') (hn : n + 1 < 18446744073709551616) (hm : m'.ok) :
    readP (plS c g) = (0, mark0) ∨ (∃ n' m2, readP (plS c g) = (n', m2) ∧ n' ≠ 0 ∧ n' < n ∧ m2.ok ∧ plS c g = wr n' m2) ∨ (readP (plS c g) = (n + 1, m') ∧ m'.may = true ∧ plS c g = wr (n + 1) m') := by
  rcases readP_cases (plS c g) with h0 | ⟨n', m2, h1, h2, h3, h4, h5, h6⟩
  · exact .inl h0
  · obtain ⟨e0, e1, e2⟩ := (plS_wr hl).1 h6
    rcases h with (hz | ⟨n'', m2', g1, g2, g3⟩) | h | h
    · exact absurd (e2.symm.trans hz) (secW_ne (by omega))
    · obtain ⟨rfl, rfl⟩ := secW_inj h3 (by omega) h4 g2 (e2.symm.trans g3)
      exact .inr (.inl ⟨_, _, h1, h2, g1, h4, h6⟩)
    · obtain ⟨rfl, rfl⟩ := secW_inj h3 hn h4 hm (e1.symm.trans h)
      exact .inr (.inr ⟨h1, h5, h6⟩)
    · exact absurd (e0.symm.trans h) (secW_ne (by omega))

/-! ### Cleaning -/
theorem clean_is (g : Nat) (p : List UInt8) : cleanFrom g p 0 = ([((3 * g : Nat), secI p 0), ((3 * g + 1 : Nat), secI p 1), ((3 * g + 2 : Nat), secI p 2)].filter fun x : Nat × Sec => decide (x.2 ≠ zsec)).map fun x => ((x.1 : Int), zsec) := by
  by_cases h0 : secI p 0 = zsec <;> by_cases h1 : secI p 1 = zsec <;> by_cases h2 : secI p 2 = zsec <;> simp [cleanFrom, List.range_succ, h0, h1, h2]
theorem clean_addr {g : Nat} {p : List UInt8} : ∀ x ∈ cleanFrom g p 0, x.2 = zsec ∧ ∃ j, j < 3 ∧ x.1 = ((3 * g + j : Nat) : Int) := by
  intro x hx
  rw [clean_is] at hx
  simp only [List.mem_map, List.mem_filter, List.mem_cons, List.not_mem_nil, or_false] at hx
  obtain ⟨y, ⟨rfl | rfl | rfl, -⟩, rfl⟩ := hx
  · exact ⟨rfl, 0, by omega, rfl⟩
  · exact ⟨rfl, 1, by omega, rfl⟩
  · exact ⟨rfl, 2, by omega, rfl⟩
theorem oth_clean {c : Nat → Sec} {n g : Nat} {m' : MarkM} {T : List (Int × Sec)} (hl : ∀ i, (c i).length = 128) (h : Oth c n g m') (hT : Crashed (cleanFrom g (plS c g) 0) T) : Oth (updC c T) n g m' := by
  obtain ⟨s0, s1, s2⟩ := plS_secI (k := g) hl
  rw [clean_is, s0, s1, s2] at hT
  by_cases h0 : c (3 * g) = zsec
  · refine .inr (.inr ?_)
    rw [updC_not T c (3 * g) ?_, h0]
    intro x hx
    obtain ⟨y, hy, e⟩ := hT.sub x hx
    simp only [List.mem_map, List.mem_filter, List.mem_cons, List.not_mem_nil, or_false] at hy
    obtain ⟨z, ⟨rfl | rfl | rfl, hz⟩, rfl⟩ := hy
    · simp [h0] at hz
    · rw [e]; simp; omega
    · rw [e]; simp; omega
  · rw [List.filter_cons, if_pos (by simpa using h0), List.map_cons] at hT
    have key : ∀ T', (∀ x ∈ T', ∃ j, 1 ≤ j ∧ x.1 = ((3 * g + j : Nat) : Int)) → Oth (updC c ((((3 * g : Nat) : Int), zsec) :: T')) n g m' := by
      intro T' hT'
      refine .inr (.inr ?_)
      unfold updC
      rw [updC_not T' _ (3 * g) ?_, if_pos rfl]
      intro x hx
      obtain ⟨j, h1, h2⟩ := hT' x hx
      rw [h2]
      omega
    have hadr : ∀ x ∈ ([((3 * g + 1 : Nat), c (3 * g + 1)), ((3 * g + 2 : Nat), c (3 * g + 2))].filter fun x : Nat × Sec => decide (x.2 ≠ zsec)).map (fun x => ((x.1 : Int), zsec)), ∃ j, 1 ≤ j ∧ x.1 = ((3 * g + j : Nat) : Int) := by
      intro x hx
      simp only [List.mem_map, List.mem_filter, List.mem_cons, List.not_mem_nil, or_false] at hx
      obtain ⟨z, ⟨rfl | rfl, -⟩, rfl⟩ := hx
      · exact ⟨1, by omega, rfl⟩
      · exact ⟨2, by omega, rfl⟩
    generalize ([((3 * g + 1 : Nat), c (3 * g + 1)), ((3 * g + 2 : Nat), c (3 * g + 2))].filter fun x : Nat × Sec => decide (x.2 ≠ zsec)).map (fun x => ((x.1 : Int), zsec)) = r at hT hadr
    rcases hT with ⟨k, rfl⟩ | ⟨k, x, t, hx, rfl⟩
    · cases k with
      | zero => exact h
      | succ k =>
        rw [List.take_succ_cons]
        exact key _ fun x hx => hadr x (List.mem_of_mem_take hx)
    · cases k with
      | zero =>
        simp only [List.getElem?_cons_zero, Option.some.injEq] at hx
        subst hx
        rw [List.take_zero, List.nil_append]
        have e : ∀ j, 1 ≤ j → updC c [(((3 * g : Nat) : Int), t)] (3 * g + j) = c (3 * g + j) := fun j hj => updC_not _ _ _ (by simp; omega)
        unfold Oth at *
        rw [e 1 (by omega), e 2 (by omega)]
        rcases h with h | h | h
        · exact .inl h
        · exact .inr (.inl h)
        · exact absurd h h0
      | succ k =>
        rw [List.take_succ_cons, List.cons_append]
        refine key _ fun y hy => ?_
        rcases List.mem_append.1 hy with hy | hy
        · exact hadr y (List.mem_of_mem_take hy)
        · rw [List.mem_singleton] at hy
          subst hy
          exact hadr x (List.mem_of_getElem? (by simpa using hx))

/-- A place of which no sector is written stays. -/
theorem holds_keep {c : Nat → Sec} {n k : Nat} {m : MarkM} {T : List (Int × Sec)} (h : Holds c n m k) (hT : ∀ x ∈ T, ∃ j, j < 3 ∧ x.1 = ((3 * (1 - k) + j : Nat) : Int)) : Holds (updC c T) n m k := by
  have e : plS (updC c T) k = plS c k := plS_congr fun j hj => updC_not _ _ _ fun x hx => by
    obtain ⟨i, h1, h2⟩ := hT x hx
    rw [h2]
    have := h.le
    omega
  exact ⟨h.le, h.ok, by rw [e]; exact h.out⟩
end Go.Proofs

namespace Go.Proofs
open Go Go.Vc

section
variable {file : Int} {B : List UInt8} {i : Nat} {s : OpenS} {p : List UInt8} {n : Nat} {m : MarkM}
theorem vround_cnt (hp : placeI B i = p) (hr : readP p = (n, m)) (h : n > s.n) : vround file B i s = (0, { s with m := m, n := n, at_ := i }) := by
  unfold vround
  rw [hp, hr, if_pos h]
theorem vround_less (hp : placeI B i = p) (hr : readP p = (n, m)) (h0 : n ≠ 0) (h : ¬ n > s.n) : vround file B i s = (0, s) := by
  unfold vround
  rw [hp, hr, if_neg h, if_neg (by simp [h0])]
theorem vround_zero (hp : placeI B i = z384) : vround file B i s = (0, s) := by
  unfold vround
  rw [hp, readP_zero, if_neg (by simp), if_neg (by simp)]
theorem vround_cl (hp : placeI B i = p) (hr : readP p = (0, mark0)) (hz : p ≠ z384) : vround file B i s = ((s.D.writes file (cleanFrom i p 0)).1, { s with D := (s.D.writes file (cleanFrom i p 0)).2, cl := true }) := by
  unfold vround
  rw [hp, hr, if_neg (by simp), if_pos ⟨rfl, hz⟩]
theorem vgo_two : vgo file B [0, 1] s = if (vround file B 0 s).1 = 0 then vround file B 1 (vround file B 0 s).2 else vround file B 0 s := by
  unfold vgo
  split
  · unfold vgo
    split
    · rename_i h
      unfold vgo
      exact (Prod.ext h.symm rfl)
    · rfl
  · rfl
theorem vlast_not (h : s.cl = false) : vlast (0, s) = (0, s) := by simp [vlast, h]
theorem vlast_cl (h : s.cl = true) : vlast (0, s) = (s.D.sync.1, { s with D := s.D.sync.2 }) := by simp [vlast, h]
theorem vlast_err {r : Int × OpenS} (h : r.1 ≠ 0) : vlast r = r := by simp [vlast, h]
end

theorem vopen_spec {D : DM} {n k : Nat} {m m' : MarkM} (hl : LenOk D) (h : Pend D n m k m') (hn : n + 1 < 18446744073709551616) (hm : m'.ok) :
    (D.vopen 2 = (0, ⟨D, m, n, k, false⟩) ∧ (plS (cont D) (1 - k) = z384 ∨ ∃ n' m2, n' < n ∧ m2.ok ∧ plS (cont D) (1 - k) = wr n' m2)) ∨
    (D.vopen 2 = (0, ⟨D, m', n + 1, 1 - k, false⟩) ∧ m'.may = true ∧ plS (cont D) (1 - k) = wr (n + 1) m') ∨
    (∃ W, W = D.writes 2 (cleanFrom (1 - k) (plS (cont D) (1 - k)) 0) ∧ ((W.1 ≠ 0 ∧ (D.vopen 2).1 = W.1 ∧ (D.vopen 2).2.D = W.2) ∨
      (W.1 = 0 ∧ D.vopen 2 = (W.2.sync.1, ⟨W.2.sync.2, m, n, k, true⟩)))) := by
  obtain ⟨ho, hw, hh, hx⟩ := h
  have hc := cont_len hl
  obtain ⟨e0, e1⟩ := place_read hl hw
  have ev : D.vopen 2 = vlast (vgo 2 (D.readB 2 0 6) [0, 1] (open0 D)) := by
    unfold DM.vopen
    rw [if_neg (by simp [ho]), if_neg (by decide)]
  rw [ev, vgo_two]
  generalize D.readB 2 0 6 = B at e0 e1
  obtain ⟨hk, hmo, hA⟩ := hh
  have hrd := oth_read hc hx hn hm
  have k01 : k = 0 ∨ k = 1 := by omega
  rcases k01 with rfl | rfl
  · rcases hA with ⟨-, h, -⟩ | ⟨hn0, hnb, hmay, hwr⟩
    · cases h
    have r0 : vround 2 B 0 (open0 D) = (0, ⟨D, m, n, 0, false⟩) := vround_cnt (e0.trans hwr) (readP_wr hnb hn0 hmo hmay) (by simp [open0]; omega)
    rw [r0]
    simp only [if_true]
    rcases hrd with h0 | ⟨n', m2, h1, h2, h3, h4, h5⟩ | ⟨h1, h2, h3⟩
    · by_cases hz : plS (cont D) 1 = z384
      · rw [vround_zero (e1.trans hz), vlast_not rfl]
        exact .inl ⟨rfl, .inl hz⟩
      · rw [vround_cl e1 h0 hz]
        refine .inr (.inr ⟨_, rfl, ?_⟩)
        by_cases he : (D.writes 2 (cleanFrom 1 (plS (cont D) 1) 0)).1 = 0
        · refine .inr ⟨he, ?_⟩
          simp only [he]
          rw [vlast_cl rfl]
        · refine .inl ⟨he, ?_⟩
          rw [vlast_err he]
          exact ⟨rfl, rfl⟩
    · rw [vround_less e1 h1 h2 (by simp; omega), vlast_not rfl]
      exact .inl ⟨rfl, .inr ⟨n', m2, h3, h4, h5⟩⟩
    · rw [vround_cnt e1 h1 (by simp), vlast_not rfl]
      exact .inr (.inl ⟨rfl, h2, h3⟩)
  · have r1 : ∀ s : OpenS, s.n < n ∨ (s.n = 0 ∧ s.m = mK0 ∧ s.at_ = 1 ∧ n = 0) → vround 2 B 1 s = (0, ⟨s.D, m, n, 1, s.cl⟩) := by
      intro s hs
      rcases hA with ⟨hn0, -, hm0, hz⟩ | ⟨hn0, hnb, hmay, hwr⟩
      · rcases hs with hs | ⟨a, b, c, -⟩
        · omega
        · rw [vround_zero (e1.trans hz)]
          obtain ⟨D', m1, n1, k1, cl1⟩ := s
          simp only at a b c
          rw [a, b, c, hn0, hm0]
      · rw [vround_cnt (e1.trans hwr) (readP_wr hnb hn0 hmo hmay) (by omega)]
    have h00 : (open0 D).n < n ∨ ((open0 D).n = 0 ∧ (open0 D).m = mK0 ∧ (open0 D).at_ = 1 ∧ n = 0) := by
      by_cases hn0 : n = 0
      · exact .inr ⟨rfl, rfl, rfl, hn0⟩
      · exact .inl (by simp [open0]; omega)
    rcases hrd with h0 | ⟨n', m2, h1, h2, h3, h4, h5⟩ | ⟨h1, h2, h3⟩
    · by_cases hz : plS (cont D) 0 = z384
      · rw [vround_zero (e0.trans hz)]
        simp only [if_true]
        rw [r1 _ h00, vlast_not rfl]
        exact .inl ⟨rfl, .inl hz⟩
      · rw [vround_cl e0 h0 hz]
        refine .inr (.inr ⟨_, rfl, ?_⟩)
        by_cases he : (D.writes 2 (cleanFrom 0 (plS (cont D) 0) 0)).1 = 0
        · refine .inr ⟨he, ?_⟩
          have he' : ((open0 D).D.writes 2 (cleanFrom 0 (plS (cont D) 0) 0)).1 = 0 := he
          simp only [he', if_true]
          rw [r1 ⟨((open0 D).D.writes 2 (cleanFrom 0 (plS (cont D) 0) 0)).2, (open0 D).m, (open0 D).n, (open0 D).at_, true⟩ h00, vlast_cl rfl]
          rfl
        · refine .inl ⟨he, ?_⟩
          have he' : ¬ ((open0 D).D.writes 2 (cleanFrom 0 (plS (cont D) 0) 0)).1 = 0 := he
          simp only [he', if_false]
          rw [vlast_err he']
          exact ⟨rfl, rfl⟩
    · rw [vround_cnt e0 h1 (by simp [open0]; omega)]
      simp only [if_true]
      rw [r1 _ (.inl h3), vlast_not rfl]
      exact .inl ⟨rfl, .inr ⟨n', m2, h3, h4, h5⟩⟩
    · rw [vround_cnt e0 h1 (by simp [open0])]
      simp only [if_true]
      have e : vround 2 B 1 ⟨D, m', n + 1, 0, false⟩ = (0, ⟨D, m', n + 1, 0, false⟩) := by
        rcases hA with ⟨hn0, -, hm0, hz⟩ | ⟨hn0, hnb, hmay, hwr⟩
        · exact vround_zero (e1.trans hz)
        · exact vround_less (e1.trans hwr) (readP_wr hnb hn0 hmo hmay) hn0 (by simp)
      rw [show vround 2 B 1 { D := (open0 D).D, m := m', n := n + 1, at_ := 0, cl := (open0 D).cl } = (0, ⟨D, m', n + 1, 0, false⟩) from e, vlast_not rfl]
      exact .inr (.inl ⟨rfl, h2, h3⟩)
end Go.Proofs

namespace Go.Proofs
open Go Go.Vc

theorem crashed_nil {T : List (Int × Sec)} (h : Crashed [] T) : T = [] := by
  rcases h with ⟨k, rfl⟩ | ⟨k, x, t, hx, rfl⟩
  · simp
  · simp at hx
theorem crash_idle {D : DM} (hw : D.waits = []) (keep : Nat) (torn : List UInt8) : cont (D.crash keep torn) = cont D := by
  obtain ⟨T, h1, h2⟩ := crash_cont (l := []) (j := 0) (keep := keep) (torn := torn) (by simpa using hw)
  rw [h2, crashed_nil h1]
  rfl
theorem crash_len {D : DM} (hl : LenOk D) (hw : ∀ p ∈ D.waits, p.2.length = 128) (keep : Nat) (torn : List UInt8) : LenOk (D.crash keep torn) := by
  have h1 := putL_len hl (ws := D.waits.take keep) fun p hp => hw p (List.mem_of_mem_take hp)
  unfold LenOk DM.crash
  cases hk : D.waits[keep]? with
  | none => exact h1
  | some q =>
    by_cases ht : torn = []
    · simp only [ht, if_true]
      exact h1
    · simp only [ht, if_false]
      exact putL_len (ws := [(q.1, tornSec torn)]) h1 (by simp [tornSec_length])
theorem oth_of {c : Nat → Sec} {n g : Nat} {m' : MarkM} (hl : ∀ i, (c i).length = 128) (h : plS c g = z384 ∨ ∃ n' m2, n' < n ∧ m2.ok ∧ plS c g = wr n' m2) : Oth c n g m' := by
  rcases h with h | ⟨n', m2, h1, h2, h3⟩
  · exact .inl (.inl ((plS_zero hl).1 h).2.2)
  · exact .inl (.inr ⟨n', m2, h1, h2, ((plS_wr hl).1 h3).2.2⟩)
theorem Idle.pend {D : DM} {n k : Nat} {m m' : MarkM} (hl : LenOk D) (h : Idle D n m k) : Pend D n m k m' := ⟨h.off, h.waits, h.holds, oth_of (cont_len hl) h.other⟩
theorem Pend.crash {D : DM} {n k : Nat} {m m' : MarkM} (h : Pend D n m k m') (keep : Nat) (torn : List UInt8) : Pend (D.crash keep torn) n m k m' :=
  ⟨rfl, rfl, by rw [crash_idle h.waits]; exact h.holds, by rw [crash_idle h.waits]; exact h.other⟩
theorem arm_is {D : DM} {a : Int} (ho : D.off = false) (ha : 0 ≤ a) : (D.arm a).1 = 0 ∧ (D.arm a).2.lasts = D.lasts ∧ (D.arm a).2.waits = D.waits ∧ (D.arm a).2.off = false := by
  unfold DM.arm
  rw [if_neg (by simp [ho]), if_neg (by omega)]
  exact ⟨rfl, rfl, rfl, ho⟩
theorem Pend.arm {D : DM} {n k : Nat} {m m' : MarkM} (h : Pend D n m k m') {a : Int} (ha : 0 ≤ a) : (D.arm a).1 = 0 ∧ Pend (D.arm a).2 n m k m' := by
  obtain ⟨h1, h2, h3, h4⟩ := arm_is h.off ha
  have e : cont (D.arm a).2 = cont D := by unfold cont; rw [h2]
  exact ⟨h1, h4, h3.trans h.waits, by rw [e]; exact h.holds, by rw [e]; exact h.other⟩
theorem Idle.arm {D : DM} {n k : Nat} {m : MarkM} (h : Idle D n m k) {a : Int} (ha : 0 ≤ a) : (D.arm a).1 = 0 ∧ Idle (D.arm a).2 n m k := by
  obtain ⟨h1, h2, h3, h4⟩ := arm_is h.off ha
  have e : cont (D.arm a).2 = cont D := by unfold cont; rw [h2]
  exact ⟨h1, h4, h3.trans h.waits, by rw [e]; exact h.holds, by rw [e]; exact h.other⟩

theorem clean_all {c : Nat → Sec} {g : Nat} (hl : ∀ i, (c i).length = 128) : plS (updC c (cleanFrom g (plS c g) 0)) g = z384 := by
  obtain ⟨s0, s1, s2⟩ := plS_secI (k := g) hl
  rw [clean_is, s0, s1, s2, z384_three]
  unfold plS
  by_cases h0 : c (3 * g) = zsec <;> by_cases h1 : c (3 * g + 1) = zsec <;> by_cases h2 : c (3 * g + 2) = zsec <;> simp [updC, h0, h1, h2]
theorem cleanAddr {D : DM} {k : Nat} {c : Nat → Sec} {T : List (Int × Sec)} (hT : Crashed (cleanFrom (1 - k) (plS c (1 - k)) 0) T) : ∀ x ∈ T, ∃ j, j < 3 ∧ x.1 = ((3 * (1 - k) + j : Nat) : Int) := fun x hx => by
  obtain ⟨y, hy, e⟩ := hT.sub x hx
  obtain ⟨-, j, h1, h2⟩ := clean_addr y hy
  exact ⟨j, h1, e.trans h2⟩

/-- An opening, the power may go. -/
theorem open_try {D : DM} {n k : Nat} {m m' : MarkM} (hl : LenOk D) (h : Pend D n m k m') (hn : n + 1 < 18446744073709551616) (hm : m'.ok) :
    ((D.vopen 2).1 = 0 ∨ ((D.vopen 2).1 = 180 ∧ (D.vopen 2).2.D.off = true)) ∧ (∀ keep torn, Pend ((D.vopen 2).2.D.crash keep torn) n m k m') ∧
    (D.armed = false → (D.vopen 2).1 = 0) ∧ (D.vopen 2).2.D.waits.length ≤ 3 ∧
    ((D.vopen 2).1 = 0 → Idle (D.vopen 2).2.D (D.vopen 2).2.n (D.vopen 2).2.m (D.vopen 2).2.at_ ∧ (((D.vopen 2).2.m = m ∧ (D.vopen 2).2.n = n) ∨ ((D.vopen 2).2.m = m' ∧ (D.vopen 2).2.n = n + 1))) := by
  have hc := cont_len hl
  have hle := h.holds.le
  rcases vopen_spec hl h hn hm with ⟨e, hX⟩ | ⟨e, hmay, hX⟩ | ⟨W, hW, hS⟩
  · rw [e]
    exact ⟨.inl rfl, fun keep torn => h.crash keep torn, fun _ => rfl, by simp [h.waits], fun _ => ⟨⟨h.off, h.waits, h.holds, hX⟩, .inl ⟨rfl, rfl⟩⟩⟩
  · rw [e]
    refine ⟨.inl rfl, fun keep torn => h.crash keep torn, fun _ => rfl, by simp [h.waits], fun _ => ⟨⟨h.off, h.waits, ⟨by show 1 - k ≤ 1; omega, hm, .inr ⟨by simp, hn, hmay, hX⟩⟩, ?_⟩, .inr ⟨rfl, rfl⟩⟩⟩
    show plS (cont D) (1 - (1 - k)) = z384 ∨ ∃ n' m2, n' < n + 1 ∧ m2.ok ∧ plS (cont D) (1 - (1 - k)) = wr n' m2
    rw [show 1 - (1 - k) = k by omega]
    rcases h.holds.out with ⟨-, -, -, hz⟩ | ⟨-, -, -, hz⟩
    · exact .inl hz
    · exact .inr ⟨n, m, by omega, h.holds.ok, hz⟩
  · have hadr : ∀ x ∈ cleanFrom (1 - k) (plS (cont D) (1 - k)) 0, x.2.length = 128 ∧ 0 ≤ x.1 ∧ x.1 < 8192 := fun x hx => by
      obtain ⟨h1, j, h2, h3⟩ := clean_addr x hx
      rw [h1, h3]
      exact ⟨zsec_length, by omega, by omega⟩
    obtain ⟨j, w1, w2, w3, w4⟩ := writes_spec _ D h.off hadr
    rw [← hW, h.waits, List.nil_append] at w2
    rw [← hW] at w1 w3 w4
    have hw3 : W.2.waits.length ≤ 3 := by
      rw [w2, List.length_map, List.length_take]
      have := (cleanFrom_len (1 - k) (plS (cont D) (1 - k)) 0).1
      omega
    -- a crash while these wait
    have key : ∀ D' : DM, D'.lasts = D.lasts → D'.waits = W.2.waits → ∀ keep torn, Pend (D'.crash keep torn) n m k m' := by
      intro D' e1 e2 keep torn
      obtain ⟨T, hT, eT⟩ := crash_cont (D := D') (keep := keep) (torn := torn) (e2.trans w2)
      have ec : cont D' = cont D := by unfold cont; rw [e1]
      rw [ec] at eT
      exact ⟨rfl, rfl, by rw [eT]; exact holds_keep h.holds (cleanAddr (D := D) hT), by rw [eT]; exact oth_clean hc h.other hT⟩
    rcases hS with ⟨he, r1, r2⟩ | ⟨he, r⟩
    · rw [r1, r2]
      rcases w3 with ⟨w3, -⟩ | ⟨w3, w5⟩
      · exact absurd w3 he
      · exact ⟨.inr ⟨w3, w5⟩, key W.2 w1 rfl, fun ha => absurd (w4 ha).1 he, hw3, fun e => absurd e he⟩
    · rw [r]
      rcases w3 with ⟨-, w5, w6⟩ | ⟨w3, -⟩
      · rw [w5] at w2
        obtain ⟨hs, hsa⟩ := sync_is w6
        have harm : D.armed = false → W.2.sync.1 = 0 := fun ha => (hsa (w4 ha).2).1
        rcases hs with ⟨s1, s2, s3, s4⟩ | ⟨s1, s2, s3, s4⟩
        · have ec : cont W.2.sync.2 = updC (cont D) (cleanFrom (1 - k) (plS (cont D) (1 - k)) 0) := by
            have := cont_putL (cleanFrom (1 - k) (plS (cont D) (1 - k)) 0) D.lasts
            unfold cont
            rw [s2, w1, w2]
            exact this
          have hT : Crashed (cleanFrom (1 - k) (plS (cont D) (1 - k)) 0) (cleanFrom (1 - k) (plS (cont D) (1 - k)) 0) := .inl ⟨_, (List.take_length).symm⟩
          have hh' := holds_keep h.holds (cleanAddr (D := D) hT)
          have hz := clean_all (g := 1 - k) hc
          rw [← ec] at hh' hz
          have hi : Idle W.2.sync.2 n m k := ⟨s4, s3, hh', .inl hz⟩
          refine ⟨.inl s1, fun keep torn => ?_, harm, by simp [s3], fun _ => ⟨hi, .inl ⟨rfl, rfl⟩⟩⟩
          have hoth := oth_clean hc h.other hT
          rw [← ec] at hoth
          exact Pend.crash ⟨s4, s3, hh', hoth⟩ keep torn
        · exact ⟨.inr ⟨s1, s4⟩, key W.2.sync.2 (s2.trans w1) s3, harm, by rw [s3]; exact hw3, fun e => absurd (e.symm.trans s1) (by decide)⟩
      · rw [w3] at he
        cases he

theorem placeW_is (g : Nat) (p : List UInt8) : placeW g p = [(((3 * g : Nat) : Int), secI p 0), (((3 * g + 1 : Nat) : Int), secI p 1), (((3 * g + 2 : Nat) : Int), secI p 2)] := by
  simp [placeW, List.range_succ]
theorem wr_secI (n : Nat) (m : MarkM) : secI (wr n m) 0 = secW 0 n m ∧ secI (wr n m) 1 = secW 1 n m ∧ secI (wr n m) 2 = secW 2 n m := by
  rw [wr_three]
  exact ⟨secI_0 (secW_length ..), secI_1 (secW_length ..) (secW_length ..), secI_2 (secW_length ..) (secW_length ..) (secW_length ..)⟩
theorem oth_set {c : Nat → Sec} {n g : Nat} {m' : MarkM} {T : List (Int × Sec)} (h : c (3 * g + 2) = zsec ∨ ∃ n' m2, n' < n ∧ m2.ok ∧ c (3 * g + 2) = secW 2 n' m2) (hT : Crashed (placeW g (wr (n + 1) m')) T) : Oth (updC c T) n g m' := by
  obtain ⟨s0, s1, s2⟩ := wr_secI (n + 1) m'
  rw [placeW_is, s0, s1, s2] at hT
  have keep : ∀ T, (∀ x ∈ T, x.1 ≠ ((3 * g + 2 : Nat) : Int)) → Oth (updC c T) n g m' := fun T hT => .inl (by rw [updC_not T c _ hT]; exact h)
  have new : ∀ T, updC c T (3 * g + 1) = secW 1 (n + 1) m' → Oth (updC c T) n g m' := fun T hT => .inr (.inl hT)
  rcases hT with ⟨k, rfl⟩ | ⟨k, x, t, hx, rfl⟩
  · match k with
    | 0 => exact keep _ (by simp)
    | 1 => exact keep _ (by simp; omega)
    | 2 => exact new _ (by simp [updC])
    | k + 3 => exact new _ (by simp [updC])
  · match k with
    | 0 =>
      simp only [List.getElem?_cons_zero, Option.some.injEq] at hx
      subst hx
      exact keep _ (by simp; omega)
    | 1 =>
      simp only [List.getElem?_cons_succ, List.getElem?_cons_zero, Option.some.injEq] at hx
      subst hx
      exact keep _ (by simp; omega)
    | 2 =>
      simp only [List.getElem?_cons_succ, List.getElem?_cons_zero, Option.some.injEq] at hx
      subst hx
      exact new _ (by simp [updC])
    | k + 3 => simp at hx
theorem set_all {c : Nat → Sec} {n g : Nat} {m' : MarkM} : plS (updC c (placeW g (wr (n + 1) m'))) g = wr (n + 1) m' := by
  obtain ⟨s0, s1, s2⟩ := wr_secI (n + 1) m'
  rw [placeW_is, s0, s1, s2, wr_three]
  unfold plS
  simp [updC]
  rw [if_neg (by omega), if_neg (by omega)]
theorem setAddr {k : Nat} {p : List UInt8} {T : List (Int × Sec)} (hT : Crashed (placeW (1 - k) p) T) : ∀ x ∈ T, ∃ j, j < 3 ∧ x.1 = ((3 * (1 - k) + j : Nat) : Int) := fun x hx => by
  obtain ⟨y, hy, e⟩ := hT.sub x hx
  rw [placeW_is] at hy
  simp only [List.mem_cons, List.not_mem_nil, or_false] at hy
  rcases hy with rfl | rfl | rfl
  · exact ⟨0, by omega, e⟩
  · exact ⟨1, by omega, e⟩
  · exact ⟨2, by omega, e⟩

/-- A mark is set, the power may go. -/
theorem set_spec {D : DM} {n k : Nat} {m m' : MarkM} (hl : LenOk D) (h : Idle D n m k) (hn : n + 1 < 18446744073709551616) (hm : m'.ok) (hmay : m'.may = true) :
    ((D.vset 2 n k m').1 = 0 ∧ Idle (D.vset 2 n k m').2 (n + 1) m' (1 - k)) ∨ ((D.vset 2 n k m').1 = 180 ∧ (D.vset 2 n k m').2.off = true ∧ (D.vset 2 n k m').2.waits.length ≤ 3 ∧ ∀ keep torn, Pend ((D.vset 2 n k m').2.crash keep torn) n m k m') := by
  have hc := cont_len hl
  have hle := h.holds.le
  have hadr : ∀ x ∈ placeW (1 - k) (wr (n + 1) m'), x.2.length = 128 ∧ 0 ≤ x.1 ∧ x.1 < 8192 := fun x hx => by
    refine ⟨(placeW_len (1 - k) (wr_length (n + 1) m')).2 x hx, ?_⟩
    rw [placeW_is] at hx
    simp only [List.mem_cons, List.not_mem_nil, or_false] at hx
    rcases hx with rfl | rfl | rfl
    · exact ⟨by simp only; omega, by simp only; omega⟩
    · exact ⟨by simp only; omega, by simp only; omega⟩
    · exact ⟨by simp only; omega, by simp only; omega⟩
  obtain ⟨j, w1, w2, w3, w4⟩ := writes_spec _ D h.off hadr
  unfold DM.vset DM.vset1
  rw [h.waits, List.nil_append] at w2
  generalize D.writes 2 (placeW (1 - k) (wr (n + 1) m')) = W at w1 w2 w3 w4 ⊢
  have hw3 : W.2.waits.length ≤ 3 := by
    rw [w2, List.length_map, List.length_take, (placeW_len (1 - k) (wr_length (n + 1) m')).1]
    omega
  have ho : cont D (3 * (1 - k) + 2) = zsec ∨ ∃ n' m2, n' < n ∧ m2.ok ∧ cont D (3 * (1 - k) + 2) = secW 2 n' m2 := by
    rcases h.other with h | ⟨n', m2, h1, h2, h3⟩
    · exact .inl ((plS_zero hc).1 h).2.2
    · exact .inr ⟨n', m2, h1, h2, ((plS_wr hc).1 h3).2.2⟩
  have key : ∀ D' : DM, D'.lasts = D.lasts → D'.waits = W.2.waits → ∀ keep torn, Pend (D'.crash keep torn) n m k m' := by
    intro D' e1 e2 keep torn
    obtain ⟨T, hT, eT⟩ := crash_cont (D := D') (keep := keep) (torn := torn) (e2.trans w2)
    have ec : cont D' = cont D := by unfold cont; rw [e1]
    rw [ec] at eT
    exact ⟨rfl, rfl, by rw [eT]; exact holds_keep h.holds (setAddr hT), by rw [eT]; exact oth_set ho hT⟩
  rcases w3 with ⟨w3, w5, w6⟩ | ⟨w3, w6⟩
  · rw [if_pos w3]
    rw [w5] at w2
    obtain ⟨hs, hsa⟩ := sync_is w6
    rcases hs with ⟨s1, s2, s3, s4⟩ | ⟨s1, s2, s3, s4⟩
    · have ec : cont W.2.sync.2 = updC (cont D) (placeW (1 - k) (wr (n + 1) m')) := by
        have := cont_putL (placeW (1 - k) (wr (n + 1) m')) D.lasts
        unfold cont
        rw [s2, w1, w2]
        exact this
      have hT : Crashed (placeW (1 - k) (wr (n + 1) m')) (placeW (1 - k) (wr (n + 1) m')) := .inl ⟨_, (List.take_length).symm⟩
      have hh' := holds_keep h.holds (setAddr hT)
      have hz := set_all (c := cont D) (n := n) (g := 1 - k) (m' := m')
      rw [← ec] at hh' hz
      refine .inl ⟨s1, s4, s3, ⟨by omega, hm, .inr ⟨by omega, hn, hmay, hz⟩⟩, ?_⟩
      rw [show 1 - (1 - k) = k by omega]
      rcases hh'.out with ⟨-, -, -, hz⟩ | ⟨-, -, -, hz⟩
      · exact .inl hz
      · exact .inr ⟨n, m, by omega, h.holds.ok, hz⟩
    · exact .inr ⟨s1, s4, by rw [s3]; exact hw3, key W.2.sync.2 (s2.trans w1) s3⟩
  · rw [if_neg (by rw [w3]; decide)]
    exact .inr ⟨w3, w6, hw3, key W.2 w1 rfl⟩

/-- A new disk, opened. -/
theorem idle_new : Idle DM.new 0 mK0 1 := by
  refine ⟨rfl, rfl, ⟨by omega, by simp [MarkM.ok, mK0], .inl ⟨rfl, rfl, rfl, ?_⟩⟩, .inl ?_⟩
  · rw [z384_three]; rfl
  · rw [z384_three]; rfl
end Go.Proofs
