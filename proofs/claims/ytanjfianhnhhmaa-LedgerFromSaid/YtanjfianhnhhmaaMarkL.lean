/-
  Plain laws of the ledger: sums over positions, funds, and what Mark leaves.
  Conditions: where they ask for any, each theorem names them.
-/
import Derived.Test.YtanjfianhnhhmaaApartL
set_option linter.unusedVariables false
set_option linter.unusedSimpArgs false
namespace Go.Proofs
open Go Go.Vc

/-! ### Sums over positions -/
def sumF (g : Po → Int) (l : List Po) : Int := (l.map g).sum
theorem sumF_perm {g : Po → Int} {l l' : List Po} (h : l.Perm l') : sumF g l = sumF g l' := perm_sum (h.map g)
theorem sumF_append {g : Po → Int} {l l' : List Po} : sumF g (l ++ l') = sumF g l + sumF g l' := by simp [sumF]
theorem split_key {l : List Po} (hs : SortP l) (k : Int × Int) : l.Perm ((l.find? fun x => decide (x.key = k)).toList ++ l.filter fun x => decide (x.key ≠ k)) := by
  induction l with
  | nil => exact List.Perm.refl _
  | cons p l ih =>
    have hs' : SortP l := (List.pairwise_cons.1 hs).2
    have hp := (List.pairwise_cons.1 hs).1
    by_cases h : p.key = k
    · rw [List.find?_cons_of_pos (by simpa using h), List.filter_cons_of_neg (by simpa using h)]
      simp only [Option.toList_some, List.singleton_append]
      refine List.Perm.cons _ (List.Perm.of_eq ?_)
      symm
      refine List.filter_eq_self.2 fun x hx => ?_
      have := klt_ne (hp x hx)
      simpa using fun e : x.key = k => this (h.trans e.symm)
    · rw [List.find?_cons_of_neg (by simpa using h), List.filter_cons_of_pos (by simpa using h)]
      exact ((ih hs').cons p).trans List.perm_middle.symm
theorem sumF_putP {S : Led} (hs : SortP S.held) {g : Po → Int} (hz : ∀ p, p.isZ = true → g p = 0) (p : Po) : sumF g (S.putP p).held = sumF g S.held + g p - g (S.position p.c p.a) := by
  have h1 := sumF_perm (g := g) (insP_perm S.held p)
  have h2 := sumF_perm (g := g) (split_key hs p.key)
  rw [sumF_append] at h1 h2
  have e1 : sumF g (if p.isZ = true then [] else [p]) = g p := by
    cases h : p.isZ with
    | true => simp [sumF, hz p h]
    | false => simp [sumF]
  have e2 : sumF g (S.held.find? fun x => decide (x.key = p.key)).toList = g (S.position p.c p.a) := by
    unfold Led.position Led.pos?
    show _ = g ((S.held.find? fun x => decide (x.key = p.key)).getD _)
    cases S.held.find? fun x => decide (x.key = p.key) with
    | none => simp [sumF, hz ⟨p.c, p.a, 0, 0⟩ (by simp [Po.isZ])]
    | some x => simp [sumF]
  rw [e1] at h1
  rw [e2] at h2
  show sumF g (insP S.held p) = _
  omega

/-- A contract's quantities, and its bases. -/
def gq (c : Int) (p : Po) : Int := if p.c = c then p.q else 0
def gb (c : Int) (p : Po) : Int := if p.c = c then p.b else 0
theorem gq_z (c : Int) : ∀ p, p.isZ = true → gq c p = 0 := fun p h => by
  unfold Po.isZ at h; simp only [decide_eq_true_eq] at h; unfold gq; split <;> simp [h]
theorem gb_z (c : Int) : ∀ p, p.isZ = true → gb c p = 0 := fun p h => by
  unfold Po.isZ at h; simp only [decide_eq_true_eq] at h; unfold gb; split <;> simp [h]
theorem sum_holders (S : Led) (c : Int) (f : Po → Int) : sumF f (S.holders c) = sumF (fun p => if p.c = c then f p else 0) S.held := by
  unfold Led.holders sumF
  induction S.held with
  | nil => rfl
  | cons p l ih =>
    by_cases h : p.c = c
    · rw [List.filter_cons_of_pos (by simpa using h)]
      simp [ih, h]
    · rw [List.filter_cons_of_neg (by simpa using h)]
      simp [ih, h]

theorem Led.trade_sum {S : Led} (hok : S.Ok) {c b s p n : Int} (k : Int) :
    sumF (gq k) (S.trade c b s p n).2.held = sumF (gq k) S.held ∧ sumF (gb k) (S.trade c b s p n).2.held = sumF (gb k) S.held := by
  by_cases he : (S.trade c b s p n).1 = 0
  · obtain ⟨hbs, h2⟩ := Led.trade_ok he
    rw [h2]
    have hs1 := insP_sort hok.sp ⟨c, b, (S.position c b).q + n, (S.position c b).b + p * n⟩
    obtain ⟨x1, x2, -⟩ := hok.position c b
    obtain ⟨y1, y2, -⟩ := hok.position c s
    have e3 : (S.putP ⟨c, b, (S.position c b).q + n, (S.position c b).b + p * n⟩).position c s = S.position c s := by
      rw [Led.position_putP hok.sp]
      rw [if_neg (fun h => hbs h.2.symm)]
    constructor
    · rw [sumF_putP hs1 (gq_z k), sumF_putP hok.sp (gq_z k)]
      simp only [e3]
      unfold gq
      rw [x1, y1]
      by_cases hk : c = k <;> simp [hk] <;> omega
    · rw [sumF_putP hs1 (gb_z k), sumF_putP hok.sp (gb_z k)]
      simp only [e3]
      unfold gb
      rw [x1, y1]
      by_cases hk : c = k <;> simp [hk] <;> omega
  · have : (S.trade c b s p n).2 = S := by
      unfold Led.trade at he ⊢
      split
      · rfl
      · split
        · rfl
        · simp only at he ⊢
          split
          · rfl
          · rename_i h1 h2 h3
            rw [if_neg h1, if_neg h2, if_neg h3] at he
            exact absurd rfl he
    rw [this]
    exact ⟨rfl, rfl⟩

/-! ### Mark -/
theorem marked_sort {l : List Po} {price : Int} {cl : Bool} : ∀ {S : Led}, SortP S.held → SortP (S.marked l price cl).held := by
  induction l with
  | nil => intro S h; exact h
  | cons p l ih => intro S h; exact ih (S := S.putP (p.mark price cl)) (insP_sort h _)
theorem mark_c (p : Po) (price : Int) (cl : Bool) : (p.mark price cl).c = p.c ∧ (p.mark price cl).a = p.a := by
  unfold Po.mark; cases cl <;> exact ⟨rfl, rfl⟩
theorem marked_pos {price : Int} {cl : Bool} : ∀ {l : List Po} {S : Led}, SortP S.held → SortP l → ∀ c a, (S.marked l price cl).position c a = match l.find? (fun x => decide (x.key = (c, a))) with | some p => p.mark price cl | none => S.position c a := by
  intro l
  induction l with
  | nil => intro S hs hl c a; rfl
  | cons p l ih =>
    intro S hs hl c a
    have hp := (List.pairwise_cons.1 hl).1
    show ((S.putP (p.mark price cl)).marked l price cl).position c a = _
    rw [ih (insP_sort hs _) (List.pairwise_cons.1 hl).2]
    by_cases h : p.key = (c, a)
    · rw [List.find?_cons_of_pos (by simpa using h)]
      have hno : l.find? (fun x => decide (x.key = (c, a))) = none := by
        rw [List.find?_eq_none]
        intro x hx
        have := klt_ne (hp x hx)
        simpa using fun e : x.key = (c, a) => this (h.trans e.symm)
      rw [hno]
      simp only
      rw [Led.position_putP hs]
      simp only [Po.key, Prod.mk.injEq] at h
      rw [if_pos ⟨by rw [(mark_c p price cl).1]; exact h.1.symm, by rw [(mark_c p price cl).2]; exact h.2.symm⟩]
    · rw [List.find?_cons_of_neg (by simpa using h)]
      cases l.find? fun x => decide (x.key = (c, a)) with
      | some x => rfl
      | none =>
        simp only
        rw [Led.position_putP hs, (mark_c p price cl).1, (mark_c p price cl).2, if_neg]
        intro e
        exact h (by simp [Po.key, e.1, e.2])
theorem holders_sort {S : Led} (h : SortP S.held) (c : Int) : SortP (S.holders c) := h.filter _
theorem holders_find (S : Led) (c a k : Int) : (S.holders c).find? (fun x => decide (x.key = (k, a))) = if k = c then S.pos? (c, a) else none := by
  unfold Led.holders Led.pos?
  by_cases hk : k = c
  · subst hk
    rw [if_pos rfl]
    induction S.held with
    | nil => rfl
    | cons p l ih =>
      by_cases h : p.c = k
      · rw [List.filter_cons_of_pos (by simpa using h), List.find?_cons, List.find?_cons, ih]
      · rw [List.filter_cons_of_neg (by simpa using h), ih, List.find?_cons_of_neg]
        simp [Po.key]
        intro e
        exact absurd e h
  · rw [if_neg hk, List.find?_eq_none]
    intro x hx
    have : x.c = c := by simpa using (List.mem_filter.1 hx).2
    simp [Po.key]
    intro e
    exact absurd (e.symm.trans this) hk
/-- What Mark leaves of a position. -/
theorem Led.mark_pos {S : Led} (hs : SortP S.held) (c price : Int) (cl : Bool) (k a : Int) : (S.marked (S.holders c) price cl).position k a = if k = c then (S.position c a).mark price cl else S.position k a := by
  rw [marked_pos hs (holders_sort hs c), holders_find]
  by_cases hk : k = c
  · subst hk
    rw [if_pos rfl, if_pos rfl]
    unfold Led.position
    cases S.pos? (k, a) with
    | some p => rfl
    | none =>
      simp only [Option.getD_none]
      unfold Po.mark
      cases cl <;> simp
  · rw [if_neg hk, if_neg hk]
/-- What an account wins by a mark. -/
def wonBy (v : List (Int × Int)) (n : Int) : Int := ((v.find? fun x => decide (x.1 = n)).map (·.2)).getD 0
theorem Led.won_pos {S : Led} (c price n : Int) : wonBy ((S.holders c).map fun p => (p.a, p.q * price - p.b)) n = (S.position c n).q * price - (S.position c n).b := by
  unfold wonBy
  rw [List.find?_map]
  have : (S.holders c).find? ((fun x : Int × Int => decide (x.1 = n)) ∘ fun p : Po => (p.a, p.q * price - p.b)) = S.pos? (c, n) := by
    have e := holders_find S c n c
    rw [if_pos rfl] at e
    rw [← e]
    unfold Led.holders
    induction S.held with
    | nil => rfl
    | cons p l ih =>
      by_cases h : p.c = c
      · rw [List.filter_cons_of_pos (by simpa using h), List.find?_cons, List.find?_cons, ih]
        have : (((fun x : Int × Int => decide (x.1 = n)) ∘ fun p : Po => (p.a, p.q * price - p.b)) p) = decide (p.key = (c, n)) := by
          simp [Po.key, h]
        rw [this]
      · rw [List.filter_cons_of_neg (by simpa using h), ih]
  rw [this]
  unfold Led.position
  cases S.pos? (c, n) <;> simp

theorem marked_sum {g : Po → Int} (hz : ∀ p, p.isZ = true → g p = 0) {price : Int} {cl : Bool} : ∀ {l : List Po} {S : Led}, SortP S.held → SortP l → (∀ p ∈ l, S.position p.c p.a = p) →
    sumF g (S.marked l price cl).held = sumF g S.held + sumF (fun p => g (p.mark price cl) - g p) l := by
  intro l
  induction l with
  | nil => intro S _ _ _; simp [sumF, Led.marked]
  | cons p l ih =>
    intro S hs hl hp
    have hlt := (List.pairwise_cons.1 hl).1
    show sumF g ((S.putP (p.mark price cl)).marked l price cl).held = _
    rw [ih (insP_sort hs _) (List.pairwise_cons.1 hl).2 ?_, sumF_putP hs hz, (mark_c p price cl).1, (mark_c p price cl).2, hp p List.mem_cons_self]
    · simp only [sumF, List.map_cons, List.sum_cons]; omega
    · intro x hx
      rw [Led.position_putP hs, (mark_c p price cl).1, (mark_c p price cl).2, if_neg, hp x (List.mem_cons_of_mem _ hx)]
      intro e
      have := klt_ne (hlt x hx)
      exact this (by simp [Po.key, e.1, e.2])
theorem sumF_congr {f g : Po → Int} {l : List Po} (h : ∀ p ∈ l, f p = g p) : sumF f l = sumF g l := by
  unfold sumF
  rw [List.map_congr_left h]
theorem sumF_zero (l : List Po) : sumF (fun _ => 0) l = 0 := by
  unfold sumF
  induction l with
  | nil => rfl
  | cons p l ih => simp [ih]
theorem sumF_mul {f : Po → Int} {l : List Po} (x : Int) : sumF (fun p => f p * x) l = sumF f l * x := by
  unfold sumF
  induction l with
  | nil => simp
  | cons p l ih => simp [ih, Int.add_mul]
theorem sumF_sub {f g : Po → Int} {l : List Po} : sumF (fun p => f p - g p) l = sumF f l - sumF g l := by
  unfold sumF
  induction l with
  | nil => simp
  | cons p l ih => simp [ih]; omega

/-- Each contract adds up to nothing. -/
def Led.Zero (S : Led) : Prop := ∀ c, sumF (gq c) S.held = 0 ∧ sumF (gb c) S.held = 0
theorem Led.Zero.holders {S : Led} (h : S.Zero) (c : Int) : sumF (·.q) (S.holders c) = 0 ∧ sumF (·.b) (S.holders c) = 0 := by
  rw [sum_holders, sum_holders]
  exact h c
theorem Led.holders_self {S : Led} (hs : SortP S.held) {c : Int} {p : Po} (hp : p ∈ S.holders c) : S.position p.c p.a = p ∧ p.c = c := by
  obtain ⟨h1, h2⟩ := List.mem_filter.1 hp
  refine ⟨?_, by simpa using h2⟩
  unfold Led.position
  rw [show (p.c, p.a) = p.key from rfl, Led.pos_some hs h1]
  rfl
theorem Led.Zero.mark {S : Led} (hok : S.Ok) (h : S.Zero) (c price : Int) (cl : Bool) : (S.marked (S.holders c) price cl).Zero := by
  intro k
  have hH := holders_sort hok.sp c
  have hself := fun p (hp : p ∈ S.holders c) => (Led.holders_self hok.sp hp).1
  obtain ⟨hq, hb⟩ := h.holders c
  by_cases hk : k = c
  · subst hk
    constructor
    · rw [marked_sum (gq_z k) hok.sp hH hself, (h k).1]
      have : sumF (fun p => gq k (p.mark price cl) - gq k p) (S.holders k) = sumF (fun p => (if cl then 0 else p.q) - p.q) (S.holders k) := sumF_congr fun p hp => by
        have hc := (Led.holders_self hok.sp hp).2
        unfold gq Po.mark
        cases cl <;> simp [hc]
      rw [this, sumF_sub, hq]
      cases cl with
      | true => simp only [if_true]; rw [sumF_zero]; rfl
      | false => simp only [Bool.false_eq_true, if_false]; rw [hq]; rfl
    · rw [marked_sum (gb_z k) hok.sp hH hself, (h k).2]
      have : sumF (fun p => gb k (p.mark price cl) - gb k p) (S.holders k) = sumF (fun p => (if cl then 0 else p.q * price) - p.b) (S.holders k) := sumF_congr fun p hp => by
        have hc := (Led.holders_self hok.sp hp).2
        unfold gb Po.mark
        cases cl <;> simp [hc]
      rw [this, sumF_sub, hb]
      cases cl with
      | true => simp only [if_true]; rw [sumF_zero]; rfl
      | false =>
        simp only [Bool.false_eq_true, if_false]
        rw [sumF_mul (f := fun p => p.q), hq]
        simp
  · have e : ∀ (g : Int → Po → Int), (g = gq ∨ g = gb) → sumF (fun p => g k (p.mark price cl) - g k p) (S.holders c) = 0 := fun g hg => by
      have : sumF (fun p => g k (p.mark price cl) - g k p) (S.holders c) = sumF (fun _ => 0) (S.holders c) := sumF_congr fun p hp => by
        have hc := (Led.holders_self hok.sp hp).2
        have hne : ¬ p.c = k := fun e => hk (e.symm.trans hc)
        rcases hg with rfl | rfl
        · unfold gq; rw [(mark_c p price cl).1, if_neg hne, if_neg hne]; rfl
        · unfold gb; rw [(mark_c p price cl).1, if_neg hne, if_neg hne]; rfl
      rw [this]
      exact sumF_zero _
    constructor
    · rw [marked_sum (gq_z k) hok.sp hH hself, (h k).1, e gq (.inl rfl)]; rfl
    · rw [marked_sum (gb_z k) hok.sp hH hself, (h k).2, e gb (.inr rfl)]; rfl
/-- What a mark wins adds up to nothing. -/
theorem Led.Zero.won {S : Led} (h : S.Zero) (c price : Int) : (((S.holders c).map fun p => (p.a, p.q * price - p.b)).map (·.2)).sum = 0 := by
  obtain ⟨hq, hb⟩ := h.holders c
  have : (((S.holders c).map fun p => (p.a, p.q * price - p.b)).map (·.2)).sum = sumF (fun p => p.q * price - p.b) (S.holders c) := by
    simp [sumF, Function.comp_def]
  rw [this, sumF_sub (f := fun p => p.q * price) (g := fun p => p.b), sumF_mul (f := fun p => p.q), hq, hb]
  simp

/-! ### Funds -/
theorem split_num {l : List Ac} (hs : SortA l) (n : Int) : l.Perm ((l.find? fun x => decide (x.num = n)).toList ++ l.filter fun x => decide (x.num ≠ n)) := by
  induction l with
  | nil => exact List.Perm.refl _
  | cons p l ih =>
    have hs' : SortA l := (List.pairwise_cons.1 hs).2
    have hp := (List.pairwise_cons.1 hs).1
    by_cases h : p.num = n
    · rw [List.find?_cons_of_pos (by simpa using h), List.filter_cons_of_neg (by simpa using h)]
      simp only [Option.toList_some, List.singleton_append]
      refine List.Perm.cons _ (List.Perm.of_eq ?_)
      symm
      refine List.filter_eq_self.2 fun x hx => ?_
      have := hp x hx
      simp; omega
    · rw [List.find?_cons_of_neg (by simpa using h), List.filter_cons_of_pos (by simpa using h)]
      exact ((ih hs').cons p).trans List.perm_middle.symm
theorem Led.funds_putA {S : Led} (hs : SortA S.all) (a : Ac) : (S.putA a).funds = S.funds + a.cash - ((S.getO a.num).getD ⟨0, 0, false, false⟩).cash := by
  unfold Led.putA
  by_cases hz : a.num = 0
  · rw [if_pos hz, hz]
    simp [Led.funds, Led.getO, fundAc]
    omega
  · rw [if_neg hz]
    simp only [Led.funds, Led.getO, if_neg hz, Led.find]
    have h1 := perm_sum ((insA_perm S.all a).map (·.cash))
    have h2 := perm_sum ((split_num hs a.num).map (·.cash))
    rw [List.map_append, List.sum_append] at h2
    simp only [List.map_cons, List.sum_cons] at h1
    have e : ((S.all.find? fun x => decide (x.num = a.num)).toList.map (·.cash)).sum = ((S.all.find? fun x => decide (x.num = a.num)).getD ⟨0, 0, false, false⟩).cash := by
      cases S.all.find? fun x => decide (x.num = a.num) <;> simp
    omega

/-! ### Calls on a ledger -/
structure LOp where
  kind : Int
  a : Int
  b : Int
  c : Int
  n : Int
  m : Int
  acc : Ac
/-- 'play': what is deposited, less what is withdrawn, and the ledger behind it. -/
def Led.play (S : Led) (x : LOp) : Int × Led :=
  if x.kind = 1 then (if (S.deposit x.a x.n).1 = 0 then x.n else 0, (S.deposit x.a x.n).2)
  else if x.kind = 2 then (if (S.withdraw x.a x.n).1 = 0 then -x.n else 0, (S.withdraw x.a x.n).2)
  else if x.kind = 5 then (0, (S.trade x.c x.a x.b x.n x.m).2)
  else if x.kind = 6 then (0, (S.mark x.c x.n x.acc.kil).2.2)
  else (0, S)

theorem Led.deposit_funds {S : Led} (hs : SortA S.all) (n m : Int) : (S.deposit n m).2.funds = S.funds + if (S.deposit n m).1 = 0 then m else 0 := by
  unfold Led.deposit
  split
  · split
    · simp
    · split
      · simp
      · rw [if_pos rfl]
        simp only
        rw [Led.funds_putA hs]
        simp only
        omega
  · simp
theorem Led.withdraw_funds {S : Led} (hs : SortA S.all) (n m : Int) : (S.withdraw n m).2.funds = S.funds + if (S.withdraw n m).1 = 0 then -m else 0 := by
  unfold Led.withdraw
  split
  · simp
  · rename_i h0
    cases hg : S.find n with
    | none => simp
    | some a =>
      simp only
      split
      · simp
      · rw [if_pos rfl]
        simp only
        obtain ⟨hx, hxn⟩ := Led.find_mem hg
        have hn0 : n ≠ 0 := fun e => h0 (.inl e)
        rw [Led.funds_putA hs]
        simp only [Led.getO, hxn, if_neg hn0, hg, Option.getD_some]
        omega
theorem marked_funds (S : Led) (l : List Po) (price : Int) (cl : Bool) : (S.marked l price cl).all = S.all ∧ (S.marked l price cl).fund = S.fund := by
  induction l generalizing S with
  | nil => exact ⟨rfl, rfl⟩
  | cons p l ih => exact ih (S.putP (p.mark price cl))
theorem Led.funds_of {S S' : Led} (h : S'.all = S.all ∧ S'.fund = S.fund) : S'.funds = S.funds := by unfold Led.funds; rw [h.1, h.2]
theorem Led.play_funds {S : Led} (hs : SortA S.all) (x : LOp) : (S.play x).2.funds = S.funds + (S.play x).1 := by
  unfold Led.play
  split
  · exact Led.deposit_funds hs _ _
  · split
    · exact Led.withdraw_funds hs _ _
    · split
      · simp only
        rw [Led.funds_of Led.trade_all]; omega
      · split
        · simp only
          unfold Led.mark
          split
          · simp
          · simp only
            rw [Led.funds_of (marked_funds ..)]; omega
        · simp
theorem Led.putA_held (S : Led) (a : Ac) : (S.putA a).held = S.held := by unfold Led.putA; split <;> rfl
theorem Led.deposit_held (S : Led) (n m : Int) : (S.deposit n m).2.held = S.held := by
  unfold Led.deposit
  split
  · split
    · rfl
    · split
      · rfl
      · exact Led.putA_held _ _
  · rfl
theorem Led.withdraw_held (S : Led) (n m : Int) : (S.withdraw n m).2.held = S.held := by
  unfold Led.withdraw
  split
  · rfl
  · split
    · rfl
    · split
      · rfl
      · exact Led.putA_held _ _
theorem Led.Zero.play {S : Led} (hok : S.Ok) (h : S.Zero) (x : LOp) : (S.play x).2.Zero := by
  unfold Led.play
  split
  · intro c; rw [show (S.deposit x.a x.n).2.held = S.held from Led.deposit_held ..]; exact h c
  · split
    · intro c; rw [show (S.withdraw x.a x.n).2.held = S.held from Led.withdraw_held ..]; exact h c
    · split
      · intro c
        have := Led.trade_sum hok (c := x.c) (b := x.a) (s := x.b) (p := x.n) (n := x.m) c
        simp only
        rw [this.1, this.2]
        exact h c
      · split
        · simp only
          unfold Led.mark
          split
          · exact h
          · exact h.mark hok _ _ _
        · exact h
theorem Led.empty_zero : Led.Zero ⟨0, [], []⟩ := fun c => ⟨rfl, rfl⟩

theorem marked_len {price : Int} {cl : Bool} : ∀ {l : List Po} {S : Led}, SortP S.held → SortP l → (∀ p ∈ l, S.position p.c p.a = p ∧ p.isZ = false) → (S.marked l price cl).held.length ≤ S.held.length := by
  intro l
  induction l with
  | nil => intro S _ _ _; exact Nat.le_refl _
  | cons p l ih =>
    intro S hs hl hp
    have hlt := (List.pairwise_cons.1 hl).1
    obtain ⟨h1, h2⟩ := hp p List.mem_cons_self
    have h3 : ∃ x ∈ S.held, x.key = (p.mark price cl).key := by
      unfold Led.position at h1
      cases ho : S.pos? (p.c, p.a) with
      | none => rw [ho] at h1; rw [← h1] at h2; simp [Po.isZ] at h2
      | some x =>
        obtain ⟨g1, g2⟩ := Led.pos_mem ho
        exact ⟨x, g1, by rw [g2]; unfold Po.key; rw [(mark_c p price cl).1, (mark_c p price cl).2]⟩
    refine Nat.le_trans (ih (S := S.putP (p.mark price cl)) (insP_sort hs _) (List.pairwise_cons.1 hl).2 ?_) (length_insP_of h3)
    intro x hx
    refine ⟨?_, (hp x (List.mem_cons_of_mem _ hx)).2⟩
    rw [Led.position_putP hs, (mark_c p price cl).1, (mark_c p price cl).2, if_neg, (hp x (List.mem_cons_of_mem _ hx)).1]
    intro e
    have := klt_ne (hlt x hx)
    exact this (by simp [Po.key, e.1, e.2])
theorem Led.mark_len {S : Led} (hok : S.Ok) (c price : Int) (cl : Bool) : (S.mark c price cl).2.2.held.length ≤ S.held.length := by
  unfold Led.mark
  split
  · exact Nat.le_refl _
  · exact marked_len hok.sp (holders_sort hok.sp c) fun p hp => ⟨(Led.holders_self hok.sp hp).1, (hok.pos p (List.mem_filter.1 hp).1).2.2.1⟩
theorem Led.trade_len (S : Led) (c b s p n : Int) : (S.trade c b s p n).2.held.length ≤ S.held.length + 2 := by
  unfold Led.trade
  split
  · exact Nat.le_add_right _ _
  · split
    · exact Nat.le_add_right _ _
    · simp only
      split
      · exact Nat.le_add_right _ _
      · have h1 := length_insP_le S.held ⟨c, b, (S.position c b).q + n, (S.position c b).b + p * n⟩
        have h2 := length_insP_le (insP S.held ⟨c, b, (S.position c b).q + n, (S.position c b).b + p * n⟩) ⟨c, s, (S.position c s).q - n, (S.position c s).b - p * n⟩
        show (insP (insP S.held _) _).length ≤ _
        omega
theorem Led.play_len {S : Led} (hok : S.Ok) (x : LOp) : (S.play x).2.held.length ≤ S.held.length + 2 := by
  unfold Led.play
  split
  · simp only; rw [Led.deposit_held]; omega
  · split
    · simp only; rw [Led.withdraw_held]; omega
    · split
      · exact Led.trade_len ..
      · split
        · have := Led.mark_len hok x.c x.n x.acc.kil; simp only; omega
        · simp only; omega
end Go.Proofs
