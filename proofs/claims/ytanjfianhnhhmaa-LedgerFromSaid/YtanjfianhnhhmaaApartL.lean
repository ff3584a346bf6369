/-
  The plain law of LedgerApart: trades of one contract change no other one, and two in either order come to the same.
  Conditions: where they ask for any, each theorem names them.
-/
import Derived.Test.YtanjfianhnhhmaaLedM
set_option linter.unusedVariables false
set_option linter.unusedSimpArgs false
namespace Go.Proofs
open Go Go.Vc

theorem find_unique {l : List Po} (h : SortP l) {p : Po} (hp : p ∈ l) : l.find? (fun x => decide (x.key = p.key)) = some p := Led.pos_some (S := ⟨0, [], l⟩) h hp
theorem Led.pos_putP {S : Led} (h : SortP S.held) (p : Po) (k : Int × Int) : (S.putP p).pos? k = if k = p.key then (if p.isZ then none else some p) else S.pos? k := by
  have hs := insP_sort h p
  by_cases hk : k = p.key
  · subst hk
    rw [if_pos rfl]
    cases hz : p.isZ with
    | true =>
      simp only [if_true]
      unfold Led.pos? Led.putP
      rw [List.find?_eq_none]
      intro x hx
      rcases mem_insP.1 hx with ⟨_, h2⟩ | ⟨_, h2⟩
      · simpa using h2
      · rw [hz] at h2; cases h2
    | false =>
      exact Led.pos_some (S := S.putP p) hs (mem_insP.2 (.inr ⟨rfl, hz⟩))
  · rw [if_neg hk]
    cases ho : S.pos? k with
    | some x =>
      obtain ⟨h1, h2⟩ := Led.pos_mem ho
      have := Led.pos_some (S := S.putP p) hs (mem_insP.2 (.inl ⟨h1, fun e => hk (h2 ▸ e)⟩))
      rwa [h2] at this
    | none =>
      unfold Led.pos? at ho ⊢
      rw [List.find?_eq_none] at ho ⊢
      intro x hx
      rcases mem_insP.1 hx with ⟨h1, _⟩ | ⟨rfl, _⟩
      · exact ho x h1
      · simpa using fun e : x.key = k => hk e.symm
theorem Led.position_putP {S : Led} (h : SortP S.held) (p : Po) (c a : Int) : (S.putP p).position c a = if c = p.c ∧ a = p.a then p else S.position c a := by
  unfold Led.position
  rw [Led.pos_putP h]
  by_cases hk : c = p.c ∧ a = p.a
  · obtain ⟨rfl, rfl⟩ := hk
    rw [if_pos (show (p.c, p.a) = p.key from rfl), if_pos (show p.c = p.c ∧ p.a = p.a from ⟨rfl, rfl⟩)]
    cases hz : p.isZ with
    | false => rfl
    | true =>
      unfold Po.isZ at hz
      simp only [decide_eq_true_eq] at hz
      obtain ⟨pc, pa, pq, pb⟩ := p
      simp only at hz
      simp [hz.1, hz.2]
  · rw [if_neg (fun e => hk (by simpa [Po.key] using e)), if_neg hk]

theorem Led.trade_ok {S : Led} {c b s p n : Int} (h : (S.trade c b s p n).1 = 0) : b ≠ s ∧
    (S.trade c b s p n).2 = (S.putP ⟨c, b, (S.position c b).q + n, (S.position c b).b + p * n⟩).putP ⟨c, s, (S.position c s).q - n, (S.position c s).b - p * n⟩ := by
  unfold Led.trade at h ⊢
  by_cases h1 : c = 0 ∨ b = 0 ∨ s = 0 ∨ b = s ∨ amongB p 1 MP = false ∨ amongB n 1 MP = false
  · rw [if_pos h1] at h; cases h
  · rw [if_neg h1] at h ⊢
    by_cases h2 : S.find b = none ∨ S.find s = none
    · rw [if_pos h2] at h; cases h
    · rw [if_neg h2] at h ⊢
      simp only at h ⊢
      refine ⟨fun e => h1 (.inr (.inr (.inr (.inl e)))), ?_⟩
      split at h
      · cases h
      · rename_i h3
        rw [if_neg h3]
theorem Led.trade_all {S : Led} {c b s p n : Int} : (S.trade c b s p n).2.all = S.all ∧ (S.trade c b s p n).2.fund = S.fund := by
  unfold Led.trade
  split
  · exact ⟨rfl, rfl⟩
  · split
    · exact ⟨rfl, rfl⟩
    · simp only
      split <;> exact ⟨rfl, rfl⟩
theorem Led.position_trade {S : Led} (hs : SortP S.held) {c b s p n : Int} (h : (S.trade c b s p n).1 = 0) (k a : Int) :
    (S.trade c b s p n).2.position k a = if k = c ∧ a = s then ⟨c, s, (S.position c s).q - n, (S.position c s).b - p * n⟩ else if k = c ∧ a = b then ⟨c, b, (S.position c b).q + n, (S.position c b).b + p * n⟩ else S.position k a := by
  obtain ⟨h1, h2⟩ := Led.trade_ok h
  rw [h2, Led.position_putP (insP_sort hs _), Led.position_putP hs]
theorem Led.trade_sort {S : Led} (hs : SortP S.held) {c b s p n : Int} : SortP (S.trade c b s p n).2.held := by
  unfold Led.trade
  split
  · exact hs
  · split
    · exact hs
    · simp only
      split
      · exact hs
      · exact insP_sort (insP_sort hs _) _

/-- The ledger behind the deposits. -/
def dep (i : Nat) : Led := ⟨0, (List.range i).map (fun k : Nat => ⟨(k : Int) + 1, 5, false, false⟩), []⟩
theorem dep_step {i : Nat} (h : i < 4) : (dep i).deposit ((i : Int) + 1) 5 = (0, dep (i + 1)) := by
  rcases (show i = 0 ∨ i = 1 ∨ i = 2 ∨ i = 3 by omega) with rfl | rfl | rfl | rfl <;> rfl
theorem dep_pos (i : Nat) (c a : Int) : (dep i).position c a = ⟨c, a, 0, 0⟩ := rfl
theorem dep_sort (i : Nat) : SortP (dep i).held := List.Pairwise.nil

theorem apart_same {c d p q m n : Int} (he : ((dep 4).trade c 1 2 p m).1 = 0) (hf : (((dep 4).trade c 1 2 p m).2.trade d 2 3 q n).1 = 0) (hg : ((dep 4).trade d 2 3 q n).1 = 0) (hh : (((dep 4).trade d 2 3 q n).2.trade c 1 2 p m).1 = 0) (k a : Int) : (((dep 4).trade c 1 2 p m).2.trade d 2 3 q n).2.position k a = (((dep 4).trade d 2 3 q n).2.trade c 1 2 p m).2.position k a := by
  rw [Led.position_trade (Led.trade_sort (dep_sort 4)) hf, Led.position_trade (Led.trade_sort (dep_sort 4)) hh]
  simp only [Led.position_trade (dep_sort 4) he, Led.position_trade (dep_sort 4) hg, dep_pos]
  clear he hf hg hh
  generalize p * m = u
  generalize q * n = v
  by_cases hc : k = c
  · subst hc
    by_cases hd : k = d
    · subst hd
      by_cases h1 : a = 1
      · subst h1; simp
      · by_cases h2 : a = 2
        · subst h2; simp; omega
        · by_cases h3 : a = 3
          · subst h3; simp
          · simp [h1, h2, h3]
    · have hd' : ¬ d = k := fun e => hd e.symm
      by_cases h1 : a = 1
      · subst h1; simp [hd]
      · by_cases h2 : a = 2
        · subst h2; simp [hd]
        · simp [hd, h1, h2]
  · by_cases hd : k = d
    · subst hd
      by_cases h2 : a = 2
      · subst h2; simp [hc]
      · by_cases h3 : a = 3
        · subst h3; simp [hc]
        · simp [hc, h2, h3]
    · simp [hc, hd]
theorem apart_four {c d p q m n : Int} (he : ((dep 4).trade c 1 2 p m).1 = 0) (hf : (((dep 4).trade c 1 2 p m).2.trade d 2 3 q n).1 = 0) (a : Int) (ha : a = 4) : (((dep 4).trade c 1 2 p m).2.trade d 2 3 q n).2.position c a = ⟨c, a, 0, 0⟩ := by
  subst ha
  rw [Led.position_trade (Led.trade_sort (dep_sort 4)) hf]
  simp [Led.position_trade (dep_sort 4) he, dep_pos]
theorem apart_one {c d p q m n : Int} (he : ((dep 4).trade c 1 2 p m).1 = 0) (hf : (((dep 4).trade c 1 2 p m).2.trade d 2 3 q n).1 = 0) (hcd : c ≠ d) : (((dep 4).trade c 1 2 p m).2.trade d 2 3 q n).2.position d 1 = ⟨d, 1, 0, 0⟩ := by
  rw [Led.position_trade (Led.trade_sort (dep_sort 4)) hf]
  simp [Led.position_trade (dep_sort 4) he, dep_pos, Ne.symm hcd]
theorem apart_all (c d p q m n : Int) : (((dep 4).trade c 1 2 p m).2.trade d 2 3 q n).2.all = (dep 4).all := by
  rw [Led.trade_all.1, Led.trade_all.1]
end Go.Proofs
