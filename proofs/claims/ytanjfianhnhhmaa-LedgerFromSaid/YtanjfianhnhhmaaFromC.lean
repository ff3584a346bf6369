/-
  Copies of slices; the document's Funds of accounts that are not yet a ledger's.
  Conditions: where they ask for any, each theorem names them.
-/
import Derived.Test.YtanjfianhnhhmaaFromB
set_option linter.unusedVariables false
set_option linter.unusedSimpArgs false
namespace Go.Proofs
open Go Go.Vc
attribute [local congr] Ca_cong

/-- append([]T{}, x...) -/
theorem rx_dup {P : Program} {t e : TypeId} {sz by_ m : Nat} {w : World} {x : Value} {news : List Value} {K : Kont} (ht : P.underlying t = some (.slice e)) (hE : ElemT P e sz by_) (hx : Rd w sz x m news) (h1 : news.all (·.oneCell') = true) (hb : m * by_ ≤ 140737488355328)
    (hK : ∀ s' w', Own w' e sz s' m news → Mod (fun _ => False) w w' → (∀ b, inSl s' b → w.heap.size ≤ b) → K s' w') :
    rx P (xLit t 0 []) w fun v w1 => rx P (xAppend #[t, t] t [v, x]) w1 K := by
  refine rx_lit [] ht hE rfl rfl (by simp) (by omega) ?_
  have mA : ∀ o, Mod (fun _ => False) w (w.alloc o) := fun o => (Mod.refl _ w).alloc o
  refine rx_append (n := 0) (m := m) (cs := []) ht ht hE ?_ (hx.mod (mA _) fun _ _ h => h) h1 (by rw [Nat.zero_add]; exact hb) fun s' w' o' m' n' => ?_
  · refine ⟨by simp, .inr ⟨w.heap.size, 0, [], rfl, Nat.le_refl _, ?_, by simp⟩⟩
    rw [heap_alloc, if_pos rfl]
    simp
  · have hS : ∀ b, inSl (.slice (some ⟨w.heap.size, 0, none⟩) 0 0) b → w.heap.size ≤ b := fun b hb => by
      simp only [inSl, slBlk] at hb
      have := Option.some.inj hb
      omega
    refine hK s' w' (by simpa using o') ((mA _).on m' fun b hb => .inr (hS b hb)) fun b hb => ?_
    rcases n' b hb with h | h
    · exact hS b h
    · rw [World.size_alloc] at h; omega

theorem ca_rfunds' {w : World} {r : Nat} {F : Nat → Prop} {R : Led} {K : Kont} (h : RfQ w r F R) (hlen : R.all.length ≤ 64) (hf0 : 0 ≤ R.fund ∧ R.fund ≤ MF) (hacc : PA R.all) (hK : K (.int .i64 R.funds) w) : Ca Try.prog 46 #[lptr r] w K := by
  obtain ⟨⟨sA, sH, h1, h2, h3, h4, h5⟩, hs, hFl⟩ := h
  obtain ⟨aA, cA, hsA⟩ := h2.isSl
  subst hsA
  apply ca46
  unfold F46
  simp [go_sem, lptr, hp_of h1]
  refine loopK (fun s W => ∃ (i : Nat), i ≤ R.all.length ∧ s = (.int .i64 (R.fund + ((R.all.map (·.cash)).take i).sum), .int .i64 i, ()) ∧ W = w)
    (fun s _ => match s.2.1 with | .int _ i => R.all.length - i.toNat | _ => 0) ⟨0, by omega, by simp, rfl⟩ ?_
  rintro ⟨_, _⟩ W ⟨i, hi, ⟨⟩, rfl⟩ KN hKN
  unfold L46_0
  intro _
  have hw := wr_add1 (i := i) (by omega)
  by_cases hlt : i < R.all.length
  · obtain ⟨b, off, cap, C, e, fz, hsl, hC, c0, c1, c2, c3⟩ := rdAc h2 hlt
    obtain ⟨rfl, -, rfl⟩ : aA = some ⟨b, off, none⟩ ∧ True ∧ cA = cap := by injection hsl with e1 e2 e3; exact ⟨e1, trivial, e3⟩
    have ht : ((R.all.map (·.cash)).take (i + 1)).sum = ((R.all.map (·.cash)).take i).sum + R.all[i].cash := by
      rw [List.take_add_one]; simp [hlt]
    have hp : PA (R.all.take (i + 1)) := ⟨hacc.srt.sublist (List.take_sublist ..), fun a ha => hacc.num a (List.mem_of_mem_take ha)⟩
    have hsb := hp.sum (by rw [List.length_take]; omega)
    rw [List.map_take] at hsb
    simp only [MF] at hf0
    have hwr : IntKind.i64.wrap (R.fund + ((R.all.map (·.cash)).take i).sum + R.all[i].cash) = R.fund + ((R.all.map (·.cash)).take (i + 1)).sum := by
      rw [IntKind.wrap_i64]; omega
    simp [-Int.natCast_add, go_sem, lptr, hp_of h1, hlt, hC, c1]
    rw [hwr, hw]
    exact hKN _ _ ⟨i + 1, by omega, rfl, rfl⟩ (by simp; omega)
  · obtain rfl : i = R.all.length := by omega
    simp [go_sem, lptr, hp_of h1]
    rw [show R.fund + ((R.all.map (·.cash)).take R.all.length).sum = R.funds by rw [List.take_of_length_le (by simp)]; rfl]
    exact hK
end Go.Proofs
