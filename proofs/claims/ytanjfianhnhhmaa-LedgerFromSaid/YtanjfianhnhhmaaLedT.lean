/-
  The sorts of accounts and positions, and told.
  Conditions: where they ask for any, each theorem names them.
-/
import Derived.Test.YtanjfianhnhhmaaLedD
set_option linter.unusedVariables false
set_option linter.unusedSimpArgs false
namespace Go.Proofs
open Go Go.Vc Go.Sort

theorem ca_sortAc {w : World} {sl : Value} {n : Nat} {d : List Ac} {K : Kont} (ho : Own w 34 4 sl n (d.flatMap cellsAc)) (hn : n < 4611686018427387904)
    (hK : ∀ (w' : World) (d' : List Ac), Own w' 34 4 sl n (d'.flatMap cellsAc) → d'.Perm d → d'.Pairwise (fun x y => ltOf cmpAc y x = false) → Mod (inSl sl) w w' → K (.tuple #[]) w') :
    Ca Try.prog 42 #[sl, .func (.func 43) #[] #[]] w K :=
  ca_sortK (P := Try.prog) (α := Ac) Try.noNum Try.sortAc 3 (by kernel_rfl) (by kernel_rfl) cellsAc (fun _ => rfl) (fun _ => rfl) cmpAc swoAc 43 ca_cmpAc ho hn hK

/-- told's closure, called with a yield. -/
theorem ca_told1Ac {y sl : Value} {b n : Nat} {T : TypeId} {xs : List Ac} (J : Nat → World → Prop) (Js : World → Prop) {W : World} {K : Kont} (hb : hp W b = some (.cells #[sl] T (0, 0))) (ho : Own W 34 4 sl n (xs.flatMap cellsAc)) (hn : n < 4611686018427387904)
    (h0 : J 0 W) (hmod : ∀ i W W', J i W → Mod (fun _ => False) W W' → J i W')
    (hstep : ∀ i x W, xs[i]? = some x → J i W → ∀ K' : Kont, (∀ W', J (i + 1) W' → (∀ b, inSl sl b → W'.heap[b]? = W.heap[b]?) → K' (.bool true) W') → (∀ W', Js W' → K' (.bool false) W') → callV Try.prog y [acV x] W K')
    (hend : ∀ W, J xs.length W → K (.tuple #[]) W) (hex : ∀ W, Js W → K (.tuple #[]) W) : Ca Try.prog 61 #[y, .pointer (some ⟨b, 0, none⟩)] W K := by
  have hln : xs.length = n := by
    have := ho.1
    rw [flat_len cellsAc 4 xs fun x _ => rfl] at this
    omega
  obtain ⟨sa, sc, rfl, hsc⟩ := ho.isSl
  apply ca61
  unfold F61
  simp [go_sem, hp_of hb]
  refine loopK (fun s W' => ∃ i : Nat, i ≤ n ∧ s = (.int .i64 i, ()) ∧ J i W' ∧ Own W' 34 4 (.slice sa n sc) n (xs.flatMap cellsAc))
    (fun s _ => match s.1 with | .int _ i => n - i.toNat | _ => 0) ⟨0, by omega, rfl, h0, ho⟩ ?_
  rintro ⟨_, _⟩ W' ⟨i, hi, ⟨⟩, hJ, hO⟩ KN hKN
  unfold L61_0
  intro _
  by_cases hlt : i < n
  · obtain ⟨b', cap, hsl, hAt⟩ := Own.elem hO hlt
    obtain ⟨rfl, -, rfl⟩ : sa = some ⟨b', 0, none⟩ ∧ True ∧ sc = cap := by injection hsl with e1 e2 e3; exact ⟨e1, trivial, e3⟩
    rw [flat_get cellsAc 4 _ _ (fun _ _ => rfl) (by omega)] at hAt
    obtain ⟨C, e, fz, hC, hCg⟩ := hAt.get
    have hC0 := hCg 0 _ rfl
    have hC1 := hCg 1 _ rfl
    have hC2 := hCg 2 _ rfl
    have hC3 := hCg 3 _ rfl
    simp only [Nat.zero_add, Nat.add_zero] at hC0 hC1 hC2 hC3
    have hw1 : IntKind.i64.wrap ((i : Int) + 1) = ((i + 1 : Nat) : Int) := by rw [IntKind.wrap_i64]; omega
    simp [-Int.natCast_add, go_sem, hlt, hC, hC0, hC1, hC2, hC3]
    have hx : xs[i]? = some xs[i] := List.getElem?_eq_getElem (by omega)
    have mA : ∀ o, Mod (fun _ => False) W' (W'.alloc o) := fun o => (Mod.refl _ W').alloc o
    refine hstep i _ _ hx (hmod _ _ _ hJ (mA _)) _ (fun W2 hJ2 hq => ?_) (fun W2 hs => ?_)
    · simp [-Int.natCast_add, go_sem, hw1]
      refine hKN _ _ ⟨i + 1, by omega, rfl, hJ2, (hO.mod (mA _) fun _ _ h => h).keep hq⟩ (by simp; omega)
    · simp [go_sem]
      exact hex _ hs
  · obtain rfl : i = n := by omega
    simp [go_sem]
    exact hend _ (hln ▸ hJ)

theorem ca_sortPo {w : World} {sl : Value} {n : Nat} {d : List Po} {K : Kont} (ho : Own w 31 4 sl n (d.flatMap cellsPo)) (hn : n < 4611686018427387904)
    (hK : ∀ (w' : World) (d' : List Po), Own w' 31 4 sl n (d'.flatMap cellsPo) → d'.Perm d → d'.Pairwise (fun x y => ltOf cmpPo y x = false) → Mod (inSl sl) w w' → K (.tuple #[]) w') :
    Ca Try.prog 56 #[sl, .func (.func 57) #[] #[]] w K :=
  ca_sortK (P := Try.prog) (α := Po) Try.noNum Try.sortPo 3 (by kernel_rfl) (by kernel_rfl) cellsPo (fun _ => rfl) (fun _ => rfl) cmpPo swoPo 57 ca_cmpPo ho hn hK

/-- told's closure, called with a yield. -/
theorem ca_told1Po {y sl : Value} {b n : Nat} {T : TypeId} {xs : List Po} (J : Nat → World → Prop) (Js : World → Prop) {W : World} {K : Kont} (hb : hp W b = some (.cells #[sl] T (0, 0))) (ho : Own W 31 4 sl n (xs.flatMap cellsPo)) (hn : n < 4611686018427387904)
    (h0 : J 0 W) (hmod : ∀ i W W', J i W → Mod (fun _ => False) W W' → J i W')
    (hstep : ∀ i x W, xs[i]? = some x → J i W → ∀ K' : Kont, (∀ W', J (i + 1) W' → (∀ b, inSl sl b → W'.heap[b]? = W.heap[b]?) → K' (.bool true) W') → (∀ W', Js W' → K' (.bool false) W') → callV Try.prog y [poV x] W K')
    (hend : ∀ W, J xs.length W → K (.tuple #[]) W) (hex : ∀ W, Js W → K (.tuple #[]) W) : Ca Try.prog 64 #[y, .pointer (some ⟨b, 0, none⟩)] W K := by
  have hln : xs.length = n := by
    have := ho.1
    rw [flat_len cellsPo 4 xs fun x _ => rfl] at this
    omega
  obtain ⟨sa, sc, rfl, hsc⟩ := ho.isSl
  apply ca64
  unfold F64
  simp [go_sem, hp_of hb]
  refine loopK (fun s W' => ∃ i : Nat, i ≤ n ∧ s = (.int .i64 i, ()) ∧ J i W' ∧ Own W' 31 4 (.slice sa n sc) n (xs.flatMap cellsPo))
    (fun s _ => match s.1 with | .int _ i => n - i.toNat | _ => 0) ⟨0, by omega, rfl, h0, ho⟩ ?_
  rintro ⟨_, _⟩ W' ⟨i, hi, ⟨⟩, hJ, hO⟩ KN hKN
  unfold L64_0
  intro _
  by_cases hlt : i < n
  · obtain ⟨b', cap, hsl, hAt⟩ := Own.elem hO hlt
    obtain ⟨rfl, -, rfl⟩ : sa = some ⟨b', 0, none⟩ ∧ True ∧ sc = cap := by injection hsl with e1 e2 e3; exact ⟨e1, trivial, e3⟩
    rw [flat_get cellsPo 4 _ _ (fun _ _ => rfl) (by omega)] at hAt
    obtain ⟨C, e, fz, hC, hCg⟩ := hAt.get
    have hC0 := hCg 0 _ rfl
    have hC1 := hCg 1 _ rfl
    have hC2 := hCg 2 _ rfl
    have hC3 := hCg 3 _ rfl
    simp only [Nat.zero_add, Nat.add_zero] at hC0 hC1 hC2 hC3
    have hw1 : IntKind.i64.wrap ((i : Int) + 1) = ((i + 1 : Nat) : Int) := by rw [IntKind.wrap_i64]; omega
    simp [-Int.natCast_add, go_sem, hlt, hC, hC0, hC1, hC2, hC3]
    have hx : xs[i]? = some xs[i] := List.getElem?_eq_getElem (by omega)
    have mA : ∀ o, Mod (fun _ => False) W' (W'.alloc o) := fun o => (Mod.refl _ W').alloc o
    refine hstep i _ _ hx (hmod _ _ _ hJ (mA _)) _ (fun W2 hJ2 hq => ?_) (fun W2 hs => ?_)
    · simp [-Int.natCast_add, go_sem, hw1]
      refine hKN _ _ ⟨i + 1, by omega, rfl, hJ2, (hO.mod (mA _) fun _ _ h => h).keep hq⟩ (by simp; omega)
    · simp [go_sem]
      exact hex _ hs
  · obtain rfl : i = n := by omega
    simp [go_sem]
    exact hend _ (hln ▸ hJ)
end Go.Proofs
