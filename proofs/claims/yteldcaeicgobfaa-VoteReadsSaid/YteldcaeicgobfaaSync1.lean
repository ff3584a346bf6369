/-
  The plain law and the walk of DiskSynced.
  Conditions: the memory holds the arguments.
-/
import Derived.Test.YteldcaeicgobfaaTorn1
set_option linter.unusedSimpArgs false
set_option linter.unusedVariables false
namespace Go.Proofs
open Go Go.Vc

def sinceL (k : Nat) (l : List Int) : Nat → List Bool
  | 0 => List.replicate k false
  | n + 1 => match l[n]? with
    | some x => (sinceL k l n).set (slot k x) true
    | none => sinceL k l n
theorem sinceL_length (k : Nat) (l : List Int) : ∀ n, (sinceL k l n).length = k
  | 0 => by simp [sinceL]
  | n + 1 => by
    simp only [sinceL]
    split
    · rw [List.length_set, sinceL_length k l n]
    · exact sinceL_length k l n
theorem since_no {k : Nat} (l : List Int) (j : Nat) (hj : j < k) : ∀ n, n ≤ l.length → (sinceL k l n).getD j true = false → ∀ i (hi : i < n) (h : i < l.length), slot k l[i] ≠ j
  | 0, _, _, i, hi, _ => by omega
  | n + 1, hn, h0, i, hi, h => by
    simp only [sinceL, List.getElem?_eq_getElem (show n < l.length by omega)] at h0
    have hne : slot k l[n] ≠ j := by
      intro e
      rw [e] at h0
      simp [List.getD, sinceL_length, hj] at h0
    by_cases e : i = n
    · subst e; exact hne
    · refine since_no l j hj n (by omega) ?_ i (by omega) h
      simpa [List.getD, List.getElem?_set, hne] using h0

theorem lk_putL {L ws : List (Pl × Sec)} {k : Pl} (h : ∀ p ∈ ws, p.1 ≠ k) : lk (putL L ws) k = lk L k := by
  induction ws generalizing L with
  | nil => rfl
  | cons p ws ih =>
    show lk (putL (put L p.1 p.2) ws) k = _
    rw [ih fun q hq => h q (List.mem_cons_of_mem _ hq), lk_put, if_neg (h p List.mem_cons_self)]

def syncD1 (l : List Int) (i : Nat) : DM := { DM.new with waits := (wsT 1 30 1 l).take i }
def syncD2 (l l' : List Int) (i : Nat) : DM := { DM.new with lasts := putL [] (wsT 1 30 1 l), waits := (wsT 1 30 100 l').take i }
theorem sync_step1 (l : List Int) (i : Nat) (hi : i < l.length) : (syncD1 l i).write 1 (slot 30 l[i]) (secOf (UInt8.ofNat (i + 1))) = (0, syncD1 l (i + 1)) := by
  have hsl := slot_lt (k := 30) (by omega) l[i]
  have hm : mayB 1 (slot 30 l[i]) 1 = true := by simp [mayB]; omega
  rw [write_one rfl rfl (secOf_length _) hm]
  simp only [syncD1]
  rw [List.take_succ_eq_append_getElem (by rw [wsT_length]; omega), wsT_get _ _ _ _ _ hi]
theorem sync_sync (l l' : List Int) : (syncD1 l l.length).sync = (0, syncD2 l l' 0) := by
  rw [sync_one rfl rfl]
  simp [syncD1, syncD2, DM.new, List.take_of_length_le, wsT_length]
theorem sync_step2 (l l' : List Int) (i : Nat) (hi : i < l'.length) : (syncD2 l l' i).write 1 (slot 30 l'[i]) (secOf (UInt8.ofNat (i + 100))) = (0, syncD2 l l' (i + 1)) := by
  have hsl := slot_lt (k := 30) (by omega) l'[i]
  have hm : mayB 1 (slot 30 l'[i]) 1 = true := by simp [mayB]; omega
  rw [write_one rfl rfl (secOf_length _) hm]
  simp only [syncD2]
  rw [List.take_succ_eq_append_getElem (by rw [wsT_length]; omega), wsT_get _ _ _ _ _ hi]

theorem sync_read (l l' : List Int) (keep : Nat) (torn : List UInt8) (j : Nat) (hj : j < 30) (hs : (sinceL 30 l' l'.length).getD j true = false) :
    ((syncD2 l l' l'.length).crash keep torn).readB 1 j 1 = secOf ((wantL 30 l l.length).getD j 0) := by
  have hno := since_no l' j hj l'.length (Nat.le_refl _) hs
  have hw : ∀ p ∈ wsT 1 30 100 l', p.1 ≠ (1, (j : Int)) := by
    intro p hp e
    obtain ⟨i, hi, rfl⟩ := List.getElem_of_mem hp
    have hi' : i < l'.length := by rwa [wsT_length] at hi
    rw [wsT_get _ _ _ _ _ hi'] at e
    simp at e
    exact hno i hi' hi' (by omega)
  have hwant := want_sec 1 (by omega) l j hj l.length (Nat.le_refl _)
  rw [List.take_of_length_le (by rw [wsT_length]; exact Nat.le_refl _)] at hwant
  rw [← hwant]
  have e : ∀ D : DM, D.waits = [] → D.readB 1 j 1 = (lk D.lasts (1, (j : Int))).getD zsec := by
    intro D h
    simp [DM.readB, DM.secAt, h, putL]
  rw [e _ rfl]
  congr 1
  simp only [DM.crash]
  have e1 : (syncD2 l l' l'.length).waits = wsT 1 30 100 l' := by simp [syncD2, List.take_of_length_le, wsT_length]
  have e2 : (syncD2 l l' l'.length).lasts = putL [] (wsT 1 30 1 l) := rfl
  rw [e1, e2]
  have e3 : lk (putL (putL [] (wsT 1 30 1 l)) ((wsT 1 30 100 l').take keep)) (1, (j : Int)) = lk (putL [] (wsT 1 30 1 l)) (1, (j : Int)) := lk_putL fun p hp => hw p (List.mem_of_mem_take hp)
  split
  · rename_i p hp
    split
    · exact e3
    · rw [lk_put, if_neg (hw p (List.mem_of_getElem? hp)), e3]
  · exact e3

set_option maxRecDepth 10000 in
theorem ca_synced {w : World} {K : Kont} {l l' : List Int} {a0 a1 a3 : Value} {keep : Int} {torn : List UInt8}
    (hl : Rd w 1 a0 l.length (iv l)) (hl' : Rd w 1 a1 l'.length (iv l')) (hk : R64 keep)
    (ht : Rd w 1 a3 torn.length (bv torn))
    (hK : ∀ w', Mod (fun _ => False) w w' → K (.bool true) w') : Ca Try.prog 4 #[a0, a1, .int .i64 keep, a3] w K := by
  obtain ⟨la, lc, rfl⟩ := Rd.isSl hl
  obtain ⟨la', lc', rfl⟩ := Rd.isSl hl'
  obtain ⟨ta, tc, rfl⟩ := Rd.isSl ht
  apply ca4
  unfold F4
  refine JoinW.at (fun s w' => w = w' ∧ s = (.bool (decide ((60 : Int) < l.length ∨ (30 : Int) < l'.length ∨ (1000 : Int) < torn.length ∨ keep < 0)), ())) ?_ ?_
  · simp [go_sem]
    by_cases h1 : (60 : Int) < l.length
    · simp [h1]
    · simp [h1]
      by_cases h3 : (30 : Int) < l'.length
      · simp [h3]
      · simp [h3]
        by_cases h2 : (1000 : Int) < torn.length
        · simp [h2]
        · simp [h2]
  rintro _ _ ⟨rfl, rfl⟩
  unfold J4_6
  intro _
  by_cases hb : (60 : Int) < l.length ∨ (30 : Int) < l'.length ∨ (1000 : Int) < torn.length ∨ keep < 0
  · simp [go_sem, hb]
    exact ca_known hK
  simp [go_sem, hb]
  refine ca_new fun w1 d1 m1 => ?_
  obtain ⟨keep, rfl⟩ : ∃ k : Nat, keep = k := ⟨keep.toNat, by omega⟩
  have c30 : ∀ x, IntKind.i64.wrap ((IntKind.u64.wrap x).tmod 30) = (slot 30 x : Int) := by
    intro x
    rw [IntKind.wrap_u64, Int.tmod_eq_emod_of_nonneg (by omega), show (30 : Int) = ((30 : Nat) : Int) from rfl, slot_eq (by omega), IntKind.wrap_i64]
    have := slot_lt (k := 30) (by omega) x
    omega
  refine rx_bigA (by kernel_rfl) ?_
  have hz : zeroC Try.prog 37 = bv (wantL 30 l 0) := by rw [wantL]; kernel_rfl
  rw [hz]
  have hp0 : hp (w1.alloc (.cells (bv (wantL 30 l 0)).toArray 37)) w1.heap.size = some (.cells (bv (wantL 30 l 0)).toArray 37 (0, 0)) := by simp [go_sem]
  have m2 : Mod (fun _ => False) w1 (w1.alloc (.cells (bv (wantL 30 l 0)).toArray 37)) := (Mod.refl _ w1).alloc _
  generalize w1.alloc (.cells (bv (wantL 30 l 0)).toArray 37) = w2 at hp0 m2
  obtain ⟨p, hpp⟩ : ∃ p, w1.heap.size = p := ⟨_, rfl⟩
  have hpl : w.heap.size < p := by rw [← hpp]; exact d1.lt rfl
  have d2 := d1.mod m2 fun _ _ h => h
  have m3 := m1.trans m2
  have hp2 : p < w2.heap.size := by rw [← hpp]; exact lt_of_heap hp0
  rw [hpp] at hp0 ⊢
  clear m1 m2 d1 hpp
  unfold L4_5
  refine loopW (fun s W => ∃ i F x, i ≤ l.length ∧ s = (x, .int .i64 i, ()) ∧ Mod (fun _ => False) w W ∧ DiskR W w.heap.size F (syncD1 l i) ∧ (∀ b, F b → b = w.heap.size ∨ p < b) ∧
      hp W p = some (.cells (bv (wantL 30 l i)).toArray 37 (0, 0)))
    (fun s _ => match s.2.1 with | .int _ i => l.length - i.toNat | _ => 0) ⟨0, _, _, by omega, rfl, m3, d2, fun b hb => by omega, hp0⟩ ?_
  clear m3 d2 hp0 hp2
  rintro ⟨_, _⟩ W ⟨i, F, x, hi, ⟨⟩, mW, dW, fW, hW⟩ _
  have hw1 : IntKind.i64.wrap ((i : Int) + 1) = ((i + 1 : Nat) : Int) := by rw [IntKind.wrap_i64]; omega
  by_cases hlt : i < l.length
  · obtain ⟨b, off, cap, C, e, fz, hv, hC, hCi⟩ := rd_at hl hlt
    rw [hv]
    have hCi' : C[off + i]? = some (.int .i64 l[i]) := by rw [hCi]; simp [iv, hlt]
    have hC' : hp W b = some (.cells C e fz) := mW.keep hC id
    have hw2 : IntKind.u8.wrap (((i + 1 : Nat) : Int)) = ((i + 1 : Nat) : Int) % 256 := by rw [IntKind.wrap_u8]
    have hw3 : ((i + 1 : Nat) : Int) % 256 = ((UInt8.ofNat (i + 1)).toNat : Int) := by simp
    have hsl := slot_lt (k := 30) (by omega) l[i]
    have hin : ((slot 30 l[i] : Nat) : Int) < 30 := by omega
    have hwl := wantL_length 30 l i
    simp [-Int.natCast_add, go_sem, hC', hCi', hw1, hw2, c30, hlt, hin, hsl, hW, hwl]
    rw [hw3]
    have mS : Mod (fun b => b = p) W (W.setCell ⟨p, slot 30 l[i], none⟩ (.int .u8 ((UInt8.ofNat (i + 1)).toNat : Int))) := (Mod.refl (fun b => b = p) W).setCell (b := p) (.inl (by simp)) _ _
    have hS : hp (W.setCell ⟨p, slot 30 l[i], none⟩ (.int .u8 ((UInt8.ofNat (i + 1)).toNat : Int))) p = some (.cells (bv (wantL 30 l (i + 1))).toArray 37 (0, 0)) := by
      simp only [wantL, List.getElem?_eq_getElem hlt]
      simp [-Int.natCast_add, go_sem, hW, bv, List.map_set]
    generalize W.setCell ⟨p, slot 30 l[i], none⟩ (.int .u8 ((UInt8.ofNat (i + 1)).toNat : Int)) = W2 at mS hS
    have dS := dW.mod mS fun b hb => by have := fW b hb; omega
    have mS' : Mod (fun _ => False) w W2 := mW.on mS fun b hb => .inr (by omega)
    refine ca_sector fun w5 v5 o5 m5 n5 => ?_
    refine ca_write (dS.mod m5 fun _ _ h => h) o5.rd (fun b' hb' => ⟨fun h => ?_, (n5 b' hb'.sl).2⟩) (by rw [secOf_length]; decide) ?_ fun w6 F6 d6 s6 => ?_
    · have h1 := (n5 b' hb'.sl).1
      have h2 := dS.lt h
      omega
    · simp [syncD1]; omega
    rw [sync_step1 l i hlt] at d6 ⊢
    have lS := lt_of_heap hS
    have l5 := m5.size
    simp [go_sem]
    exact ⟨⟨i + 1, hlt, by omega, (mS'.trans m5).on s6.mod (fun b hb => .inr (by have := fW b hb; omega)), F6, d6, (fun b hb => by
      rcases s6.sub b hb with h | h
      · exact fW b h
      · omega), s6.mod.keep (m5.keep hS id) (fun h => by have := fW p h; omega)⟩, by omega⟩
  · have hil : i = l.length := by omega
    subst hil
    simp [go_sem, hlt]
    have ho : ∀ b, F b → w.heap.size ≤ b := fun b hb => by have := fW b hb; omega
    refine JoinW.at (fun s W' => s = (.bool false, ()) ∧ Mod (fun _ => False) w W' ∧ ∃ F', DiskR W' w.heap.size F' (syncD2 l l' 0) ∧ (∀ b, F' b → b = w.heap.size ∨ p < b) ∧ hp W' p = some (.cells (bv (wantL 30 l l.length)).toArray 37 (0, 0))) ?_ ?_
    · refine ca_sync dW (by simp [syncD1, wsT_length]; omega) fun w5 F5 d5 s5 => ?_
      rw [sync_sync l l'] at d5 ⊢
      simp [go_sem]
      refine ca_waits d5 ?_
      have lS := lt_of_heap hW
      simp [go_sem, syncD2]
      exact ⟨mW.on s5.mod (fun b hb => .inr (ho b hb)), F5, d5, fun b hb => by
        rcases s5.sub b hb with h | h
        · exact fW b h
        · omega, s5.mod.keep hW (fun h => by have := fW p h; omega)⟩
    clear mW dW fW hW ho
    rintro _ W ⟨rfl, mW, F, dW, fW, hW⟩
    unfold J4_4
    intro _
    simp [go_sem]
    refine rx_bigA (by kernel_rfl) ?_
    have hz2 : zeroC Try.prog 39 = (sinceL 30 l' 0).map (.bool ·) := by rw [sinceL]; kernel_rfl
    rw [hz2]
    have hq0 : hp (W.alloc (.cells ((sinceL 30 l' 0).map (.bool ·)).toArray 39)) W.heap.size = some (.cells ((sinceL 30 l' 0).map (.bool ·)).toArray 39 (0, 0)) := by simp [go_sem]
    have m2 : Mod (fun _ => False) W (W.alloc (.cells ((sinceL 30 l' 0).map (.bool ·)).toArray 39)) := (Mod.refl _ W).alloc _
    generalize W.alloc (.cells ((sinceL 30 l' 0).map (.bool ·)).toArray 39) = w2 at hq0 m2
    obtain ⟨q, hqq⟩ : ∃ q, W.heap.size = q := ⟨_, rfl⟩
    have hpq : p < q := by rw [← hqq]; exact lt_of_heap hW
    have d2 := dW.mod m2 fun _ _ h => h
    have m3 := mW.trans m2
    have f2 : ∀ b, F b → b = w.heap.size ∨ (p < b ∧ b ≠ q) := fun b hb => by have h1 := dW.lt hb; have h2 := fW b hb; omega
    have hW2 := m2.keep hW id
    rw [hqq] at hq0 ⊢
    clear m2 hqq mW dW fW hW hlt hw1 hi
    unfold L4_3
    refine loopW (fun s W => ∃ i F x, i ≤ l'.length ∧ s = (x, .int .i64 i, ()) ∧ Mod (fun _ => False) w W ∧ DiskR W w.heap.size F (syncD2 l l' i) ∧ (∀ b, F b → b = w.heap.size ∨ (p < b ∧ b ≠ q)) ∧
        hp W p = some (.cells (bv (wantL 30 l l.length)).toArray 37 (0, 0)) ∧ hp W q = some (.cells ((sinceL 30 l' i).map (.bool ·)).toArray 39 (0, 0)))
      (fun s _ => match s.2.1 with | .int _ i => l'.length - i.toNat | _ => 0) ⟨0, _, _, by omega, rfl, m3, d2, f2, hW2, hq0⟩ ?_
    clear m3 d2 f2 hW2 hq0
    rintro ⟨_, _⟩ W ⟨i, F, x, hi, ⟨⟩, mW, dW, fW, hW, hQ⟩ _
    have hw1 : IntKind.i64.wrap ((i : Int) + 1) = ((i + 1 : Nat) : Int) := by rw [IntKind.wrap_i64]; omega
    have hw1' : IntKind.i64.wrap (100 + (i : Int)) = ((i + 100 : Nat) : Int) := by rw [IntKind.wrap_i64]; omega
    by_cases hlt : i < l'.length
    · obtain ⟨b, off, cap, C, e, fz, hv, hC, hCi⟩ := rd_at hl' hlt
      rw [hv]
      have hCi' : C[off + i]? = some (.int .i64 l'[i]) := by rw [hCi]; simp [iv, hlt]
      have hC' : hp W b = some (.cells C e fz) := mW.keep hC id
      have hw2 : IntKind.u8.wrap (((i + 100 : Nat) : Int)) = ((i + 100 : Nat) : Int) % 256 := by rw [IntKind.wrap_u8]
      have hw3 : ((i + 100 : Nat) : Int) % 256 = ((UInt8.ofNat (i + 100)).toNat : Int) := by simp
      have hsl := slot_lt (k := 30) (by omega) l'[i]
      have hin : ((slot 30 l'[i] : Nat) : Int) < 30 := by omega
      have hwl := sinceL_length 30 l' i
      simp [-Int.natCast_add, go_sem, hC', hCi', hw1, hw1', hw2, c30, hlt, hin, hsl, hQ, hwl]
      rw [hw3]
      have mS : Mod (fun b => b = q) W (W.setCell ⟨q, slot 30 l'[i], none⟩ (.bool true)) := (Mod.refl (fun b => b = q) W).setCell (b := q) (.inl (by simp)) _ _
      have hS : hp (W.setCell ⟨q, slot 30 l'[i], none⟩ (.bool true)) q = some (.cells ((sinceL 30 l' (i + 1)).map (.bool ·)).toArray 39 (0, 0)) := by
        simp only [sinceL, List.getElem?_eq_getElem hlt]
        simp [go_sem, hQ, List.map_set]
      have hS2 : hp (W.setCell ⟨q, slot 30 l'[i], none⟩ (.bool true)) p = some (.cells (bv (wantL 30 l l.length)).toArray 37 (0, 0)) := mS.keep hW (by show ¬ _ = _; omega)
      generalize W.setCell ⟨q, slot 30 l'[i], none⟩ (.bool true) = W2 at mS hS hS2
      have dS := dW.mod mS fun b hb => by have := fW b hb; omega
      have mS' : Mod (fun _ => False) w W2 := mW.on mS fun b hb => .inr (by omega)
      refine ca_sector fun w5 v5 o5 m5 n5 => ?_
      refine ca_write (dS.mod m5 fun _ _ h => h) o5.rd (fun b' hb' => ⟨fun h => ?_, (n5 b' hb'.sl).2⟩) (by rw [secOf_length]; decide) ?_ fun w6 F6 d6 s6 => ?_
      · have h1 := (n5 b' hb'.sl).1
        have h2 := dS.lt h
        omega
      · simp [syncD2]; omega
      rw [sync_step2 l l' i hlt] at d6 ⊢
      have lS := lt_of_heap hS
      have l5 := m5.size
      simp [go_sem]
      exact ⟨⟨i + 1, hlt, by omega, (mS'.trans m5).on s6.mod (fun b hb => .inr (by have := fW b hb; omega)), F6, d6, (fun b hb => by
        rcases s6.sub b hb with h | h
        · exact fW b h
        · omega), s6.mod.keep (m5.keep hS2 id) (fun h => by have := fW p h; omega), s6.mod.keep (m5.keep hS id) (fun h => by have := fW q h; omega)⟩, by omega⟩
    · have hil : i = l'.length := by omega
      subst hil
      simp [go_sem, hlt]
      refine JoinW.at (fun s W' => s = (.bool false, ()) ∧ Mod (fun _ => False) w W' ∧ ∃ F', DiskR W' w.heap.size F' ((syncD2 l l' l'.length).crash keep torn) ∧
        hp W' p = some (.cells (bv (wantL 30 l l.length)).toArray 37 (0, 0)) ∧ hp W' q = some (.cells ((sinceL 30 l' l'.length).map (.bool ·)).toArray 39 (0, 0))) ?_ ?_
      · refine ca_waits dW ?_
        have hwl : (syncD2 l l' l'.length).waits.length = l'.length := by simp [syncD2, wsT_length]
        simp [go_sem, hwl]
        obtain ⟨k1, k2⟩ := hk
        refine ca_crash (keep := keep) (torn := torn) dW (by omega) (by omega) (ht.mod mW fun _ _ h => h) (fun b hb => ⟨fun h => ?_, ?_⟩) fun w5 F5 d5 s5 => ?_
        · have h1 := fW b h
          have h2 := ht.lt hb
          omega
        · have h2 := ht.lt hb
          have h3 := mW.size
          omega
        simp [go_sem]
        exact ⟨mW.on s5.mod (fun b hb => .inr (by have := fW b hb; omega)), ⟨F5, d5⟩, s5.mod.keep hW (fun h => by have := fW p h; omega), s5.mod.keep hQ (fun h => by have := fW q h; omega)⟩
      clear mW dW fW hW hQ hlt hi hw1 hw1'
      rintro _ W ⟨rfl, mW, F, dW, hW, hQ⟩
      unfold J4_2
      intro _
      simp [go_sem]
      unfold L4_1
      refine loopW (fun s W => ∃ (j : Nat) (x : Value), j ≤ 30 ∧ s = (x, .int .i64 j, ()) ∧ Mod (fun _ => False) w W ∧ DiskR W w.heap.size F ((syncD2 l l' l'.length).crash keep torn) ∧
          hp W p = some (.cells (bv (wantL 30 l l.length)).toArray 37 (0, 0)) ∧ hp W q = some (.cells ((sinceL 30 l' l'.length).map (.bool ·)).toArray 39 (0, 0)))
        (fun s _ => match s.2.1 with | .int _ j => 30 - j.toNat | _ => 0) ⟨0, _, by omega, rfl, mW, dW, hW, hQ⟩ ?_
      clear mW dW hW hQ
      rintro ⟨_, _⟩ W ⟨j, x, hj, ⟨⟩, mW, dW, hW, hQ⟩ _
      have hw1 : IntKind.i64.wrap ((j : Int) + 1) = ((j + 1 : Nat) : Int) := by rw [IntKind.wrap_i64]; omega
      by_cases hlt : j < 30
      · have hlt' : (j : Int) < 30 := by omega
        simp [-Int.natCast_add, go_sem, hlt']
        refine ca_read dW (by simp [DM.crash]) (by simp [DM.crash, syncD2, DM.new]) (by intro _ h; simp [mayB] at h; omega) fun _ _ w5 v5 o5 m5 n5 => ?_
        rw [show Int.toNat 1 = 1 from rfl] at o5
        have hrd := sync_read l l' keep torn j hlt
        generalize ((syncD2 l l' l'.length).crash keep torn).readB 1 j 1 = B at hrd o5
        have hwl := wantL_length 30 l l.length
        have hgj : (wantL 30 l l.length)[j]? = some ((wantL 30 l l.length).getD j 0) := by rw [List.getElem?_eq_getElem (by omega)]; simp [List.getD, show j < (wantL 30 l l.length).length by omega]
        have hsl := sinceL_length 30 l' l'.length
        have hsj : (sinceL 30 l' l'.length)[j]? = some ((sinceL 30 l' l'.length).getD j true) := by rw [List.getElem?_eq_getElem (by omega)]; simp [List.getD, show j < (sinceL 30 l' l'.length).length by omega]
        generalize (wantL 30 l l.length).getD j 0 = c at hrd hgj
        generalize (sinceL 30 l' l'.length).getD j true = sb at hrd hsj
        obtain ⟨CW, hCW⟩ : ∃ CW, (bv (wantL 30 l l.length)).toArray = CW := ⟨_, rfl⟩
        obtain ⟨CQ, hCQ⟩ : ∃ CQ, ((sinceL 30 l' l'.length).map (Value.bool ·)).toArray = CQ := ⟨_, rfl⟩
        have h5 : hp w5 p = some (.cells CW 37 (0, 0)) := by rw [← hCW]; exact m5.keep hW id
        have h6 : hp w5 q = some (.cells CQ 39 (0, 0)) := by rw [← hCQ]; exact m5.keep hQ id
        have hcj : CW[j]? = some (.int .u8 c.toNat) := by rw [← hCW, List.getElem?_toArray, bv, List.getElem?_map, hgj]; rfl
        have hqj : CQ[j]? = some (.bool sb) := by rw [← hCQ, List.getElem?_toArray, List.getElem?_map, hsj]; rfl
        simp only [go_sem]
        refine JoinW.at (fun s W' => s = (.bool false, ()) ∧ Mod (fun _ => False) w5 W') ?_ ?_
        · cases sb
          · simp [-Int.natCast_add, go_sem, hlt', hlt, h6, hqj]
            refine rdX_toStr Try.underlying23 Try.underlying5 Try.underlying9 (o5.mod ((Mod.refl (fun _ => False) _).drew) fun _ _ h => h).rd ?_
            simp [-Int.natCast_add, go_sem, hlt', hlt, h5, hcj]
            refine ca_sector fun w6 v6 o6 m6 n6 => ?_
            have m56 : Mod (fun _ => False) w5 w6 := ((Mod.refl _ w5).drew).trans m6
            refine ⟨run_toStr Try.underlying23 Try.underlying5 Try.underlying9 (o5.mod m56 fun _ _ h => h).rd, ?_⟩
            refine rdX_toStr Try.underlying23 Try.underlying5 Try.underlying9 o6.rd ?_
            simp [go_sem, hrd]
            exact m56
          · simp [-Int.natCast_add, go_sem, hlt', hlt, h6, hqj]
            exact (Mod.refl _ w5).drew
        rintro _ w6 ⟨rfl, m6⟩
        unfold J4_0
        intro _
        simp [-Int.natCast_add, go_sem, hw1]
        exact ⟨⟨j + 1, hlt, rfl, (mW.trans m5).trans m6, (dW.mod m5 fun _ _ h => h).mod m6 fun _ _ h => h, (m5.trans m6).keep hW id, (m5.trans m6).keep hQ id⟩, by omega⟩
      · obtain rfl : j = 30 := by omega
        simp [go_sem]
        exact ca_known fun w' m' => hK _ (mW.trans m')
end Go.Proofs
