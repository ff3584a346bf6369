/-
  The walk of DiskTorn.
  Conditions: the memory holds the arguments.
-/
import Derived.Test.YteldcaeicgobfaaTorn0
set_option linter.unusedSimpArgs false
set_option linter.unusedVariables false
namespace Go.Proofs
open Go Go.Vc

def iv (l : List Int) : List Value := l.map fun x => .int .i64 x
@[simp] theorem iv_length (l : List Int) : (iv l).length = l.length := by simp [iv]
def R64 (x : Int) : Prop := -9223372036854775808 ≤ x ∧ x < 9223372036854775808

theorem rd_at {w : World} {v : Value} {n : Nat} {cs : List Value} (h : Rd w 1 v n cs) {i : Nat} (hi : i < n) :
    ∃ b off cap C e fz, v = .slice (some ⟨b, off, none⟩) n cap ∧ hp w b = some (.cells C e fz) ∧ C[off + i]? = cs[i]? := by
  obtain ⟨hl, ⟨rfl, a, c, rfl⟩ | ⟨b, off, cap, rfl, hc, hh⟩⟩ := h
  · omega
  · obtain ⟨C, e, fz, h1, h2⟩ := hh.get
    refine ⟨b, off, cap, C, e, fz, rfl, h1, ?_⟩
    have hi' : i < cs.length := by omega
    rw [List.getElem?_eq_getElem hi']
    exact h2 i _ (List.getElem?_eq_getElem hi')

set_option maxRecDepth 10000 in
theorem ca_torn {w : World} {K : Kont} {l : List Int} {a0 a3 : Value} {sync keep : Int} {torn : List UInt8}
    (hl : Rd w 1 a0 l.length (iv l)) (hl64 : ∀ x ∈ l, R64 x) (hs : R64 sync) (hk : R64 keep)
    (ht : Rd w 1 a3 torn.length (bv torn))
    (hK : ∀ w', Mod (fun _ => False) w w' → K (.bool true) w') : Ca Try.prog 3 #[a0, .int .i64 sync, .int .i64 keep, a3] w K := by
  obtain ⟨la, lc, rfl⟩ := Rd.isSl hl
  obtain ⟨ta, tc, rfl⟩ := Rd.isSl ht
  apply ca3
  unfold F3
  refine JoinW.at (fun s w' => w = w' ∧ s = (.bool (decide ((60 : Int) < l.length ∨ (1000 : Int) < torn.length ∨ keep < 0)), ())) ?_ ?_
  · simp [go_sem]
    by_cases h1 : (60 : Int) < l.length
    · simp [h1]
    · simp [h1]
      by_cases h2 : (1000 : Int) < torn.length
      · simp [h2]
      · simp [h2]
  rintro _ _ ⟨rfl, rfl⟩
  unfold J3_8
  intro _
  by_cases hb : (60 : Int) < l.length ∨ (1000 : Int) < torn.length ∨ keep < 0
  · simp [go_sem, hb]
    exact ca_known hK
  simp [go_sem, hb]
  refine ca_new fun w1 d1 m1 => ?_
  obtain ⟨keep, rfl⟩ : ∃ k : Nat, keep = k := ⟨keep.toNat, by omega⟩
  have c64 : ∀ k : Nat, 0 < k → k < 100 → ∀ x, IntKind.i64.wrap ((IntKind.u64.wrap x).tmod (k : Int)) = (slot k x : Int) := by
    intro k h1 h2 x
    rw [IntKind.wrap_u64, Int.tmod_eq_emod_of_nonneg (by omega), slot_eq h1, IntKind.wrap_i64]
    have := slot_lt h1 x
    omega
  have c61 : IntKind.i64.wrap ((IntKind.u64.wrap sync).tmod 61) = (slot 61 sync : Int) := c64 61 (by omega) (by omega) sync
  have c20 : ∀ x, IntKind.i64.wrap ((IntKind.u64.wrap x).tmod 20) = (slot 20 x : Int) := c64 20 (by omega) (by omega)
  clear c64
  rw [c61]
  generalize slot 61 sync = fr
  unfold L3_7
  refine loopW (fun s W => ∃ i F x, i ≤ l.length ∧ s = (x, .int .i64 i, ()) ∧ Mod (fun _ => False) w W ∧ DiskR W w.heap.size F (tornD l fr i) ∧ ∀ b, F b → w.heap.size ≤ b)
    (fun s _ => match s.2.1 with | .int _ i => l.length - i.toNat | _ => 0) ⟨0, _, _, by omega, rfl, m1, d1, fun b hb => by omega⟩ ?_
  rintro ⟨_, _⟩ W ⟨i, F, x, hi, ⟨⟩, mW, dW, fW⟩ _
  by_cases hlt : i < l.length
  · simp [go_sem, hlt]
    refine JoinW.at (fun s W' => s = (.bool false, ()) ∧ ∃ F', DiskR W' w.heap.size F' (if i = fr then (tornD l fr i).sync.2 else tornD l fr i) ∧ Mod (fun _ => False) w W' ∧ ∀ b, F' b → w.heap.size ≤ b) ?_ ?_
    · by_cases he : i = fr
      · have he' : (i : Int) = fr := by omega
        simp only [he', if_true]
        refine ca_sync dW (by have := tornD_waits l fr i; omega) fun W' F' d' s' => ?_
        subst he
        rw [torn_synced l i hlt] at d' ⊢
        simp [go_sem]
        exact ⟨F', d', mW.on s'.mod (fun b hb => .inr (fW b hb)), fun b hb => by have := mW.size; rcases s'.sub b hb with h | h; exact fW b h; omega⟩
      · have he' : ¬ (i : Int) = fr := by omega
        simp only [he', he, if_false]
        exact ⟨trivial, F, dW, mW, fW⟩
    rintro _ W' ⟨rfl, F', d', m', f'⟩
    unfold J3_0
    intro _
    obtain ⟨b, off, cap, C, e, fz, hv, hC, hCi⟩ := rd_at hl hlt
    rw [hv]
    have hCi' : C[off + i]? = some (.int .i64 l[i]) := by rw [hCi]; simp [iv, hlt]
    have hC' : hp W'.drew b = some (.cells C e fz) := m'.keep hC id
    have hw1 : IntKind.i64.wrap ((i : Int) + 1) = ((i + 1 : Nat) : Int) := by rw [IntKind.wrap_i64]; omega
    have hw2 : IntKind.u8.wrap (((i + 1 : Nat) : Int)) = ((i + 1 : Nat) : Int) % 256 := by rw [IntKind.wrap_u8]
    have hw3 : ((i + 1 : Nat) : Int) % 256 = ((UInt8.ofNat (i + 1)).toNat : Int) := by simp
    simp [-Int.natCast_add, go_sem, hC', hCi', hw1, hw2, c20, hlt]
    rw [hw3]
    refine ca_sector fun w5 v5 o5 m5 n5 => ?_
    have m5' : Mod (fun _ => False) W' w5 := ((Mod.refl _ W').drew).trans m5
    have hC5 : hp w5 b = some (.cells C e fz) := m5.keep hC' id
    simp only [hC5, hCi', true_and]
    have l0 := m'.size
    refine ca_write (d'.mod m5' fun _ _ h => h) o5.rd (fun b' hb' => ⟨fun h => ?_, (n5 b' hb'.sl).2⟩) (by rw [secOf_length]; decide) ?_ fun w6 F6 d6 s6 => ?_
    · have h1 := (n5 b' hb'.sl).1
      have h2 := d'.lt h
      rw [size_drew] at h1
      omega
    · have := tornD_waits l fr i
      split
      · rename_i h
        subst h
        rw [torn_synced l i hlt]
        show (0 : Nat) < _
        omega
      · omega
    rw [torn_step l fr i hlt _ rfl] at d6 ⊢
    simp [go_sem]
    exact ⟨⟨i + 1, hlt, by omega, (m'.trans m5').on s6.mod (fun b hb => .inr (f' b hb)), F6, d6, fun b hb => by
      have h5 := m5.size
      rw [size_drew] at h5
      rcases s6.sub b hb with h | h
      · exact f' b h
      · omega⟩, by omega⟩
  · obtain rfl : i = l.length := by omega
    simp [go_sem, hlt]
    refine JoinW.at (fun s W' => s = (.int .i64 (sp fr l.length), ()) ∧ W' = W) ?_ ?_
    · by_cases h : l.length ≤ fr
      · simp [h, sp, Nat.not_lt.2 h]
      · simp [h, sp, Nat.lt_of_not_le h]
    rintro _ W' ⟨rfl, rfl⟩
    unfold J3_6
    intro _
    have hsp : sp fr l.length ≤ l.length := by unfold sp; split <;> omega
    obtain ⟨k1, k2⟩ := hk
    refine ca_crash (keep := keep) (torn := torn) dW (by have := tornD_waits l fr l.length; omega) (by omega) (ht.mod mW fun _ _ h => h) (fun b hb => ⟨fun h => ?_, ?_⟩) fun w2 F2 d2 s2 => ?_
    · have h1 := fW b h
      have h2 := ht.lt hb
      omega
    · have h2 := ht.lt hb
      have h3 := mW.size
      omega
    rw [torn_crash l fr keep torn hsp] at d2
    have m2 : Mod (fun _ => False) w w2 := mW.on s2.mod (fun b hb => .inr (fW b hb))
    have f2 : ∀ b, F2 b → w.heap.size ≤ b := fun b hb => by
      have := mW.size
      rcases s2.sub b hb with h | h
      · exact fW b h
      · omega
    clear s2 fW mW dW
    simp [go_sem]
    have hw1 : IntKind.i64.wrap ((l.length : Int) - (sp fr l.length : Nat)) = ((l.length - sp fr l.length : Nat) : Int) := by rw [IntKind.wrap_i64]; omega
    simp [go_sem, hw1]
    refine JoinW.at (fun s W' => s = (.int .i64 (tornN l (sp fr l.length) keep), ()) ∧ W' = w2) ?_ ?_
    · unfold tornN
      by_cases h : keep < l.length - sp fr l.length
      · have hw2 : IntKind.i64.wrap ((sp fr l.length : Int) + (keep : Int)) = ((sp fr l.length + keep : Nat) : Int) := by rw [IntKind.wrap_i64]; omega
        simp [h, hw2]
      · simp [h]
    rintro _ W' ⟨rfl, rfl⟩
    have hn : tornN l (sp fr l.length) keep ≤ l.length := by unfold tornN; split <;> omega
    generalize tornN l (sp fr l.length) keep = n at d2 hn
    unfold J3_5
    intro _
    refine rx_bigA (by kernel_rfl) ?_
    have hz : zeroC Try.prog 33 = bv (wantL 20 l 0) := by rw [wantL]; kernel_rfl
    rw [hz]
    have hp0 : hp (W'.alloc (.cells (bv (wantL 20 l 0)).toArray 33)) W'.heap.size = some (.cells (bv (wantL 20 l 0)).toArray 33 (0, 0)) := by simp [go_sem]
    have m3 : Mod (fun _ => False) W' (W'.alloc (.cells (bv (wantL 20 l 0)).toArray 33)) := (Mod.refl _ W').alloc _
    generalize W'.alloc (.cells (bv (wantL 20 l 0)).toArray 33) = w3 at hp0 m3
    obtain ⟨p, hpp⟩ : ∃ p, W'.heap.size = p := ⟨_, rfl⟩
    have hpl : w.heap.size ≤ p := by rw [← hpp]; exact m2.size
    have d3 := d2.mod m3 fun _ _ h => h
    have f3 : ∀ b, F2 b → b ≠ p := fun b hb => by have := d2.lt hb; omega
    have m4 := m2.trans m3
    rw [hpp] at hp0 ⊢
    clear m2 m3 d2 hpp
    unfold L3_4
    refine loopW (fun s W => ∃ i : Nat, i ≤ n ∧ s = (.int .i64 i, ()) ∧ Mod (fun _ => False) w W ∧ DiskR W w.heap.size F2 { DM.new with lasts := tornL l n torn } ∧ hp W p = some (.cells (bv (wantL 20 l i)).toArray 33 (0, 0)))
      (fun s _ => match s.1 with | .int _ i => n - i.toNat | _ => 0) ⟨0, by omega, rfl, m4, d3, hp0⟩ ?_
    clear hp0 d3 m4
    rintro ⟨_, _⟩ W ⟨i, hi, ⟨⟩, mW, dW, hW⟩ _
    have hw1 : IntKind.i64.wrap ((i : Int) + 1) = ((i + 1 : Nat) : Int) := by rw [IntKind.wrap_i64]; omega
    by_cases hlt : i < n
    · obtain ⟨b, off, cap, C, e, fz, hv, hC, hCi⟩ := rd_at hl (show i < l.length by omega)
      rw [hv]
      have hCi' : C[off + i]? = some (.int .i64 (l[i]'(by omega))) := by rw [hCi]; simp [iv, show i < l.length by omega]
      have hC' : hp W b = some (.cells C e fz) := mW.keep hC id
      have hw2 : IntKind.u8.wrap (((i + 1 : Nat) : Int)) = ((i + 1 : Nat) : Int) % 256 := by rw [IntKind.wrap_u8]
      have hw3 : ((i + 1 : Nat) : Int) % 256 = ((UInt8.ofNat (i + 1)).toNat : Int) := by simp
      have hsl := slot_lt (k := 20) (by omega) (l[i]'(by omega))
      have hin : ((slot 20 (l[i]'(by omega)) : Nat) : Int) < 20 := by omega
      have hwl := wantL_length 20 l i
      simp [-Int.natCast_add, go_sem, hC', hCi', hw1, hw2, c20, hlt, show i < l.length by omega, hin, hsl, hW, hwl]
      rw [hw3]
      have mS : Mod (fun b => b = p) W (W.setCell ⟨p, slot 20 (l[i]'(by omega)), none⟩ (.int .u8 ((UInt8.ofNat (i + 1)).toNat : Int))) := (Mod.refl (fun b => b = p) W).setCell (b := p) (.inl (by simp)) _ _
      refine ⟨⟨i + 1, hlt, rfl, mW.setCell (.inr hpl) _ _, dW.mod mS f3, ?_⟩, by omega⟩
      simp only [wantL, List.getElem?_eq_getElem (show i < l.length by omega)]
      simp [bv, List.map_set]
    · have hni : n = i := by omega
      subst hni
      simp [go_sem, hlt]
      unfold L3_3
      refine loopW (fun s W => ∃ (j str : Nat) (x : Value), j ≤ 20 ∧ s = (x, .int .i64 str, .int .i64 j, ()) ∧ str ≤ 1 ∧ (str = 0 ∨ ∃ h : n < l.length, slot 20 l[n] < j) ∧ Mod (fun _ => False) w W ∧ DiskR W w.heap.size F2 { DM.new with lasts := tornL l n torn } ∧
          hp W p = some (.cells (bv (wantL 20 l n)).toArray 33 (0, 0)))
        (fun s _ => match s.2.2.1 with | .int _ j => 20 - j.toNat | _ => 0) ⟨0, 0, _, by omega, rfl, by omega, .inl rfl, mW, dW, hW⟩ ?_
      clear hW dW mW hw1 hlt hi
      rintro ⟨_, _⟩ W ⟨j, str, x, hj, ⟨⟩, hs1, hs2, mW, dW, hW⟩ _
      have hw1 : IntKind.i64.wrap ((j : Int) + 1) = ((j + 1 : Nat) : Int) := by rw [IntKind.wrap_i64]; omega
      have hw2 : IntKind.i64.wrap ((str : Int) + 1) = ((str + 1 : Nat) : Int) := by rw [IntKind.wrap_i64]; omega
      by_cases hlt : j < 20
      · have hlt' : (j : Int) < 20 := by omega
        simp [-Int.natCast_add, go_sem, hlt']
        refine JoinW.on ?_
        refine ca_read dW (by simp [DM.new]) (by simp [DM.new]) (by intro _ h; simp [mayB] at h; omega) fun _ _ w5 v5 o5 m5 n5 => ?_
        rw [show Int.toNat 1 = 1 from rfl] at o5
        have hrd := torn_read l n hn torn j hlt
        obtain ⟨B, hB⟩ : ∃ B, ({ DM.new with lasts := tornL l n torn } : DM).readB 2 j 1 = B := ⟨_, rfl⟩
        have hB' : DM.readB { DM.new with lasts := tornL l n torn } 2 j 1 = B := hB
        rw [hB'] at o5
        rw [hB] at hrd
        clear hB hB'
        have hwl := wantL_length 20 l n
        have hgj : (wantL 20 l n)[j]? = some ((wantL 20 l n).getD j 0) := by rw [List.getElem?_eq_getElem (by omega)]; simp [List.getD, show j < (wantL 20 l n).length by omega]
        have hbj : (bv (wantL 20 l n))[j]? = some (.int .u8 ((wantL 20 l n).getD j 0).toNat) := by rw [bv, List.getElem?_map, hgj]; rfl
        generalize (wantL 20 l n).getD j 0 = c at hrd hgj hbj
        have h5 : hp w5 p = some (.cells (bv (wantL 20 l n)).toArray 33 (0, 0)) := m5.keep hW id
        simp [-Int.natCast_add, go_sem]
        refine rdX_toStr Try.underlying23 Try.underlying5 Try.underlying9 (o5.mod ((Mod.refl (fun _ => False) _).drew) fun _ _ h => h).rd ?_
        obtain ⟨CW, hCW⟩ : ∃ CW, (bv (wantL 20 l n)).toArray = CW := ⟨_, rfl⟩
        have h5' : hp w5 p = some (.cells CW 33 (0, 0)) := by rw [h5, hCW]
        have hcj : CW[j]? = some (.int .u8 c.toNat) := by rw [← hCW, List.getElem?_toArray]; exact hbj
        simp [-Int.natCast_add, go_sem, hlt', hlt, h5', hcj]
        refine ca_sector fun w6 v6 o6 m6 n6 => ?_
        have m56 : Mod (fun _ => False) w5 w6 := ((Mod.refl _ w5).drew).trans m6
        refine ⟨run_toStr Try.underlying23 Try.underlying5 Try.underlying9 (o5.mod m56 fun _ _ h => h).rd, ?_⟩
        refine rdX_toStr Try.underlying23 Try.underlying5 Try.underlying9 o6.rd ?_
        have mz := (mW.trans m5).trans m56
        have dz := dW.mod (m5.trans m56) fun _ _ h => h
        have hz6 : hp w6 p = some (.cells (bv (wantL 20 l n)).toArray 33 (0, 0)) := m56.keep h5 id
        by_cases heq : B = secOf c
        · simp [-Int.natCast_add, go_sem, heq]
          unfold J3_2
          simp [-Int.natCast_add, go_sem, hw1]
          exact ⟨⟨j + 1, hlt, str, ⟨rfl, rfl⟩, hs1, hs2.imp_right fun ⟨h, h'⟩ => ⟨h, by omega⟩, mz, dz, hz6⟩, by omega⟩
        · obtain ⟨hnl, htn, hsl⟩ := hrd.resolve_left heq
          have hs0 : str = 0 := hs2.resolve_right (fun ⟨h, h'⟩ => by omega)
          subst hs0
          simp [-Int.natCast_add, go_sem, heq]
          refine JoinW.at (fun s W' => s = (.bool false, ()) ∧ W' = w6) ?_ ?_
          · obtain ⟨b, off, cap, C, e, fz, hv, hC, hCi⟩ := rd_at hl hnl
            rw [hv]
            have hCi' : C[off + n]? = some (.int .i64 l[n]) := by rw [hCi]; simp [iv, hnl]
            have hC' : hp w6 b = some (.cells C e fz) := mz.keep hC id
            have htl : ¬ torn.length = 0 := by simpa using htn
            simp [-Int.natCast_add, go_sem, Nat.not_le.2 hnl, hnl, hC', hCi', c20, hsl, htn]
          rintro _ W' ⟨rfl, rfl⟩
          unfold J3_1 J3_2
          have hw0 : IntKind.i64.wrap 1 = 1 := by decide
          simp [-Int.natCast_add, go_sem, hw1, hw0]
          exact ⟨⟨j + 1, hlt, 1, ⟨rfl, rfl⟩, by omega, .inr ⟨hnl, by omega⟩, mz, dz, hz6⟩, by omega⟩
      · obtain rfl : j = 20 := by omega
        have hs1' : (str : Int) ≤ 1 := by omega
        simp [go_sem, hs1']
        exact ca_known fun w' m' => hK _ (mW.trans m')
end Go.Proofs
