/-
  The contracts of crc.table and crc.Sum.
  Conditions: the memory holds the bytes.
-/
import Derived.Test.YteldcaeicgobfaaVote1
set_option linter.unusedSimpArgs false
set_option linter.unusedVariables false
namespace Go.Proofs
open Go Go.Vc

theorem rdW_of {P : Program} {s : Sem Value} {w : World} {K : Value → Prop} {v : Value} (h : s.run P w = .ok v w) (hK : K v) : rdW P s w K := by
  rw [rdW_iff]
  unfold rdWD
  rw [h]
  exact ⟨rfl, hK⟩
theorem rdW_big {P : Program} {t : TypeId} {w : World} {K : Value → Prop} {b off : Nat} (cs : List Value) (n : Nat) (h0 : isAggT P t = true) (hn : P.cellsOf t = n + 1) (hl : cs.length = n + 1) (h : At w b off cs) (hK : K (.agg cs.toArray)) :
    rdW P (Instr.loadAt t (.pointer (some ⟨b, off, none⟩))) w K := rdW_of (run_bigS h0 hn hl h) hK

def crcBit (x : Nat) : Nat := if x % 2 = 1 then (x / 2) ^^^ 3988292384 else x / 2
def crcBits : Nat → Nat → Nat
  | 0, x => x
  | k + 1, x => crcBit (crcBits k x)
theorem crcBit_lt {x : Nat} (h : x < 4294967296) : crcBit x < 4294967296 := by
  unfold crcBit
  split
  · exact Nat.xor_lt_two_pow (n := 32) (by omega) (by omega)
  · omega
theorem crcBits_lt {x : Nat} (h : x < 4294967296) : ∀ k, crcBits k x < 4294967296
  | 0 => h
  | k + 1 => crcBit_lt (crcBits_lt h k)
def tabV (i : Nat) : Nat := crcBits 8 i
def tabL (n : Nat) : List Nat := (List.range 256).map fun i => if i < n then tabV i else 0
def tabC (n : Nat) : List Value := (tabL n).map fun x : Nat => .int .u32 (x : Int)
theorem tabL_length (n : Nat) : (tabL n).length = 256 := by simp [tabL]
theorem tabC_length (n : Nat) : (tabC n).length = 256 := by simp [tabC, tabL_length]
theorem tabL_succ (n : Nat) (h : n < 256) : (tabL n).set n (tabV n) = tabL (n + 1) := by
  apply List.ext_getElem?
  intro j
  rw [List.getElem?_set]
  simp only [tabL, List.getElem?_map, List.length_map, List.length_range]
  by_cases hj : j < 256
  · rw [List.getElem?_range hj]
    by_cases e : n = j
    · subst e; simp [h]
    · simp only [e, if_false, Option.map_some]
      congr 2
      apply propext
      omega
  · have : (List.range 256)[j]? = none := List.getElem?_eq_none (by simp; omega)
    rw [this]
    have : n ≠ j := by omega
    simp [this]
theorem tabC_succ (n : Nat) (h : n < 256) : (tabC n).set n (.int .u32 (tabV n)) = tabC (n + 1) := by
  unfold tabC
  rw [← tabL_succ n h, List.map_set]
theorem tabC_one (n : Nat) : (tabC n).all (·.oneCell') = true := by simp [tabC, Value.oneCell']
theorem tT1 : isAggT Try.prog 157 = true := by kernel_rfl
theorem tT2 : Try.prog.cellsOf 157 = 255 + 1 := by kernel_rfl
theorem tT3 : hasZero Try.prog 157 = true := by kernel_rfl
theorem tT4 : zeroC Try.prog 157 = tabC 0 := by kernel_rfl

set_option maxRecDepth 10000 in
theorem ca_table {w : World} {K : Kont} (hK : ∀ w', Mod (fun _ => False) w w' → K (.agg (tabC 256).toArray) w') : Ca Try.prog 99 #[] w K := by
  apply ca99
  unfold F99
  refine rx_bigA tT3 ?_
  rw [tT4]
  have hA : hp (w.alloc (.cells (tabC 0).toArray 157)) w.heap.size = some (.cells (tabC 0).toArray 157 (0, 0)) := by simp only [hp_alloc, if_pos]
  have mA : Mod (fun _ => False) w (w.alloc (.cells (tabC 0).toArray 157)) := (Mod.refl _ w).alloc _
  generalize (w.alloc (.cells (tabC 0).toArray 157)) = W0 at hA mA
  unfold L99_1
  refine loopK (fun s W => ∃ i : Nat, i ≤ 256 ∧ s = (.int .i64 i, ()) ∧ Mod (fun _ => False) w W ∧ hp W w.heap.size = some (.cells (tabC i).toArray 157 (0, 0)))
    (fun s _ => match s.1 with | .int _ i => 256 - i.toNat | _ => 0) ⟨0, by omega, rfl, mA, hA⟩ ?_
  clear hA mA
  rintro ⟨_, _⟩ W ⟨i, hi, ⟨⟩, mW, hW⟩ KN hKN _
  have hw1 : IntKind.i64.wrap ((i : Int) + 1) = ((i + 1 : Nat) : Int) := by rw [IntKind.wrap_i64]; omega
  by_cases hlt : i < 256
  · have hlt' : (i : Int) < 256 := by omega
    have hw0 : IntKind.u32.wrap (i : Int) = (i : Int) := by rw [IntKind.wrap_u32']; omega
    simp [-Int.natCast_add, go_sem, hlt', hw0]
    unfold L99_0
    refine loopK (fun s W' => W' = W ∧ ∃ k : Nat, k ≤ 8 ∧ s = (.int .u32 (crcBits k i : Nat), .int .i64 k, ())) (fun s _ => match s.2.1 with | .int _ i => 8 - i.toNat | _ => 0) ⟨rfl, 0, by omega, rfl⟩ ?_
    rintro ⟨_, _⟩ W' ⟨rfl, k, hk, ⟨⟩⟩ KN2 hKN2 _
    have hx := crcBits_lt (x := i) (by omega) k
    have hw2 : IntKind.i64.wrap ((k : Int) + 1) = ((k + 1 : Nat) : Int) := by rw [IntKind.wrap_i64]; omega
    have hand : bits .and .u32 ((crcBits k i : Nat) : Int) 1 = ((crcBits k i % 2 : Nat) : Int) := by
      have := u32_and_nat (crcBits k i) 1 hx (by omega)
      rw [Nat.and_one_is_mod] at this
      exact this
    have hxor : bits .xor .u32 (((crcBits k i : Nat) : Int) / 2) 3988292384 = ((((crcBits k i / 2) ^^^ 3988292384) : Nat) : Int) := u32_xor_nat (crcBits k i / 2) 3988292384 (by omega) (by omega)
    by_cases hlt2 : k < 8
    · have hlt2' : (k : Int) < 8 := by omega
      simp [-Int.natCast_add, -Int.natCast_emod, go_sem, hlt2', hand, hxor, hw2]
      by_cases hodd : crcBits k i % 2 = 1
      · have h1 : ((crcBits k i % 2 : Nat) : Int) = 1 := by omega
        simp only [h1, if_true]
        exact hKN2 _ _ ⟨rfl, k + 1, by omega, by simp [crcBits, crcBit, hodd]⟩ (by simp; omega)
      · have h1 : ¬ ((crcBits k i % 2 : Nat) : Int) = 1 := by omega
        simp only [h1, if_false]
        exact hKN2 _ _ ⟨rfl, k + 1, by omega, by simp [crcBits, crcBit, hodd]⟩ (by simp; omega)
    · have : k = 8 := by omega
      subst this
      obtain ⟨CC, hCC⟩ : ∃ CC, (tabC i).toArray = CC := ⟨_, rfl⟩
      have hW' : hp W' w.heap.size = some (.cells CC 157 (0, 0)) := by rw [← hCC]; exact hW
      have hsz : CC.size = 256 := by rw [← hCC]; simp [tabC_length]
      simp [-Int.natCast_add, go_sem, hlt, hlt', hW', hsz, hw1]
      refine hKN _ _ ⟨i + 1, by omega, rfl, mW.setCell (.inr (Nat.le_refl _)) _ _, ?_⟩ (by simp; omega)
      simp [go_sem, hW']
      rw [← hCC]
      apply Array.ext'
      rw [Array.toList_setIfInBounds]
      exact tabC_succ i hlt
  · have : i = 256 := by omega
    subst this
    simp [go_sem]
    refine rx_bigS (tabC 256) 255 tT1 tT2 (tabC_length 256) ⟨_, _, _, hW, by simp [tabC_length], by simp⟩ ?_
    refine rux_bigU tT2 (tabC_length 256) hW (by rw [List.size_toArray, tabC_length]; omega) (tabC_one 256) ?_
    have hlay : lay (tabC 256).toArray.toList 0 (tabC 256) = tabC 256 := lay_all rfl
    rw [hlay]
    have h2 : hp (W.setRow w.heap.size (tabC 256).toArray) w.heap.size = some (.cells (tabC 256).toArray 157 (0, 0)) := by
      rw [hp_setRow, if_pos rfl, hW]
    refine rdX_bigS (b := w.heap.size) (off := 0) (tabC 256) 255 tT1 tT2 (tabC_length 256) ⟨_, _, _, h2, by rw [List.size_toArray]; omega, by simp⟩ ?_
    exact hK _ (mW.setRow (.inr (Nat.le_refl _)) _)

def crcStep (x : Nat) (b : UInt8) : Nat := tabV ((x % 256) ^^^ b.toNat) ^^^ (x / 256)
def crcRun (l : List UInt8) : Nat := l.foldl crcStep 4294967295
def crcOf (l : List UInt8) : Nat := 4294967295 ^^^ crcRun l
theorem crcStep_lt {x : Nat} (h : x < 4294967296) (b : UInt8) : crcStep x b < 4294967296 := by
  have h1 : (x % 256) ^^^ b.toNat < 256 := Nat.xor_lt_two_pow (n := 8) (by omega) (by have := b.toNat_lt; omega)
  exact Nat.xor_lt_two_pow (n := 32) (crcBits_lt (by omega) 8) (by omega)
theorem crcFold_lt : ∀ (l : List UInt8) (x : Nat), x < 4294967296 → l.foldl crcStep x < 4294967296
  | [], x, h => h
  | b :: l, x, h => crcFold_lt l _ (crcStep_lt h b)
theorem crcRun_lt (l : List UInt8) : crcRun l < 4294967296 := crcFold_lt l _ (by omega)
theorem crcOf_lt (l : List UInt8) : crcOf l < 4294967296 := Nat.xor_lt_two_pow (n := 32) (by omega) (crcRun_lt l)
theorem crcRun_take (l : List UInt8) (j : Nat) (h : j < l.length) : crcRun (l.take (j + 1)) = crcStep (crcRun (l.take j)) l[j] := by
  rw [List.take_succ_eq_append_getElem h]
  unfold crcRun
  rw [List.foldl_append]
  rfl

set_option maxRecDepth 10000 in
/-- The sum of one row of bytes. -/
theorem ca_crc {w : World} {K : Kont} {v sl : Value} {bs : List UInt8} (hv : Rd w 1 v 1 [sl]) (hs : Rd w 1 sl bs.length (bv bs)) (hn : bs.length < 4398046511104) (hK : ∀ w', Mod (fun _ => False) w w' → K (.int .u32 (crcOf bs)) w') : Ca Try.prog 87 #[v] w K := by
  obtain ⟨va, vc, rfl⟩ := hv.isSl
  obtain ⟨sa, sc, rfl⟩ := hs.isSl
  apply ca87
  unfold F87
  refine ca_table fun w1 m1 => ?_
  refine rx_bigA tT3 ?_
  rw [tT4]
  have hA : hp (w1.alloc (.cells (tabC 0).toArray 157)) w1.heap.size = some (.cells (tabC 0).toArray 157 (0, 0)) := by simp only [hp_alloc, if_pos]
  have mA : Mod (fun _ => False) w1 (w1.alloc (.cells (tabC 0).toArray 157)) := (Mod.refl _ w1).alloc _
  generalize (w1.alloc (.cells (tabC 0).toArray 157)) = w2 at hA mA
  refine rux_bigU tT2 (tabC_length 256) hA (by rw [List.size_toArray, tabC_length, tabC_length]; omega) (tabC_one 256) ?_
  have hlay : lay (tabC 0).toArray.toList 0 (tabC 256) = tabC 256 := lay_all (by rw [tabC_length]; simp [tabC_length])
  rw [hlay]
  have hT : hp (w2.setRow w1.heap.size (tabC 256).toArray) w1.heap.size = some (.cells (tabC 256).toArray 157 (0, 0)) := by
    rw [hp_setRow, if_pos rfl, hA]
  have mT : Mod (fun _ => False) w (w2.setRow w1.heap.size (tabC 256).toArray) := m1.trans (mA.setRow (.inr (Nat.le_refl _)) _)
  generalize w2.setRow w1.heap.size (tabC 256).toArray = W at hT mT
  generalize w1.heap.size = p at hT
  clear hA mA hlay m1
  obtain ⟨CT, hCT⟩ : ∃ CT, (tabC 256).toArray = CT := ⟨_, rfl⟩
  rw [hCT] at hT
  have hCsz : CT.size = 256 := by rw [← hCT, List.size_toArray, tabC_length]
  have hCg : ∀ j : Nat, j < 256 → CT[j]? = some (.int .u32 (tabV j : Nat)) := by
    intro j hj
    rw [← hCT, List.getElem?_toArray, tabC, List.getElem?_map, tabL, List.getElem?_map, List.getElem?_range hj]
    simp [hj]
  obtain ⟨b0, off0, cap0, C0, e0, fz0, hv0, hC0, hC0i⟩ := rd_at (hv.mod mT fun _ _ h => h) (show 0 < 1 by omega)
  rw [hv0]
  have hC0j : C0[off0]? = some (.slice sa bs.length sc) := by simpa using hC0i
  simp [go_sem]
  unfold L87_1
  refine loopK (fun s W' => W' = W ∧ ∃ i : Nat, i ≤ 1 ∧ s = (.int .u32 (if i = 0 then (4294967295 : Nat) else crcRun bs : Nat), .int .i64 i, ())) (fun s _ => match s.2.1 with | .int _ i => 1 - i.toNat | _ => 0) ⟨rfl, 0, by omega, rfl⟩ ?_
  rintro ⟨_, _⟩ W' ⟨rfl, i, hi, ⟨⟩⟩ KN hKN _
  by_cases hi0 : i = 0
  · subst hi0
    simp [go_sem, hC0, hC0j]
    unfold L87_0
    refine loopK (fun s W2 => W2 = W' ∧ ∃ j : Nat, j ≤ bs.length ∧ s = (.int .u32 (crcRun (bs.take j) : Nat), .int .i64 j, ())) (fun s _ => match s.2.1 with | .int _ i => bs.length - i.toNat | _ => 0) ⟨rfl, 0, by omega, rfl⟩ ?_
    rintro ⟨_, _⟩ W2 ⟨rfl, j, hj, ⟨⟩⟩ KN2 hKN2 _
    have hw1 : IntKind.i64.wrap ((j : Int) + 1) = ((j + 1 : Nat) : Int) := by rw [IntKind.wrap_i64]; omega
    by_cases hlt : j < bs.length
    · obtain ⟨b1, off1, cap1, C1, e1, fz1, hv1, hC1, hC1i⟩ := rd_at (hs.mod mT fun _ _ h => h) hlt
      have hC1j : C1[off1 + j]? = some (.int .u8 bs[j].toNat) := by rw [hC1i]; simp [bv, hlt]
      have hx := crcRun_lt (bs.take j)
      have hc := bs[j].toNat_lt
      have h8 : IntKind.u8.wrap ((crcRun (bs.take j) : Nat) : Int) = ((crcRun (bs.take j) % 256 : Nat) : Int) := by rw [IntKind.wrap_u8]; omega
      have hxor : bits .xor .u8 ((crcRun (bs.take j) % 256 : Nat) : Int) (bs[j].toNat : Int) = (((crcRun (bs.take j) % 256) ^^^ bs[j].toNat : Nat) : Int) := u8_xor_nat _ _ (by omega) (by omega)
      have hidx : (crcRun (bs.take j) % 256) ^^^ bs[j].toNat < 256 := Nat.xor_lt_two_pow (n := 8) (by omega) (by omega)
      obtain ⟨ix, hix⟩ : ∃ ix, (crcRun (bs.take j) % 256) ^^^ bs[j].toNat = ix := ⟨_, rfl⟩
      rw [hix] at hxor hidx
      have hidx' : (ix : Int) < 256 := by omega
      have htv : tabV ix < 4294967296 := crcBits_lt (by omega) 8
      have hxor2 : bits .xor .u32 ((tabV ix : Nat) : Int) (((crcRun (bs.take j) : Nat) : Int) / 256) = ((crcRun (bs.take (j + 1)) : Nat) : Int) := by
        have := u32_xor_nat (tabV ix) (crcRun (bs.take j) / 256) htv (by omega)
        rw [crcRun_take _ _ hlt]
        unfold crcStep
        rw [hix]
        exact this
      have hCi := hCg ix hidx
      rw [hv1]
      simp [-Int.natCast_add, -Int.natCast_emod, go_sem, hlt, hC1, hC1j, h8, hxor, hT, hidx, hidx', hCi, hxor2, hw1]
      exact hKN2 _ _ ⟨rfl, j + 1, hlt, rfl⟩ (by simp; omega)
    · have : j = bs.length := by omega
      subst this
      simp [go_sem]
      refine hKN _ _ ⟨rfl, 1, by omega, ?_⟩ (by simp [show IntKind.i64.wrap 1 = 1 from by decide])
      simp [show IntKind.i64.wrap 1 = 1 from by decide]
  · have : i = 1 := by omega
    subst this
    have hx := crcRun_lt bs
    have e1 : bits .xor .u32 4294967295 ((crcRun bs : Nat) : Int) = ((crcOf bs : Nat) : Int) := u32_xor_nat 4294967295 (crcRun bs) (by omega) hx
    have e2 : IntKind.u32.max = 4294967295 := by decide
    simp [go_sem, show IntKind.u32.signed = false from rfl, e2, e1]
    exact hK _ mT
end Go.Proofs
