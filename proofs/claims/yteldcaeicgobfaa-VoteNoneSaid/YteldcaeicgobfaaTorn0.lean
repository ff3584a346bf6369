/-
  Sectors told by numbers: the plain law of DiskTorn and DiskSynced.
  Conditions: none; nothing here speaks of a program.
-/
import Derived.Test.YteldcaeicgobfaaDisk7
set_option linter.unusedSimpArgs false
set_option linter.unusedVariables false
namespace Go.Proofs
open Go Go.Vc

/-- The place that a number tells: its 64 bits, taken without a sign, by k. -/
def slot (k : Nat) (x : Int) : Nat := (x % 18446744073709551616 % k).toNat
theorem slot_lt {k : Nat} (hk : 0 < k) (x : Int) : slot k x < k := by
  have h1 := Int.emod_nonneg (x % 18446744073709551616) (b := (k : Int)) (by omega)
  have h2 := Int.emod_lt_of_pos (x % 18446744073709551616) (b := (k : Int)) (by omega)
  unfold slot
  omega
theorem slot_eq {k : Nat} (hk : 0 < k) (x : Int) : x % 18446744073709551616 % k = (slot k x : Int) := by
  have h1 := Int.emod_nonneg (x % 18446744073709551616) (b := (k : Int)) (by omega)
  unfold slot
  omega

def wsT (f : Int) (k : Nat) (base : Nat) (l : List Int) : List (Pl × Sec) := l.zipIdx.map fun p => ((f, (slot k p.1 : Int)), secOf (UInt8.ofNat (p.2 + base)))
theorem wsT_length (f : Int) (k base : Nat) (l : List Int) : (wsT f k base l).length = l.length := by simp [wsT]
theorem wsT_get (f : Int) (k base : Nat) (l : List Int) (i : Nat) (h : i < l.length) : (wsT f k base l)[i]'(by rw [wsT_length]; exact h) = ((f, (slot k l[i] : Int)), secOf (UInt8.ofNat (i + base))) := by simp [wsT]
theorem wsT_get? (f : Int) (k base : Nat) (l : List Int) (i : Nat) (h : i < l.length) : (wsT f k base l)[i]? = some ((f, (slot k l[i] : Int)), secOf (UInt8.ofNat (i + base))) := by
  rw [List.getElem?_eq_getElem (by rw [wsT_length]; exact h), wsT_get]

/-- What is wanted behind n numbers. -/
def wantL (k : Nat) (l : List Int) : Nat → List UInt8
  | 0 => List.replicate k 0
  | n + 1 => match l[n]? with
    | some x => (wantL k l n).set (slot k x) (UInt8.ofNat (n + 1))
    | none => wantL k l n
theorem wantL_length (k : Nat) (l : List Int) : ∀ n, (wantL k l n).length = k
  | 0 => by simp [wantL]
  | n + 1 => by
    simp only [wantL]
    split
    · rw [List.length_set, wantL_length k l n]
    · exact wantL_length k l n

theorem secOf_zero : secOf 0 = zsec := rfl
theorem want_sec (f : Int) {k : Nat} (hk : 0 < k) (l : List Int) (j : Nat) (hj : j < k) : ∀ n, n ≤ l.length →
    (lk (putL [] ((wsT f k 1 l).take n)) (f, (j : Int))).getD zsec = secOf ((wantL k l n).getD j 0)
  | 0, _ => by
    rw [wantL, show (List.replicate k (0 : UInt8)).getD j 0 = 0 from ?_, secOf_zero]
    · rfl
    · simp [List.getD, hj]
  | n + 1, hn => by
    have ih := want_sec f hk l j hj n (by omega)
    rw [putL_take _ _ _ (by rw [wsT_length]; omega), wsT_get _ _ _ _ _ (by omega), lk_put]
    simp only [wantL, List.getElem?_eq_getElem (show n < l.length by omega)]
    by_cases h : slot k l[n] = j
    · rw [if_pos (by rw [h]), h]
      simp [List.getD, wantL_length, hj]
    · rw [if_neg (by simp; omega), ih]
      congr 1
      simp [List.getD, List.getElem?_set, h]

/-- The disk behind i numbers of DiskTorn, synced ahead of number fr. -/
def sp (fr i : Nat) : Nat := if fr < i then fr else 0
def tornD (l : List Int) (fr i : Nat) : DM := { lasts := putL [] ((wsT 2 20 1 l).take (sp fr i)), waits := ((wsT 2 20 1 l).take i).drop (sp fr i), left := 0, armed := false, off := false }
theorem tornD_zero (l : List Int) (fr : Nat) : tornD l fr 0 = DM.new := rfl
theorem tornD_waits (l : List Int) (fr i : Nat) : (tornD l fr i).waits.length ≤ i := by simp [tornD]; omega

theorem write_one {D : DM} (h1 : D.off = false) (h2 : D.armed = false) {f a : Int} {b : Sec} (hb : b.length = 128) (hm : mayB f a 1 = true) : D.write f a b = (0, { D with waits := D.waits ++ [((f, a), b)] }) := by
  have hc : chunks b 1 = [b] := by simp [chunks, List.take_of_length_le (Nat.le_of_eq hb)]
  have hs : D.step = (true, D) := by simp [DM.step, h2]
  simp [DM.write, h1, hb, hm, hc, DM.write1, hs]
theorem sync_one {D : DM} (h1 : D.off = false) (h2 : D.armed = false) : D.sync = (0, { D with lasts := putL D.lasts D.waits, waits := [] }) := by
  have hs : D.step = (true, D) := by simp [DM.step, h2]
  simp [DM.sync, h1, hs]

theorem torn_synced (l : List Int) (i : Nat) (hi : i < l.length) : (tornD l i i).sync = (0, { tornD l i i with lasts := putL [] ((wsT 2 20 1 l).take i), waits := [] }) := by
  rw [sync_one rfl rfl]
  simp [tornD, sp, putL]
theorem torn_step (l : List Int) (fr i : Nat) (hi : i < l.length) (D : DM) (hD : D = if i = fr then (tornD l fr i).sync.2 else tornD l fr i) :
    D.write 2 (slot 20 l[i]) (secOf (UInt8.ofNat (i + 1))) = (0, tornD l fr (i + 1)) := by
  have hsl := slot_lt (k := 20) (by omega) l[i]
  have hm : mayB 2 (slot 20 l[i]) 1 = true := by simp [mayB]; omega
  have hw := wsT_length 2 20 1 l
  have ht : (wsT 2 20 1 l).take (i + 1) = (wsT 2 20 1 l).take i ++ [((2, (slot 20 l[i] : Int)), secOf (UInt8.ofNat (i + 1)))] := by
    rw [List.take_succ_eq_append_getElem (by omega), wsT_get _ _ _ _ _ hi]
  by_cases h : i = fr
  · subst h
    rw [if_pos rfl, torn_synced l i hi] at hD
    subst hD
    rw [write_one rfl rfl (secOf_length _) hm]
    simp only [tornD, sp, Nat.lt_irrefl, if_false, Nat.lt_succ_self, if_true, ht]
    rw [List.drop_append_of_le_length (by simp; omega), List.drop_of_length_le (by simp; omega)]
  · rw [if_neg h] at hD
    subst hD
    rw [write_one rfl rfl (secOf_length _) hm]
    have e : sp fr (i + 1) = sp fr i := by unfold sp; split <;> split <;> omega
    have hle : sp fr i ≤ i := by unfold sp; split <;> omega
    simp only [tornD, e, ht]
    rw [List.drop_append_of_le_length (by simp; omega)]

/-- What a crash leaves. -/
def tornN (l : List Int) (fr keep : Nat) : Nat := if keep < l.length - fr then fr + keep else l.length
def tornL (l : List Int) (n : Nat) (torn : List UInt8) : List (Pl × Sec) :=
  match l[n]? with
  | some x => if torn = [] then putL [] ((wsT 2 20 1 l).take n) else put (putL [] ((wsT 2 20 1 l).take n)) (2, (slot 20 x : Int)) (tornSec torn)
  | none => putL [] ((wsT 2 20 1 l).take n)
theorem putL_append (L a b : List (Pl × Sec)) : putL (putL L a) b = putL L (a ++ b) := by simp [putL]
theorem torn_crash (l : List Int) (fr keep : Nat) (torn : List UInt8) (hf : sp fr l.length ≤ l.length) :
    (tornD l fr l.length).crash keep torn = { DM.new with lasts := tornL l (tornN l (sp fr l.length) keep) torn } := by
  obtain ⟨p, hp⟩ : ∃ p, sp fr l.length = p := ⟨_, rfl⟩
  rw [hp] at hf ⊢
  have hw := wsT_length 2 20 1 l
  have e1 : (tornD l fr l.length).waits = (wsT 2 20 1 l).drop p := by simp [tornD, hp, List.take_of_length_le (Nat.le_of_eq hw)]
  have e2 : (tornD l fr l.length).lasts = putL [] ((wsT 2 20 1 l).take p) := by simp [tornD, hp]
  have e3 : ∀ m, (wsT 2 20 1 l).take p ++ ((wsT 2 20 1 l).drop p).take m = (wsT 2 20 1 l).take (p + m) := fun m => by rw [List.take_add]
  unfold DM.crash
  rw [e1, e2]
  simp only [putL_append, e3, List.getElem?_drop]
  have e4 : ∀ L, ({ tornD l fr l.length with lasts := L, waits := [], armed := false, off := false } : DM) = { DM.new with lasts := L } := fun _ => rfl
  rw [e4]
  congr 1
  unfold tornL tornN
  by_cases h : keep < l.length - p
  · rw [if_pos h, wsT_get? _ _ _ _ _ (show p + keep < l.length by omega), List.getElem?_eq_getElem (show p + keep < l.length by omega)]
  · rw [if_neg h, List.getElem?_eq_none (show (wsT 2 20 1 l).length ≤ p + keep by omega), List.getElem?_eq_none (Nat.le_refl _)]
    simp only
    rw [List.take_of_length_le (show (wsT 2 20 1 l).length ≤ p + keep by omega), List.take_of_length_le (show (wsT 2 20 1 l).length ≤ l.length by omega)]

/-- What a sector is, read behind the crash: the one that is wanted; or the torn one. -/
theorem torn_read (l : List Int) (n : Nat) (hn : n ≤ l.length) (torn : List UInt8) (j : Nat) (hj : j < 20) :
    ({ DM.new with lasts := tornL l n torn } : DM).readB 2 j 1 = secOf ((wantL 20 l n).getD j 0) ∨ ∃ h : n < l.length, torn ≠ [] ∧ slot 20 l[n] = j := by
  have e : ({ DM.new with lasts := tornL l n torn } : DM).readB 2 j 1 = (lk (tornL l n torn) (2, (j : Int))).getD zsec := by
    simp [DM.readB, DM.secAt, putL, DM.new]
  rw [e]
  unfold tornL
  have hw := want_sec 2 (by omega) l j hj n hn
  by_cases h : n < l.length
  · rw [List.getElem?_eq_getElem h]
    simp only
    by_cases ht : torn = []
    · rw [if_pos ht]; exact .inl hw
    · rw [if_neg ht, lk_put]
      by_cases hs : slot 20 l[n] = j
      · exact .inr ⟨h, ht, hs⟩
      · rw [if_neg (by simp; omega)]; exact .inl hw
  · rw [List.getElem?_eq_none (by omega)]
    exact .inl hw
end Go.Proofs
