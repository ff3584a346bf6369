/-
  The wire's forms in plain Lean: a number's form, how it is read, a reader's state; a turn's form, and that what is read is what was written.
  Conditions: none; nothing here speaks of a program.
-/
set_option linter.unusedVariables false
set_option linter.unusedSimpArgs false
namespace Go.Vc

/-- A number's form. -/
def natB (n : Nat) : List UInt8 := if n < 128 then [UInt8.ofNat n] else UInt8.ofNat (n % 128 + 128) :: natB (n / 128)
termination_by n
decreasing_by omega

theorem natB_lt {n : Nat} (h : n < 128) : natB n = [UInt8.ofNat n] := by rw [natB, if_pos h]
theorem natB_ge {n : Nat} (h : ¬ n < 128) : natB n = UInt8.ofNat (n % 128 + 128) :: natB (n / 128) := by rw [natB, if_neg h]
theorem natB_len : ∀ (k n : Nat), n < 128 ^ (k + 1) → (natB n).length ≤ k + 1
  | 0, n, h => by rw [natB_lt (by simpa using h)]; simp
  | k + 1, n, h => by
    by_cases h1 : n < 128
    · rw [natB_lt h1]; simp
    · rw [natB_ge h1]
      have := natB_len k (n / 128) (by rw [Nat.div_lt_iff_lt_mul (by decide)]; rw [Nat.pow_succ] at h; exact h)
      simp only [List.length_cons]; omega
theorem natB_len10 {n : Nat} (h : n < 18446744073709551616) : (natB n).length ≤ 10 := natB_len 9 n (Nat.lt_of_lt_of_le h (by decide))
theorem natB_pos (n : Nat) : 0 < (natB n).length := by
  rw [natB]; split <;> simp

theorem u8_of {n : Nat} (h : n < 256) : (UInt8.ofNat n).toNat = n := by simp; omega

/-- What is read of a number: it, and how many bytes it has; or the error. -/
def rdN : List UInt8 → Nat → Nat → Except Nat (Nat × Nat)
  | [], _, _ => .error 4
  | x :: r, k, acc =>
    if k = 9 ∧ 1 < x.toNat ∨ 9 < k then .error 5
    else if x.toNat < 128 then (if x.toNat = 0 ∧ 0 < k then .error 5 else .ok (acc + x.toNat % 128 * 128 ^ k, k + 1))
    else rdN r (k + 1) (acc + x.toNat % 128 * 128 ^ k)

theorem rdN_natB_aux : ∀ (j n k acc : Nat) (r : List UInt8), n < 128 ^ (j + 1) → k + j = 9 → n * 128 ^ k < 18446744073709551616 → (0 < n ∨ k = 0) → rdN (natB n ++ r) k acc = .ok (acc + n * 128 ^ k, k + (natB n).length)
  | j, n, k, acc, r, hn, hk, hb, h0 => by
    by_cases h1 : n < 128
    · rw [natB_lt h1]
      simp only [List.cons_append, List.nil_append, rdN, u8_of (show n < 256 by omega), List.length_singleton]
      have h9 : ¬ (k = 9 ∧ 1 < n ∨ 9 < k) := by
        rintro (⟨rfl, h⟩ | h)
        · have : 2 * 128 ^ 9 ≤ n * 128 ^ 9 := Nat.mul_le_mul_right _ h
          have e : (2 : Nat) * 128 ^ 9 = 18446744073709551616 := by decide
          omega
        · omega
      rw [if_neg h9, if_pos h1, if_neg (by omega), Nat.mod_eq_of_lt h1]
    · rw [natB_ge h1]
      cases j with
      | zero => simp at hn; omega
      | succ j =>
        have h9 : ¬ (k = 9 ∧ 1 < n % 128 + 128 ∨ 9 < k) := by omega
        have hm : (n % 128 + 128) % 128 = n % 128 := by omega
        simp only [List.cons_append, rdN, u8_of (show n % 128 + 128 < 256 by omega), List.length_cons]
        rw [if_neg h9, if_neg (by omega), hm]
        have e : n % 128 * 128 ^ k + n / 128 * 128 ^ (k + 1) = n * 128 ^ k := by
          rw [Nat.pow_succ, Nat.mul_comm (128 ^ k) 128, ← Nat.mul_assoc, ← Nat.add_mul]
          congr 1; omega
        rw [rdN_natB_aux j (n / 128) (k + 1) _ r (by rw [Nat.div_lt_iff_lt_mul (by decide)]; rw [Nat.pow_succ] at hn; exact hn) (by omega) (by omega) (by omega), Nat.add_assoc, e]
        congr 2; omega
theorem rdN_natB {n : Nat} (r : List UInt8) (h : n < 18446744073709551616) : rdN (natB n ++ r) 0 0 = .ok (n, (natB n).length) := by
  have := rdN_natB_aux 9 n 0 0 r (Nat.lt_of_lt_of_le h (by decide)) rfl (by simpa using h) (.inr rfl)
  simpa using this

theorem rdN_form_aux : ∀ (l : List UInt8) (k acc n m : Nat), rdN l k acc = .ok (n, m) → k ≤ 9 →
    ∃ d, n = acc + d * 128 ^ k ∧ m = k + (natB d).length ∧ (natB d).length ≤ l.length ∧ l.take (natB d).length = natB d ∧ (0 < d ∨ k = 0) ∧ d * 128 ^ k < 18446744073709551616
  | [], _, _, _, _, h, _ => by cases h
  | x :: r, k, acc, n, m, h, hk => by
    have hx := x.toNat_lt
    simp only [rdN] at h
    by_cases h9 : k = 9 ∧ 1 < x.toNat ∨ 9 < k
    · rw [if_pos h9] at h; cases h
    rw [if_neg h9] at h
    have hxo : UInt8.ofNat x.toNat = x := by simp
    have hpw : 128 ^ k * 128 ^ (9 - k) = 9223372036854775808 := by
      rw [← Nat.pow_add, show k + (9 - k) = 9 by omega]
    by_cases h1 : x.toNat < 128
    · rw [if_pos h1] at h
      by_cases h2 : x.toNat = 0 ∧ 0 < k
      · rw [if_pos h2] at h; cases h
      rw [if_neg h2] at h
      cases h
      refine ⟨x.toNat, by rw [Nat.mod_eq_of_lt h1], ?_, ?_, ?_, by omega, ?_⟩
      · rw [natB_lt h1]; rfl
      · rw [natB_lt h1]; simp
      · rw [natB_lt h1, hxo]; simp
      · by_cases hk9 : k = 9
        · subst hk9
          have : x.toNat ≤ 1 := by omega
          have := Nat.mul_le_mul_right (128 ^ 9) this
          have e : (128 : Nat) ^ 9 = 9223372036854775808 := by decide
          omega
        · have h8 : 128 ^ k ≤ 128 ^ 8 := Nat.pow_le_pow_right (by decide) (by omega)
          have h7 := Nat.mul_le_mul (show x.toNat ≤ 127 by omega) h8
          have e : (127 : Nat) * 128 ^ 8 < 18446744073709551616 := by decide
          omega
    · rw [if_neg h1] at h
      have hk8 : k ≠ 9 := fun e => h9 (.inl ⟨e, by omega⟩)
      obtain ⟨d, hd1, hd2, hd3, hd4, hd5, hd6⟩ := rdN_form_aux r (k + 1) _ n m h (by omega)
      have hdp : 0 < d := by omega
      have hq : (x.toNat % 128 + d * 128) / 128 = d := by omega
      have hq2 : (x.toNat % 128 + d * 128) % 128 + 128 = x.toNat := by omega
      have hnb : natB (x.toNat % 128 + d * 128) = x :: natB d := by rw [natB_ge (by omega), hq, hq2, hxo]
      have he : (x.toNat % 128 + d * 128) * 128 ^ k = x.toNat % 128 * 128 ^ k + d * 128 ^ (k + 1) := by
        rw [Nat.add_mul, Nat.pow_succ, Nat.mul_comm (128 ^ k) 128, Nat.mul_assoc]
      refine ⟨x.toNat % 128 + d * 128, ?_, ?_, ?_, ?_, by omega, ?_⟩
      · rw [hd1, he]; omega
      · rw [hnb, hd2, List.length_cons]; omega
      · rw [hnb]; simpa using hd3
      · rw [hnb]; simp [hd4]
      · rw [he]
        have h1' : x.toNat % 128 * 128 ^ k < 128 ^ (k + 1) := by
          rw [Nat.pow_succ, Nat.mul_comm]
          exact Nat.mul_lt_mul_of_pos_left (Nat.mod_lt _ (by decide)) (Nat.pow_pos (by decide))
        have h2' : 128 ^ (k + 1) * 128 ^ (8 - k) = 9223372036854775808 := by
          rw [← Nat.pow_add, show k + 1 + (8 - k) = 9 by omega]
        have h3' : d < 2 * 128 ^ (8 - k) := by
          apply Classical.byContradiction
          intro hc
          have := Nat.mul_le_mul_right (128 ^ (k + 1)) (Nat.le_of_not_lt hc)
          rw [Nat.mul_assoc, Nat.mul_comm (128 ^ (8 - k)), h2'] at this
          omega
        have h4' := Nat.mul_le_mul_right (128 ^ (k + 1)) (show d + 1 ≤ 2 * 128 ^ (8 - k) from h3')
        rw [Nat.mul_assoc, Nat.mul_comm (128 ^ (8 - k)), h2', Nat.add_mul] at h4'
        omega
theorem rdN_form {l : List UInt8} {n m : Nat} (h : rdN l 0 0 = .ok (n, m)) : m = (natB n).length ∧ m ≤ l.length ∧ l.take m = natB n ∧ n < 18446744073709551616 := by
  obtain ⟨d, h1, h2, h3, h4, _, h6⟩ := rdN_form_aux l 0 0 n m h (by omega)
  simp only [Nat.pow_zero, Nat.mul_one, Nat.zero_add] at h1 h2 h6
  subst h1; subst h2
  exact ⟨rfl, h3, h4, h6⟩

/-- The document's way: first how many bytes go on. -/
def ctn : List UInt8 → Nat
  | [] => 0
  | x :: r => if x.toNat < 128 then 0 else ctn r + 1
theorem ctn_le : ∀ l : List UInt8, ctn l ≤ l.length
  | [] => Nat.le_refl _
  | x :: r => by
    have := ctn_le r
    simp only [ctn, List.length_cons]
    split <;> omega
theorem ctn_ge : ∀ (l : List UInt8) (i : Nat), i < ctn l → ∃ x, l[i]? = some x ∧ 128 ≤ x.toNat
  | [], i, h => by simp [ctn] at h
  | x :: r, i, h => by
    simp only [ctn] at h
    by_cases h1 : x.toNat < 128
    · rw [if_pos h1] at h; omega
    · rw [if_neg h1] at h
      cases i with
      | zero => exact ⟨x, rfl, by omega⟩
      | succ i => simpa using ctn_ge r i (by omega)
theorem ctn_at : ∀ (l : List UInt8), ctn l < l.length → ∃ x, l[ctn l]? = some x ∧ x.toNat < 128
  | [], h => by simp at h
  | x :: r, h => by
    simp only [ctn] at h ⊢
    by_cases h1 : x.toNat < 128
    · exact ⟨x, by rw [if_pos h1]; rfl, h1⟩
    · rw [if_neg h1] at h ⊢
      simpa using ctn_at r (by simpa using h)
/-- The value of the first bytes, the last one first. -/
def valN : List UInt8 → Nat
  | [] => 0
  | x :: r => x.toNat % 128 + 128 * valN r
def refN (l : List UInt8) : Except Nat (Nat × Nat) :=
  if l.length ≤ ctn l then (if 10 ≤ ctn l then .error 5 else .error 4)
  else if 9 < ctn l ∨ ctn l = 9 ∧ 1 < (l.getD 9 0).toNat ∨ 0 < ctn l ∧ (l.getD (ctn l) 0).toNat = 0 then .error 5
  else .ok (valN (l.take (ctn l + 1)), ctn l + 1)

theorem rdN_ref : ∀ (l : List UInt8) (k acc : Nat), k ≤ 9 → rdN l k acc =
    (if l.length ≤ ctn l then (if 10 ≤ k + ctn l then .error 5 else .error 4)
     else if 9 < k + ctn l ∨ k + ctn l = 9 ∧ 1 < (l.getD (ctn l) 0).toNat ∨ 0 < k + ctn l ∧ (l.getD (ctn l) 0).toNat = 0 then .error 5
     else .ok (acc + valN (l.take (ctn l + 1)) * 128 ^ k, k + ctn l + 1))
  | [], k, acc, hk => by
    have h : ¬ 10 ≤ k + ctn [] := by simp only [ctn]; omega
    rw [if_pos (by simp [ctn]), if_neg h]
    rfl
  | x :: r, k, acc, hk => by
    by_cases h1 : x.toNat < 128
    · have hc : ctn (x :: r) = 0 := by simp only [ctn]; rw [if_pos h1]
      have hg : ((x :: r).getD 0 0).toNat = x.toNat := rfl
      rw [hc, if_neg (by simp), hg]
      simp only [rdN, Nat.add_zero, Nat.zero_add, List.take_succ_cons, List.take_zero, valN, Nat.mul_zero]
      rw [if_pos h1]
      by_cases h9 : k = 9 ∧ 1 < x.toNat ∨ 9 < k
      · rw [if_pos h9, if_pos (by omega)]
      · rw [if_neg h9]
        by_cases h2 : x.toNat = 0 ∧ 0 < k
        · rw [if_pos h2, if_pos (by omega)]
        · rw [if_neg h2, if_neg (by omega)]
    · have hc : ctn (x :: r) = ctn r + 1 := by simp only [ctn]; rw [if_neg h1]
      have hg : (x :: r).getD (ctn r + 1) 0 = r.getD (ctn r) 0 := by simp
      rw [hc, hg]
      simp only [List.length_cons, List.take_succ_cons, valN]
      by_cases h9 : k = 9
      · subst h9
        have hl : rdN (x :: r) 9 acc = .error 5 := by
          unfold rdN
          rw [if_pos (.inl ⟨rfl, by omega⟩)]
        rw [hl]
        by_cases hlen : r.length + 1 ≤ ctn r + 1
        · rw [if_pos hlen, if_pos (by omega)]
        · rw [if_neg hlen, if_pos (.inl (by omega))]
      · have hl : rdN (x :: r) k acc = rdN r (k + 1) (acc + x.toNat % 128 * 128 ^ k) := by
          simp only [rdN]
          rw [if_neg (by omega), if_neg h1]
        rw [hl, rdN_ref r (k + 1) _ (by omega)]
        have e1 : k + 1 + ctn r = k + (ctn r + 1) := by omega
        rw [e1]
        simp only [Nat.add_le_add_iff_right]
        by_cases hlen : r.length ≤ ctn r
        · rw [if_pos hlen, if_pos hlen]
        · rw [if_neg hlen, if_neg hlen]
          have e2 : acc + x.toNat % 128 * 128 ^ k + valN (r.take (ctn r + 1)) * 128 ^ (k + 1) = acc + (x.toNat % 128 + 128 * valN (r.take (ctn r + 1))) * 128 ^ k := by
            rw [Nat.add_mul, Nat.pow_succ, ← Nat.mul_assoc, Nat.add_assoc]
            congr 2
            rw [Nat.mul_assoc, Nat.mul_comm (128 ^ k), ← Nat.mul_assoc, Nat.mul_comm (valN _) 128]
          rw [e2]
theorem rdN_eq_ref (l : List UInt8) : rdN l 0 0 = refN l := by
  rw [rdN_ref l 0 0 (by omega)]
  unfold refN
  simp only [Nat.zero_add, Nat.pow_zero, Nat.mul_one]
  by_cases h : l.length ≤ ctn l
  · rw [if_pos h, if_pos h]
  · rw [if_neg h, if_neg h]
    by_cases h9 : ctn l = 9
    · rw [h9]
    · by_cases h1 : 9 < ctn l ∨ 0 < ctn l ∧ (l.getD (ctn l) 0).toNat = 0
      · rw [if_pos (by omega), if_pos (by omega)]
      · rw [if_neg (by omega), if_neg (by omega)]

/-! ### A reader -/

/-- Where a reader is, and its fault. -/
structure Rs where
  at_ : Nat
  e : Nat

def rsSmall (l : List UInt8) (most : Nat) (s : Rs) : Nat × Rs :=
  if s.e ≠ 0 then (0, s) else
  match rdN (l.drop s.at_) 0 0 with
  | .error e => (0, { s with e := e })
  | .ok (n, k) => if most < n then (0, { s with e := 5 }) else (n, { s with at_ := s.at_ + k })
def rsText (l : List UInt8) (most : Nat) (s : Rs) : List UInt8 × Rs :=
  if s.e ≠ 0 then ([], s) else
  match rdN (l.drop s.at_) 0 0 with
  | .error e => ([], { s with e := e })
  | .ok (n, k) => if most < n then ([], { s with e := 3 }) else if l.length - (s.at_ + k) < n then ([], { s with e := 4 }) else ((l.drop (s.at_ + k)).take n, { s with at_ := s.at_ + k + n })
def rsDone (l : List UInt8) (s : Rs) : Nat := if s.e = 0 ∧ s.at_ < l.length then 5 else s.e

theorem rsSmall_le {l : List UInt8} {most : Nat} {s : Rs} (h : s.at_ ≤ l.length) : (rsSmall l most s).2.at_ ≤ l.length := by
  unfold rsSmall
  split
  · exact h
  · split
    · exact h
    · rename_i n k hr
      have := (rdN_form hr).2.1
      rw [List.length_drop] at this
      split
      · exact h
      · show s.at_ + k ≤ l.length
        omega
theorem rsSmall_most {l : List UInt8} {most : Nat} {s : Rs} : (rsSmall l most s).1 ≤ most := by
  unfold rsSmall
  split
  · exact Nat.zero_le _
  · split
    · exact Nat.zero_le _
    · split
      · exact Nat.zero_le _
      · rename_i h; exact Nat.le_of_not_lt h
theorem rsText_le {l : List UInt8} {most : Nat} {s : Rs} (h : s.at_ ≤ l.length) : (rsText l most s).2.at_ ≤ l.length := by
  unfold rsText
  split
  · exact h
  · split
    · exact h
    · rename_i n k hr
      have := (rdN_form hr).2.1
      rw [List.length_drop] at this
      split
      · exact h
      · split
        · exact h
        · show s.at_ + k + n ≤ l.length
          omega
theorem rsText_most {l : List UInt8} {most : Nat} {s : Rs} : (rsText l most s).1.length ≤ most := by
  unfold rsText
  split
  · exact Nat.zero_le _
  · split
    · exact Nat.zero_le _
    · split
      · exact Nat.zero_le _
      · split
        · exact Nat.zero_le _
        · rename_i h _
          simp only [List.length_take]
          omega

/-! ### A turn -/

structure Tn where
  c : Nat
  q : Nat
  b : List UInt8
def Tn.May (o : Tn) : Prop := o.c < 64 ∧ o.q ≠ 0 ∧ o.b.length ≤ 2000
instance (o : Tn) : Decidable o.May := by unfold Tn.May; infer_instance
def textB (b : List UInt8) : List UInt8 := natB b.length ++ b
def turnB (o : Tn) : List UInt8 := natB o.c ++ natB o.q ++ textB o.b
/-- What is read, whether or not it may be. -/
def turnO (l : List UInt8) : Tn × Rs :=
  let x := rsSmall l 18446744073709551615 ⟨0, 0⟩
  let y := rsSmall l 18446744073709551615 x.2
  let z := rsText l 2000 y.2
  (⟨x.1, y.1, z.1⟩, z.2)
def turnR (l : List UInt8) : Option Tn := if rsDone l (turnO l).2 = 0 ∧ (turnO l).1.May then some (turnO l).1 else none

theorem rsSmall_ok {l : List UInt8} {s : Rs} {n : Nat} {a r : List UInt8} (hl : l = a ++ (natB n ++ r)) (ha : s.at_ = a.length) (he : s.e = 0) (hn : n < 18446744073709551616) :
    rsSmall l 18446744073709551615 s = (n, ⟨(a ++ natB n).length, 0⟩) := by
  have hd : l.drop s.at_ = natB n ++ r := by rw [hl, ha, List.drop_left]
  unfold rsSmall
  rw [if_neg (by simp [he]), hd, rdN_natB r hn]
  simp only
  rw [if_neg (by omega), ha, List.length_append, he]
theorem rsText_ok {l : List UInt8} {s : Rs} {b a r : List UInt8} {most : Nat} (hl : l = a ++ (natB b.length ++ (b ++ r))) (ha : s.at_ = a.length) (he : s.e = 0) (hn : b.length ≤ most) (hm : most < 18446744073709551616) :
    rsText l most s = (b, ⟨(a ++ natB b.length ++ b).length, 0⟩) := by
  have hd : l.drop s.at_ = natB b.length ++ (b ++ r) := by rw [hl, ha, List.drop_left]
  have hd2 : l.drop (s.at_ + (natB b.length).length) = b ++ r := by rw [← List.drop_drop, hd, List.drop_left]
  unfold rsText
  rw [if_neg (by simp [he]), hd, rdN_natB _ (by omega)]
  simp only
  have hll : l.length = a.length + ((natB b.length).length + (b.length + r.length)) := by rw [hl]; simp
  rw [if_neg (by omega), if_neg (by omega), hd2, List.take_left, ha, he]
  simp [Nat.add_assoc]
theorem turnR_of {o : Tn} (h : o.May) (hq : o.q < 18446744073709551616) : turnR (turnB o) = some o := by
  obtain ⟨c, q, b⟩ := o
  obtain ⟨h1, h2, h3⟩ := h
  simp only at h1 h2 h3 hq
  have e1 : rsSmall (turnB ⟨c, q, b⟩) 18446744073709551615 ⟨0, 0⟩ = (c, ⟨(natB c).length, 0⟩) := by
    have := rsSmall_ok (l := turnB ⟨c, q, b⟩) (s := ⟨0, 0⟩) (n := c) (a := []) (r := natB q ++ textB b) (by simp [turnB, List.append_assoc]) rfl rfl (by omega)
    simpa using this
  have e2 : rsSmall (turnB ⟨c, q, b⟩) 18446744073709551615 ⟨(natB c).length, 0⟩ = (q, ⟨(natB c ++ natB q).length, 0⟩) :=
    rsSmall_ok (s := ⟨(natB c).length, 0⟩) (n := q) (a := natB c) (r := textB b) (by simp [turnB, List.append_assoc]) rfl rfl hq
  have e3 : rsText (turnB ⟨c, q, b⟩) 2000 ⟨(natB c ++ natB q).length, 0⟩ = (b, ⟨(natB c ++ natB q ++ natB b.length ++ b).length, 0⟩) :=
    rsText_ok (s := ⟨(natB c ++ natB q).length, 0⟩) (a := natB c ++ natB q) (r := []) (by simp [turnB, textB, List.append_assoc]) rfl rfl h3 (by omega)
  have e4 : turnO (turnB ⟨c, q, b⟩) = (⟨c, q, b⟩, ⟨(natB c ++ natB q ++ natB b.length ++ b).length, 0⟩) := by
    unfold turnO
    simp only [e1, e2, e3]
  unfold turnR
  rw [e4]
  have e5 : rsDone (turnB ⟨c, q, b⟩) ⟨(natB c ++ natB q ++ natB b.length ++ b).length, 0⟩ = 0 := by
    unfold rsDone
    rw [if_neg]
    simp [turnB, textB, Nat.add_assoc]
  simp only
  rw [if_pos ⟨e5, h1, h2, h3⟩]

theorem rsSmall_form {l : List UInt8} {most : Nat} {s : Rs} (h0 : (rsSmall l most s).2.e = 0) :
    s.e = 0 ∧ (l.drop s.at_).take (natB (rsSmall l most s).1).length = natB (rsSmall l most s).1 ∧ (rsSmall l most s).2.at_ = s.at_ + (natB (rsSmall l most s).1).length ∧ (natB (rsSmall l most s).1).length ≤ l.length - s.at_ := by
  unfold rsSmall at h0 ⊢
  by_cases he : s.e ≠ 0
  · rw [if_pos he] at h0; exact absurd h0 he
  · rw [if_neg he] at h0 ⊢
    cases hr : rdN (l.drop s.at_) 0 0 with
    | error e =>
      rw [hr] at h0
      exfalso
      have : ∀ (l : List UInt8) (k acc : Nat), rdN l k acc ≠ .error 0 := by
        intro l
        induction l with
        | nil => intro k acc h; cases h
        | cons x r ih =>
          intro k acc h
          simp only [rdN] at h
          split at h
          · cases h
          · split at h
            · split at h <;> cases h
            · exact ih _ _ h
      simp only at h0
      subst h0
      exact this _ _ _ hr
    | ok p =>
      obtain ⟨n, k⟩ := p
      rw [hr] at h0
      simp only at h0 ⊢
      by_cases hm : most < n
      · rw [if_pos hm] at h0; cases h0
      · rw [if_neg hm]
        obtain ⟨h1, h2, h3, _⟩ := rdN_form hr
        rw [List.length_drop] at h2
        simp only
        rw [← h1]
        exact ⟨by simpa using he, h3, rfl, h2⟩
theorem rsText_form {l : List UInt8} {most : Nat} {s : Rs} (h0 : (rsText l most s).2.e = 0) :
    s.e = 0 ∧ (l.drop s.at_).take (textB (rsText l most s).1).length = textB (rsText l most s).1 ∧ (rsText l most s).2.at_ = s.at_ + (textB (rsText l most s).1).length ∧ (textB (rsText l most s).1).length ≤ l.length - s.at_ := by
  unfold rsText at h0 ⊢
  by_cases he : s.e ≠ 0
  · rw [if_pos he] at h0; exact absurd h0 he
  · rw [if_neg he] at h0 ⊢
    cases hr : rdN (l.drop s.at_) 0 0 with
    | error e =>
      rw [hr] at h0
      exfalso
      have : ∀ (l : List UInt8) (k acc : Nat), rdN l k acc ≠ .error 0 := by
        intro l
        induction l with
        | nil => intro k acc h; cases h
        | cons x r ih =>
          intro k acc h
          simp only [rdN] at h
          split at h
          · cases h
          · split at h
            · split at h <;> cases h
            · exact ih _ _ h
      simp only at h0
      subst h0
      exact this _ _ _ hr
    | ok p =>
      obtain ⟨n, k⟩ := p
      rw [hr] at h0
      simp only at h0 ⊢
      by_cases hm : most < n
      · rw [if_pos hm] at h0; cases h0
      · rw [if_neg hm] at h0 ⊢
        by_cases hs : l.length - (s.at_ + k) < n
        · rw [if_pos hs] at h0; cases h0
        · rw [if_neg hs]
          obtain ⟨h1, h2, h3, _⟩ := rdN_form hr
          rw [List.length_drop] at h2
          simp only
          have hl : ((l.drop (s.at_ + k)).take n).length = n := by rw [List.length_take, List.length_drop]; omega
          have ht : textB ((l.drop (s.at_ + k)).take n) = natB n ++ (l.drop (s.at_ + k)).take n := by unfold textB; rw [hl]
          have htl : (textB ((l.drop (s.at_ + k)).take n)).length = k + n := by rw [ht, List.length_append, hl, ← h1]
          refine ⟨by simpa using he, ?_, by rw [htl, Nat.add_assoc], by omega⟩
          rw [htl, ht, List.take_add, h3, List.drop_drop]
theorem turnR_form {l : List UInt8} {o : Tn} (h : turnR l = some o) : turnB o = l ∧ o.May := by
  unfold turnR at h
  by_cases hc : rsDone l (turnO l).2 = 0 ∧ (turnO l).1.May
  · rw [if_pos hc] at h
    have h := Option.some.inj h
    refine ⟨?_, h ▸ hc.2⟩
    have hd := hc.1
    unfold rsDone at hd
    by_cases hx : (turnO l).2.e = 0 ∧ (turnO l).2.at_ < l.length
    · rw [if_pos hx] at hd; cases hd
    rw [if_neg hx] at hd
    have hat : l.length ≤ (turnO l).2.at_ := by omega
    rw [← h]
    unfold turnO at hd hat ⊢
    simp only at hd hat ⊢
    obtain ⟨z1, z2, z3, z4⟩ := rsText_form hd
    obtain ⟨y1, y2, y3, y4⟩ := rsSmall_form z1
    obtain ⟨x1, x2, x3, x4⟩ := rsSmall_form y1
    unfold turnB
    simp only at x2 x3 ⊢
    rw [z3, y3, x3] at hat
    rw [y3, x3] at z2 z4
    rw [x3] at y2 y4
    generalize natB (rsSmall l 18446744073709551615 ⟨0, 0⟩).1 = A at *
    generalize natB (rsSmall l 18446744073709551615 (rsSmall l 18446744073709551615 ⟨0, 0⟩).2).1 = B at *
    generalize textB (rsText l 2000 (rsSmall l 18446744073709551615 (rsSmall l 18446744073709551615 ⟨0, 0⟩).2).2).1 = C at *
    simp only [Nat.zero_add, List.drop_zero] at *
    have e1 : l = A ++ l.drop A.length := by conv => lhs; rw [← List.take_append_drop A.length l, x2]
    have e2 : l.drop A.length = B ++ l.drop (A.length + B.length) := by conv => lhs; rw [← List.take_append_drop B.length (l.drop A.length), y2, List.drop_drop]
    have e3 : l.drop (A.length + B.length) = C := by
      rw [← z2, List.take_of_length_le]
      rw [List.length_drop]; omega
    rw [List.append_assoc, ← e3, ← e2, ← e1]
  · rw [if_neg hc] at h; cases h
end Go.Vc
