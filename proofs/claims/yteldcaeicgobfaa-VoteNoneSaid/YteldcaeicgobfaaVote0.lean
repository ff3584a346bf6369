/-
  A mark's form as plain bytes.
  Conditions: none; nothing here speaks of a program.
-/
import Derived.Test.YteldcaeicgobfaaSync1
set_option linter.unusedSimpArgs false
set_option linter.unusedVariables false
namespace Go.Proofs
open Go Go.Vc

/-- k bytes of a number, the highest first. -/
def be : Nat → Nat → List UInt8
  | 0, _ => []
  | k + 1, n => UInt8.ofNat (n / 256 ^ k) :: be k n
theorem be_length : ∀ (k n : Nat), (be k n).length = k
  | 0, _ => rfl
  | k + 1, n => by simp [be, be_length k n]
def ofB (l : List UInt8) : Nat := l.foldl (fun n c => n * 256 + c.toNat) 0
theorem ofB_acc : ∀ (l : List UInt8) (a : Nat), l.foldl (fun n c => n * 256 + c.toNat) a = a * 256 ^ l.length + ofB l
  | [], a => by simp [ofB]
  | c :: l, a => by
    have h1 := ofB_acc l (a * 256 + c.toNat)
    have h2 := ofB_acc l c.toNat
    unfold ofB at *
    simp only [List.foldl_cons, Nat.zero_mul, Nat.zero_add, List.length_cons] at *
    rw [h1, h2, Nat.pow_succ, Nat.add_mul, Nat.mul_assoc, Nat.mul_comm 256, Nat.add_assoc]
theorem ofB_cons (c : UInt8) (l : List UInt8) : ofB (c :: l) = c.toNat * 256 ^ l.length + ofB l := by
  have := ofB_acc l c.toNat
  unfold ofB at *
  simpa using this
theorem ofB_lt : ∀ l : List UInt8, ofB l < 256 ^ l.length
  | [] => by simp [ofB]
  | c :: l => by
    rw [ofB_cons, List.length_cons, Nat.pow_succ]
    have h1 := ofB_lt l
    have h2 := c.toNat_lt
    have : (c.toNat + 1) * 256 ^ l.length ≤ 256 * 256 ^ l.length := Nat.mul_le_mul_right _ h2
    rw [Nat.add_mul] at this
    rw [Nat.mul_comm (256 ^ l.length)]
    omega
theorem ofB_be : ∀ (k n : Nat), ofB (be k n) = n % 256 ^ k
  | 0, n => by simp [be, ofB, Nat.mod_one]
  | k + 1, n => by
    rw [be, ofB_cons, be_length, ofB_be k n]
    have h1 : (UInt8.ofNat (n / 256 ^ k)).toNat = n / 256 ^ k % 256 := by simp
    rw [h1, Nat.pow_succ, Nat.mod_mul, Nat.add_comm, Nat.mul_comm]
theorem be_inj {k a b : Nat} (ha : a < 256 ^ k) (hb : b < 256 ^ k) (h : be k a = be k b) : a = b := by
  have := congrArg ofB h
  rwa [ofB_be, ofB_be, Nat.mod_eq_of_lt ha, Nat.mod_eq_of_lt hb] at this

structure MarkM where
  term : Nat
  for_ : Int
  file : UInt8
  base : Nat
  bt : Nat
deriving DecidableEq
def MarkM.ok (m : MarkM) : Prop := m.term < 18446744073709551616 ∧ -128 ≤ m.for_ ∧ m.for_ < 128 ∧ m.base < 18446744073709551616 ∧ m.bt < 18446744073709551616
def mark0 : MarkM := ⟨0, 0, 0, 0, 0⟩
def MarkM.may (m : MarkM) : Bool := decide (-1 ≤ m.for_ ∧ m.for_ ≤ 6 ∧ m.file.toNat ≤ 1)
def forB (x : Int) : UInt8 := UInt8.ofNat ((x + 1) % 256).toNat

def hdr (n : Nat) (m : MarkM) : List UInt8 := be 8 n ++ (be 8 m.term ++ (forB m.for_ :: m.file :: (be 8 m.base ++ be 8 m.bt)))
theorem hdr_length (n : Nat) (m : MarkM) : (hdr n m).length = 34 := by simp [hdr, be_length]
theorem hdr_inj {n n' : Nat} {m m' : MarkM} (hn : n < 18446744073709551616) (hn' : n' < 18446744073709551616) (hm : m.ok) (hm' : m'.ok) (h : hdr n m = hdr n' m') : n = n' ∧ m = m' := by
  unfold hdr at h
  obtain ⟨h1, h⟩ := List.append_inj h (by simp [be_length])
  obtain ⟨h2, h⟩ := List.append_inj h (by simp [be_length])
  simp only [List.cons.injEq] at h
  obtain ⟨h3, h4, h⟩ := h
  obtain ⟨h5, h6⟩ := List.append_inj h (by simp [be_length])
  obtain ⟨a1, a2, a3, a4, a5⟩ := hm
  obtain ⟨b1, b2, b3, b4, b5⟩ := hm'
  refine ⟨be_inj (k := 8) hn hn' h1, ?_⟩
  have e1 := be_inj (k := 8) a1 b1 h2
  have e2 := be_inj (k := 8) a4 b4 h5
  have e3 := be_inj (k := 8) a5 b5 h6
  have e4 : m.for_ = m'.for_ := by
    have := congrArg UInt8.toNat h3
    simp [forB] at this
    omega
  cases m; cases m'
  simp_all
end Go.Proofs
