/-
  The sum by a table is the sum bit by bit.
  The contracts of the document's sum, and of its numbers.
  The contracts of the document's numbers and of its sectors.
  The contracts of the document's sectors and forms.
  The contract of the document's place.
  The contracts of the document's file and of what it leaves of it.
  Conditions: where they ask for any, each theorem names them.
-/
import Derived.Test.YteldcaeicgobfaaVoteA
import Derived.Test.YteldcaeicgobfaaVoteC
import Derived.Test.YteldcaeicgobfaaG6
import Derived.Test.YteldcaeicgobfaaVcZero
import Derived.Test.YteldcaeicgobfaaVoteE
set_option linter.unusedSimpArgs false
set_option linter.unusedVariables false
namespace Go.Proofs
open Go Go.Vc

theorem crcBit_xor (x y : Nat) : crcBit (x ^^^ y) = crcBit x ^^^ crcBit y := by
  have h1 : (x ^^^ y) / 2 = x / 2 ^^^ y / 2 := Nat.xor_div_two_pow (n := 1)
  have h2 : (x ^^^ y) % 2 = (x % 2) ^^^ (y % 2) := Nat.xor_mod_two_pow (n := 1)
  unfold crcBit
  rw [h1, h2]
  rcases Nat.mod_two_eq_zero_or_one x with hx | hx <;> rcases Nat.mod_two_eq_zero_or_one y with hy | hy <;> rw [hx, hy]
  · simp
  · simp [Nat.xor_assoc]
  · have : x / 2 ^^^ y / 2 ^^^ 3988292384 = x / 2 ^^^ 3988292384 ^^^ y / 2 := by
      rw [Nat.xor_assoc, Nat.xor_comm (y / 2), ← Nat.xor_assoc]
    rw [if_pos (by decide), if_pos rfl, if_neg (by decide), this]
  · have : x / 2 ^^^ 3988292384 ^^^ (y / 2 ^^^ 3988292384) = x / 2 ^^^ y / 2 := by
      rw [Nat.xor_comm (y / 2), ← Nat.xor_assoc, Nat.xor_assoc (x / 2), Nat.xor_self, Nat.xor_zero]
    simp [this]
theorem crcBits_xor (x y : Nat) : ∀ k, crcBits k (x ^^^ y) = crcBits k x ^^^ crcBits k y
  | 0 => rfl
  | k + 1 => by
    unfold crcBits
    rw [crcBits_xor x y k, crcBit_xor]
theorem crcBit_even (z : Nat) : crcBit (2 * z) = z := by
  unfold crcBit
  rw [if_neg (by omega)]
  omega
theorem crcBits_comm (x : Nat) : ∀ k, crcBits k (crcBit x) = crcBit (crcBits k x)
  | 0 => rfl
  | k + 1 => by
    show crcBit (crcBits k (crcBit x)) = crcBit (crcBit (crcBits k x))
    rw [crcBits_comm x k]
theorem crcBits_pow (z : Nat) : ∀ k, crcBits k (2 ^ k * z) = z
  | 0 => by simp [crcBits]
  | k + 1 => by
    show crcBit (crcBits k (2 ^ (k + 1) * z)) = z
    rw [← crcBits_comm, show 2 ^ (k + 1) * z = 2 * (2 ^ k * z) by rw [Nat.pow_succ, Nat.mul_comm (2 ^ k) 2, Nat.mul_assoc], crcBit_even, crcBits_pow z k]
theorem mod_xor_mul (x k : Nat) : x % 2 ^ k ^^^ 2 ^ k * (x / 2 ^ k) = x := by
  apply Nat.eq_of_testBit_eq
  intro i
  rw [Nat.testBit_xor, Nat.testBit_mod_two_pow, Nat.mul_comm, Nat.testBit_mul_two_pow, Nat.testBit_div_two_pow]
  by_cases h : i < k
  · have : ¬ k ≤ i := by omega
    simp [h, this]
  · have h' : k ≤ i := by omega
    simp [h, h', Nat.sub_add_cancel h']

/-- One bit. -/
def refBit (x c : Nat) : Nat := if x % 2 ≠ c then (x / 2) ^^^ 3988292384 else x / 2
theorem refBit_is (x : Nat) {c : Nat} (hc : c < 2) : refBit x c = crcBit (x ^^^ c) := by
  have h1 : (x ^^^ c) / 2 = x / 2 := by
    have : (x ^^^ c) / 2 = x / 2 ^^^ c / 2 := Nat.xor_div_two_pow (n := 1)
    rw [this, Nat.div_eq_of_lt hc, Nat.xor_zero]
  have h2 : (x ^^^ c) % 2 = (x % 2) ^^^ (c % 2) := Nat.xor_mod_two_pow (n := 1)
  unfold refBit crcBit
  rw [h1, h2, Nat.mod_eq_of_lt hc]
  have hc' : c = 0 ∨ c = 1 := by omega
  rcases Nat.mod_two_eq_zero_or_one x with hx | hx <;> rcases hc' with rfl | rfl <;> rw [hx] <;> simp
/-- The register behind i bits. -/
def refRun (l : List UInt8) (x : Nat) : Nat → Nat
  | 0 => x
  | i + 1 => refBit (refRun l x i) ((l.getD (i / 8) 0).toNat / 2 ^ (i % 8) % 2)
theorem refRun_byte (l : List UInt8) (x j : Nat) : ∀ t, t ≤ 8 → refRun l x (8 * j + t) = crcBits t (refRun l x (8 * j) ^^^ (l.getD j 0).toNat % 2 ^ t)
  | 0, _ => by simp [crcBits, Nat.mod_one]
  | t + 1, h => by
    have ih := refRun_byte l x j t (by omega)
    show refBit (refRun l x (8 * j + t)) ((l.getD ((8 * j + t) / 8) 0).toNat / 2 ^ ((8 * j + t) % 8) % 2) = _
    rw [show (8 * j + t) / 8 = j by omega, show (8 * j + t) % 8 = t by omega]
    generalize (l.getD j 0).toNat = b at ih ⊢
    generalize refRun l x (8 * j) = y at ih ⊢
    rw [refBit_is _ (Nat.mod_lt _ (by omega)), ih]
    have e : b % 2 ^ (t + 1) = b % 2 ^ t ^^^ 2 ^ t * (b / 2 ^ t % 2) := by
      have h1 := mod_xor_mul (b % 2 ^ (t + 1)) t
      rw [← h1]
      congr 1
      · rw [Nat.mod_mod_of_dvd _ (Nat.pow_dvd_pow 2 (by omega))]
      · congr 1
        rw [Nat.pow_succ, Nat.mod_mul_right_div_self]
    rw [e, ← Nat.xor_assoc]
    conv => lhs; rw [← crcBits_pow (b / 2 ^ t % 2) t, ← crcBits_xor]
    rfl
theorem crcStep_is (x : Nat) (b : UInt8) : crcStep x b = crcBits 8 (x ^^^ b.toNat) := by
  have h : x ^^^ b.toNat = (x % 2 ^ 8 ^^^ b.toNat) ^^^ 2 ^ 8 * (x / 2 ^ 8) := by
    conv => lhs; rw [← mod_xor_mul x 8]
    rw [Nat.xor_assoc, Nat.xor_comm (2 ^ 8 * _), ← Nat.xor_assoc]
  rw [h, crcBits_xor, crcBits_pow]
  rfl
theorem refRun_all (l : List UInt8) (x : Nat) : ∀ j, j ≤ l.length → refRun l x (8 * j) = (l.take j).foldl crcStep x
  | 0, _ => rfl
  | j + 1, h => by
    have h1 := refRun_byte l x j 8 (by omega)
    rw [show 8 * (j + 1) = 8 * j + 8 by omega, h1, refRun_all l x j (by omega), List.take_succ_eq_append_getElem (by omega), List.foldl_append, List.foldl_cons, List.foldl_nil, crcStep_is]
    have : (l.getD j 0).toNat % 2 ^ 8 = l[j].toNat := by
      rw [List.getD_eq_getElem?_getD, List.getElem?_eq_getElem (by omega), Option.getD_some]
      exact Nat.mod_eq_of_lt l[j].toNat_lt
    rw [this]
theorem refRun_crc (l : List UInt8) : refRun l 4294967295 (8 * l.length) = crcRun l := by
  rw [refRun_all l _ _ (Nat.le_refl _), List.take_length]
  rfl
theorem refRun_lt {l : List UInt8} {x : Nat} (h : x < 4294967296) : ∀ i, refRun l x i < 4294967296
  | 0 => h
  | i + 1 => by
    unfold refRun
    rw [refBit_is _ (Nat.mod_lt _ (by omega))]
    refine crcBit_lt (Nat.xor_lt_two_pow (n := 32) (refRun_lt h i) ?_)
    have := Nat.mod_lt ((l.getD (i / 8) 0).toNat / 2 ^ (i % 8)) (show 0 < 2 by omega)
    omega
end Go.Proofs

namespace Go.Proofs
open Go Go.Vc

theorem rn_len23 {a : Option Addr} {n c : Nat} {w : World} {K : Kont} (hK : K (.int .i64 (n : Int)) w) : rn Try.prog (builtin .len #[23] 3 #[false] #[.slice a n c]) w K := by
  simp [go_sem]
  exact hK
set_option maxRecDepth 10000 in
theorem ca_steps {w : World} {K : Kont} {v : Value} {bs : List UInt8} {x0 : Nat} (h : Rd w 1 v bs.length (bv bs)) (hx : x0 < 4294967296) (hn : bs.length < 1099511627776) (hK : K (.int .u32 (refRun bs x0 (8 * bs.length) : Nat)) w) :
    Ca Try.prog 103 #[.int .u32 (x0 : Int), v] w K := by
  obtain ⟨la, lc, rfl⟩ := h.isSl
  apply ca103
  unfold F103
  unfold L103_1
  refine loopK (fun s W => W = w ∧ ∃ i : Nat, i ≤ 8 * bs.length ∧ s = (.int .u32 (refRun bs x0 i : Nat), .int .i64 i, ())) (fun s _ => match s.2.1 with | .int _ i => 8 * bs.length - i.toNat | _ => 0) ⟨rfl, 0, by omega, rfl⟩ ?_
  rintro ⟨_, _⟩ W ⟨rfl, i, hi, ⟨⟩⟩ KN hKN _
  have hw1 : IntKind.i64.wrap ((i : Int) + 1) = ((i + 1 : Nat) : Int) := by rw [IntKind.wrap_i64]; omega
  have hw2 : IntKind.i64.wrap (8 * (bs.length : Int)) = ((8 * bs.length : Nat) : Int) := by rw [IntKind.wrap_i64]; omega
  by_cases hlt : i < 8 * bs.length
  · have hj : i / 8 < bs.length := by omega
    obtain ⟨b, off, cap, C, e, fz, hv, hC, hCj⟩ := rd_at h hj
    have hlt' : (i : Int) < ((8 * bs.length : Nat) : Int) := by omega
    rw [hv]
    have hcj : C[off + i / 8]? = some (.int .u8 (bs.getD (i / 8) 0).toNat) := by
      rw [hCj, bv, List.getElem?_map, List.getElem?_eq_getElem hj]
      simp [List.getD, hj]
    have hb := (bs.getD (i / 8) 0).toNat_lt
    generalize hcg : (bs.getD (i / 8) 0).toNat = c at hcj hb
    have hxl := refRun_lt (l := bs) hx i
    have hstep : refRun bs x0 (i + 1) = refBit (refRun bs x0 i) (c / 2 ^ (i % 8) % 2) := by rw [← hcg]; rfl
    generalize refRun bs x0 i = x at hxl hstep
    have hdiv : IntKind.i64.wrap ((i : Int) / 8) = ((i / 8 : Nat) : Int) := by rw [IntKind.wrap_i64]; omega
    have hmod : (i : Int).tmod 8 = ((i % 8 : Nat) : Int) := by rw [Int.tmod_eq_emod_of_nonneg (by omega)]; omega
    have hcs : c / 2 ^ (i % 8) < 256 := Nat.lt_of_le_of_lt (Nat.div_le_self _ _) hb
    refine rn_len23 ?_
    refine rv_of (v := .int .i64 ((8 * bs.length : Nat) : Int)) (w' := W) (by simp [-Int.natCast_mul, go_sem, hw2]) ?_
    refine rv_of (v := .bool true) (w' := W) (by simp [-Int.natCast_mul, go_sem, hlt']) ?_
    rw [ifB_bool, if_pos rfl]
    refine joinK (fun s W' => W' = W ∧ s = (.int .u32 (refRun bs x0 (i + 1) : Nat), ())) (fun JJ hJJ => ?_) ?_
    · refine rv_of (v := .int .i64 ((i / 8 : Nat) : Int)) (w' := W) (by simp [-Int.natCast_ediv, go_sem, hdiv]) ?_
      refine rv_of (v := .pointer (some ⟨b, off + i / 8, none⟩)) (w' := W) (by simp [-Int.natCast_ediv, go_sem, hj]) ?_
      refine rv_of (v := .int .u8 (c : Int)) (w' := W) (by simp [go_sem, hC, hcj]) ?_
      refine rv_of (v := .int .i64 ((i % 8 : Nat) : Int)) (w' := W) (by simp [-Int.natCast_emod, go_sem, hmod]) ?_
      refine rv_of (v := .int .u8 ((c / 2 ^ (i % 8) : Nat) : Int)) (w' := W) (by
        simp [-Int.natCast_emod, -Int.natCast_ediv, go_sem]
        rw [Int.natCast_ediv]
        simp) ?_
      generalize c / 2 ^ (i % 8) = e at hstep hcs ⊢
      refine rv_of (v := .int .u32 (e : Int)) (w' := W) (by
        have : IntKind.u32.wrap (e : Int) = (e : Int) := by rw [IntKind.wrap_u32]; omega
        simp [-Int.natCast_ediv, go_sem, this]) ?_
      refine rv_of (v := .int .u32 ((e % 2 : Nat) : Int)) (w' := W) (by
        have : (e : Int).tmod 2 = ((e % 2 : Nat) : Int) := by rw [Int.tmod_eq_emod_of_nonneg (by omega)]; omega
        simp [-Int.natCast_ediv, -Int.natCast_emod, go_sem, this]) ?_
      generalize e % 2 = q at hstep
      refine rv_of (v := .int .u32 ((x % 2 : Nat) : Int)) (w' := W) (by
        have : (x : Int).tmod 2 = ((x % 2 : Nat) : Int) := by rw [Int.tmod_eq_emod_of_nonneg (by omega)]; omega
        simp [-Int.natCast_emod, go_sem, this]) ?_
      refine rv_of (v := .int .u32 ((x / 2 : Nat) : Int)) (w' := W) (by
        have : IntKind.u32.wrap ((x : Int) / 2) = ((x / 2 : Nat) : Int) := by rw [IntKind.wrap_u32]; omega
        simp [-Int.natCast_ediv, go_sem, this]) ?_
      refine rv_of (v := .bool (decide (x % 2 ≠ q))) (w' := W) (by
        simp [-Int.natCast_emod, go_sem]
        rw [Bool.eq_iff_iff]
        simp [-Int.natCast_emod]
        omega) ?_
      by_cases hne : x % 2 ≠ q
      · rw [ifB_bool, if_pos (by simpa using hne)]
        refine rv_of (v := .int .u32 ((x / 2 ^^^ 3988292384 : Nat) : Int)) (w' := W) (by
          have : bits .xor .u32 ((x / 2 : Nat) : Int) 3988292384 = ((x / 2 ^^^ 3988292384 : Nat) : Int) := u32_xor_nat (x / 2) 3988292384 (by omega) (by omega)
          simp [-Int.natCast_ediv, go_sem, this]) ?_
        exact hJJ _ _ ⟨rfl, by rw [hstep, refBit, if_pos hne]⟩
      · rw [ifB_bool, if_neg (by simpa using hne)]
        exact hJJ _ _ ⟨rfl, by rw [hstep, refBit, if_neg hne]⟩
    rintro _ W' ⟨hW', rfl⟩
    unfold J103_0
    intro _
    refine rv_of (v := .int .i64 ((i + 1 : Nat) : Int)) (w' := W') (by simp [-Int.natCast_add, go_sem, hw1]) ?_
    exact hKN _ _ ⟨hW', i + 1, hlt, rfl⟩ (by simp; omega)
  · have : i = 8 * bs.length := by omega
    subst this
    simp [-Int.natCast_add, -Int.natCast_mul, go_sem, hw2]
    exact hK
end Go.Proofs

namespace Go.Proofs
open Go Go.Vc

theorem ca_refSum {w : World} {K : Kont} {v : Value} {bs : List UInt8} (h : Rd w 1 v bs.length (bv bs)) (hn : bs.length < 1099511627776) (hK : K (.int .u32 (crcOf bs : Nat)) w) :
    Ca Try.prog 98 #[v] w K := by
  apply ca98
  unfold F98
  refine ca_steps (x0 := 4294967295) h (by decide) hn ?_
  rw [refRun_crc]
  have hx := crcRun_lt bs
  have e1 : bits .xor .u32 4294967295 ((crcRun bs : Nat) : Int) = ((crcOf bs : Nat) : Int) := u32_xor_nat 4294967295 (crcRun bs) (by omega) hx
  refine rv_of (v := .int .u32 (crcOf bs : Nat)) (w' := w) (by
    simp [go_sem]
    exact e1) ?_
  exact hK

set_option maxRecDepth 10000 in
theorem ca_number20 {w : World} {K : Kont} {x : Nat} (hx : x < 18446744073709551616)
    (hK : ∀ v w', Own w' 5 1 v 8 (bv (be 8 x)) → Mod (fun _ => False) w w' → (∀ b, inSl v b → w.heap.size ≤ b) → K v w') : Ca Try.prog 104 #[.int .u64 (x : Int)] w K := by
  apply ca104
  unfold F104
  unfold L104_0
  refine loopK (fun s W => ∃ (j : Nat) (v : Value), j ≤ 8 ∧ s = (v, .int .i64 (7 - (j : Int)), ()) ∧ Own W 5 1 v j (bv ((be 8 x).take j)) ∧ Mod (fun _ => False) w W ∧ ∀ b, inSl v b → w.heap.size ≤ b)
    (fun s _ => match s.2.1 with | .int _ i => (i + 1).toNat | _ => 0) ⟨0, _, by omega, rfl, Own.nil .., Mod.refl _ _, fun b hb => by cases hb⟩ ?_
  rintro ⟨_, _⟩ W ⟨j, v, hj, ⟨⟩, oW, mW, nW⟩ KN hKN _
  by_cases hlt : j < 8
  · have h1 : (0 : Int) ≤ 7 - (j : Int) := by omega
    refine rv_of (v := .bool true) (w' := W) (by simp [go_sem]; omega) ?_
    rw [ifB_bool, if_pos rfl]
    have h8 : IntKind.i64.wrap (8 * (7 - (j : Int))) = ((8 * (7 - j) : Nat) : Int) := by rw [IntKind.wrap_i64]; omega
    refine rv_of (v := .int .i64 ((8 * (7 - j) : Nat) : Int)) (w' := W) (by simp [-Int.natCast_mul, go_sem, h8]) ?_
    have h9 : IntKind.u64.wrap (((8 * (7 - j) : Nat) : Int)) = ((8 * (7 - j) : Nat) : Int) := by rw [IntKind.wrap_u64]; omega
    refine rv_of (v := .int .u64 ((8 * (7 - j) : Nat) : Int)) (w' := W) (by simp [-Int.natCast_mul, go_sem, h9]) ?_
    have e1 : (2 : Int) ^ (8 * (7 - j)) = ((256 ^ (7 - j) : Nat) : Int) := by
      rw [Int.pow_mul]
      simp
    refine rv_of (v := .int .u64 ((x / 256 ^ (7 - j) : Nat) : Int)) (w' := W) (by
      simp [-Int.natCast_mul, -Int.natCast_ediv, go_sem]
      rw [Int.natCast_ediv, ← e1]) ?_
    have h6 : IntKind.u8.wrap ((x / 256 ^ (7 - j) : Nat) : Int) = ((UInt8.ofNat (x / 256 ^ (8 - 1 - j))).toNat : Int) := by
      rw [IntKind.wrap_u8]
      simp
    refine rv_of (v := .int .u8 ((UInt8.ofNat (x / 256 ^ (8 - 1 - j))).toNat : Int)) (w' := W) (by simp [-Int.natCast_ediv, -UInt8.toNat_ofNat', go_sem]; exact h6) ?_
    refine litL [UInt8.ofNat (x / 256 ^ (8 - 1 - j))] rfl rfl (by omega) fun v1 W2 o2 m2 n2 => ?_
    refine rx_append Try.underlying23 Try.underlying23 (elemT_of uT1) (oW.mod m2 fun _ _ h => h) o2.rd (bv_one _) (by omega) fun v3 W3 o3 m3 n3 => ?_
    rw [← bv_append, ← be_take hlt] at o3
    have h5 : IntKind.i64.wrap (7 - (j : Int) - 1) = 7 - ((j + 1 : Nat) : Int) := by rw [IntKind.wrap_i64]; omega
    refine rv_of (v := .int .i64 (7 - ((j + 1 : Nat) : Int))) (w' := W3) (by simp [-Int.natCast_add, go_sem, h5]) ?_
    have lW := mW.size
    refine hKN _ _ ⟨j + 1, v3, hlt, rfl, o3, (mW.trans m2).on m3 fun b hb => .inr (nW b hb), fun b hb => ?_⟩ (by simp; omega)
    rcases n3 b hb with h | h
    · exact nW b h
    · have := m2.size; omega
  · have : j = 8 := by omega
    subst this
    refine rv_of (v := .bool false) (w' := W) (by simp [go_sem]) ?_
    rw [ifB_bool, if_neg (by simp)]
    rw [List.take_of_length_le (by rw [be_length]; exact Nat.le_refl _)] at oW
    exact hK _ _ oW mW nW

set_option maxRecDepth 10000 in
theorem ca_of20 {w : World} {K : Kont} {v : Value} {n : Nat} {bs : List UInt8} (h : Rd w 1 v n (bv bs)) (hn : 8 ≤ n) (hK : K (.int .u64 (ofB (bs.take 8))) w) : Ca Try.prog 88 #[v] w K := by
  have hl : bs.length = n := by simpa using h.1
  apply ca88
  unfold F88
  unfold L88_0
  refine loopK (fun s W => W = w ∧ ∃ j : Nat, j ≤ 8 ∧ s = (.int .u64 (ofB (bs.take j)), .int .i64 j, ())) (fun s _ => match s.2.1 with | .int _ i => 8 - i.toNat | _ => 0) ⟨rfl, 0, by omega, rfl⟩ ?_
  rintro ⟨_, _⟩ W ⟨rfl, j, hj, ⟨⟩⟩ KN hKN _
  have hw1 : IntKind.i64.wrap ((j : Int) + 1) = ((j + 1 : Nat) : Int) := by rw [IntKind.wrap_i64]; omega
  by_cases hlt : j < 8
  · obtain ⟨b, off, cap, C, e, fz, rfl, hC, hCj⟩ := rd_at h (i := j) (by omega)
    have hjl : j < bs.length := by omega
    have hcj : C[off + j]? = some (.int .u8 (bs[j].toNat : Int)) := by
      rw [hCj, bv, List.getElem?_map, List.getElem?_eq_getElem hjl]
      rfl
    have hlt' : (j : Int) < 8 := by omega
    have hlt2 : ofB (bs.take j) < 72057594037927936 := by
      have h1 := ofB_lt (bs.take j)
      have h2 : (bs.take j).length ≤ 7 := by simp; omega
      have h3 : 256 ^ (bs.take j).length ≤ 256 ^ 7 := Nat.pow_le_pow_right (by omega) h2
      omega
    have hc := (bs[j]).toNat_lt
    have e1 : IntKind.u64.wrap ((ofB (bs.take j) : Int) * 256) = ((ofB (bs.take j) * 256 : Nat) : Int) := by rw [IntKind.wrap_u64]; omega
    have e2 : IntKind.u64.wrap ((bs[j].toNat : Nat) : Int) = ((bs[j].toNat : Nat) : Int) := by rw [IntKind.wrap_u64]; omega
    have e3 : IntKind.u64.wrap (((ofB (bs.take j) * 256 : Nat) : Int) + ((bs[j].toNat : Nat) : Int)) = ((ofB (bs.take (j + 1)) : Nat) : Int) := by
      rw [ofB_take _ _ hjl, IntKind.wrap_u64]; omega
    have hjn : j < n := by omega
    refine rv_of (v := .bool true) (w' := W) (by simp [go_sem, hlt']) ?_
    rw [ifB_bool, if_pos rfl]
    refine rv_of (v := .int .u64 ((ofB (bs.take j) * 256 : Nat) : Int)) (w' := W) (by simp [-Int.natCast_mul, go_sem, e1]) ?_
    refine rv_of (v := .pointer (some ⟨b, off + j, none⟩)) (w' := W) (by simp [go_sem, hjn]) ?_
    refine rv_of (v := .int .u8 (bs[j].toNat : Int)) (w' := W) (by simp [go_sem, hC, hcj]) ?_
    refine rv_of (v := .int .u64 (bs[j].toNat : Int)) (w' := W) (by simp [go_sem, e2]) ?_
    refine rv_of (v := .int .u64 ((ofB (bs.take (j + 1)) : Nat) : Int)) (w' := W) (by simp [-Int.natCast_mul, go_sem, e3]) ?_
    refine rv_of (v := .int .i64 ((j + 1 : Nat) : Int)) (w' := W) (by simp [-Int.natCast_add, go_sem, hw1]) ?_
    exact hKN _ _ ⟨rfl, j + 1, hlt, rfl⟩ (by simp; omega)
  · have : j = 8 := by omega
    subst this
    refine rv_of (v := .bool false) (w' := W) (by simp [go_sem]) ?_
    rw [ifB_bool, if_neg (by simp)]
    exact hK
end Go.Proofs

namespace Go.Proofs
open Go Go.Vc

theorem mfield {q : Nat} : (∀ W, (Instr.fieldAt 59 (.pointer (some ⟨q, 0, none⟩)) 0).run Try.prog W = .ok (.pointer (some ⟨q, 0, none⟩)) W) ∧ (∀ W, (Instr.fieldAt 59 (.pointer (some ⟨q, 0, none⟩)) 1).run Try.prog W = .ok (.pointer (some ⟨q, 1, none⟩)) W) ∧
    (∀ W, (Instr.fieldAt 59 (.pointer (some ⟨q, 0, none⟩)) 2).run Try.prog W = .ok (.pointer (some ⟨q, 2, none⟩)) W) ∧ (∀ W, (Instr.fieldAt 59 (.pointer (some ⟨q, 0, none⟩)) 3).run Try.prog W = .ok (.pointer (some ⟨q, 3, none⟩)) W) ∧
    (∀ W, (Instr.fieldAt 59 (.pointer (some ⟨q, 0, none⟩)) 4).run Try.prog W = .ok (.pointer (some ⟨q, 4, none⟩)) W) := by
  refine ⟨fun W => ?_, fun W => ?_, fun W => ?_, fun W => ?_, fun W => ?_⟩ <;> simp [go_sem]
theorem mload {W : World} {q : Nat} {m : MarkM} (h : hp W q = some (.cells (markV m).toArray 59 (0, 0))) :
    (Instr.loadAt 27 (.pointer (some ⟨q, 0, none⟩))).run Try.prog W = .ok (.int .u64 (m.term : Int)) W ∧ (Instr.loadAt 57 (.pointer (some ⟨q, 1, none⟩))).run Try.prog W = .ok (.int .i8 m.for_) W ∧
    (Instr.loadAt 5 (.pointer (some ⟨q, 2, none⟩))).run Try.prog W = .ok (.int .u8 (m.file.toNat : Int)) W ∧ (Instr.loadAt 27 (.pointer (some ⟨q, 3, none⟩))).run Try.prog W = .ok (.int .u64 (m.base : Int)) W ∧
    (Instr.loadAt 27 (.pointer (some ⟨q, 4, none⟩))).run Try.prog W = .ok (.int .u64 (m.bt : Int)) W := by
  unfold markV at h
  refine ⟨?_, ?_, ?_, ?_, ?_⟩ <;> simp [go_sem, h]

/-- An own row in a place of its own, new since w. -/
structure Nw (w W : World) (v : Value) (n : Nat) (l : List UInt8) : Prop where
  own : Own W 5 1 v n (bv l)
  mod : Mod (fun _ => False) w W
  new : ∀ b, inSl v b → w.heap.size ≤ b
theorem Nw.on {w W W' : World} {v : Value} {n : Nat} {l : List UInt8} (h : Nw w W v n l) (m : Mod (fun _ => False) W W') : Nw w W' v n l := ⟨h.own.mod m fun _ _ h => h, h.mod.trans m, h.new⟩
/-- Bytes appended to it. -/
theorem nw_append {w W : World} {K : Kont} {v x : Value} {n m : Nat} {l l' : List UInt8} {ty : Nat} (h : Nw w W v n l) (hx : Rd W 1 x m (bv l')) (hb : n + m ≤ 100000)
    (hK : ∀ v' W', Nw w W' v' (n + m) (l ++ l') → Mod (inSl v) W W' → K v' W') : rx Try.prog (xAppend #[23, 23] ty [v, x]) W K := by
  refine rx_append Try.underlying23 Try.underlying23 (elemT_of uT1) h.own hx (bv_one _) (by omega) fun v3 W3 o3 m3 n3 => ?_
  rw [← bv_append] at o3
  refine hK v3 W3 ⟨o3, h.mod.on m3 fun b hb => .inr (h.new b hb), fun b hb => ?_⟩ m3
  rcases n3 b hb with h' | h'
  · exact h.new b h'
  · have := h.mod.size; omega

set_option maxRecDepth 10000 in
theorem ca_sector20 {w : World} {K : Kont} {k n : Nat} {m : MarkM} (hk : k < 3) (hn : n < 18446744073709551616) (hm : m.ok)
    (hK : ∀ v w', Nw w w' v 128 (secW k n m) → K v w') : Ca Try.prog 100 #[.int .u8 ((k + 1 : Nat) : Int), .int .u64 (n : Int), .agg (markV m).toArray] w K := by
  obtain ⟨a1, a2, a3, a4, a5⟩ := hm
  obtain ⟨f0, f1, f2, f3, f4⟩ := mfield (q := w.heap.size)
  apply ca100
  unfold F100
  refine rv_box ?_
  have mA : Mod (fun _ => False) w (w.alloc (.cells (markV m).toArray 59)) := (Mod.refl _ w).alloc _
  have hA : hp (w.alloc (.cells (markV m).toArray 59)) w.heap.size = some (.cells (markV m).toArray 59 (0, 0)) := by simp only [hp_alloc, if_pos]
  generalize (w.alloc (.cells (markV m).toArray 59)) = W at mA hA
  obtain ⟨q, hq⟩ : ∃ q, w.heap.size = q := ⟨_, rfl⟩
  rw [hq] at hA f0 f1 f2 f3 f4 ⊢
  have md : Mod (fun _ => False) W W.drew := (Mod.refl _ W).drew
  refine rdP_of f0 ?_
  refine rdW_of (mload (md.keep hA id)).1 ?_
  refine ca_number20 hn fun v1 W1 o1 m1 n1 => ?_
  have t1 := md.trans m1
  have A1 : Nw W W1 v1 8 (be 8 n) := ⟨o1, t1, n1⟩
  refine ⟨(mload (t1.keep hA id)).1, ?_⟩
  refine ca_number20 a1 fun v2 W2 o2 m2 n2 => ?_
  refine nw_append (A1.on m2) o2.rd (by omega) fun v3 W3 A3 m3 => ?_
  have hA3 := A3.mod.keep hA id
  refine rv_of (f1 W3) ?_
  refine rv_of (mload hA3).2.1 ?_
  refine rv_of (v := .int .i8 (IntKind.i8.wrap (m.for_ + 1))) (w' := W3) (by simp [go_sem]) ?_
  refine rv_of (v := .int .u8 ((forB m.for_).toNat : Int)) (w' := W3) (by
    have := forB_eq m.for_ a2 a3
    simp [go_sem, this]) ?_
  refine rv_of (f2 W3) ?_
  refine rv_of (mload hA3).2.2.1 ?_
  refine litL [forB m.for_, m.file] rfl rfl (by omega) fun v4 W4 o4 m4 n4 => ?_
  refine nw_append (A3.on m4) o4.rd (by omega) fun v5 W5 A5 m5 => ?_
  have hA5 := A5.mod.keep hA id
  refine rv_of (f3 W5) ?_
  refine rv_of (mload hA5).2.2.2.1 ?_
  refine ca_number20 a4 fun v6 W6 o6 m6 n6 => ?_
  refine nw_append (A5.on m6) o6.rd (by omega) fun v7 W7 A7 m7 => ?_
  have hA7 := A7.mod.keep hA id
  refine rv_of (f4 W7) ?_
  refine rv_of (mload hA7).2.2.2.2 ?_
  refine ca_number20 a5 fun v8 W8 o8 m8 n8 => ?_
  refine nw_append (A7.on m8) o8.rd (by omega) fun v9 W9 A9 m9 => ?_
  have eh : ((((be 8 n ++ be 8 m.term) ++ [forB m.for_, m.file]) ++ be 8 m.base) ++ be 8 m.bt) = hdr n m := by simp [hdr]
  rw [eh] at A9
  have hl := hdr_length n m
  have r9 : Rd W9 1 v9 (hdr n m).length (bv (hdr n m)) := by rw [hl]; exact A9.own.rd
  refine ca_refSum r9 (by omega) ?_
  have hc := crcOf_lt (hdr n m)
  obtain ⟨x, hx⟩ : ∃ x, crcOf (hdr n m) = x := ⟨_, rfl⟩
  rw [hx] at hc ⊢
  have ek : ((k + 1 : Nat) : Int) = ((UInt8.ofNat (k + 1)).toNat : Int) := by simp; omega
  rw [ek]
  refine litL [UInt8.ofNat (k + 1)] rfl rfl (by omega) fun v10 W10 o10 m10 n10 => ?_
  have A10 : Nw W W10 v10 1 [UInt8.ofNat (k + 1)] := ⟨o10, A9.mod.trans m10, fun b hb => by have := n10 b hb; have := A9.mod.size; omega⟩
  refine nw_append A10 (A9.on m10).own.rd (by omega) fun v11 W11 A11 m11 => ?_
  have hu : ∀ k : Nat, IntKind.u8.wrap ((x / 256 ^ k : Nat) : Int) = ((UInt8.ofNat (x / 256 ^ k)).toNat : Int) := by
    intro k
    rw [IntKind.wrap_u8]
    simp
  refine rv_of (v := .int .u32 ((x / 256 ^ 3 : Nat) : Int)) (w' := W11) (by simp [go_sem]) ?_
  refine rv_of (v := .int .u8 ((UInt8.ofNat (x / 256 ^ 3)).toNat : Int)) (w' := W11) (by simp [-Int.natCast_ediv, -UInt8.toNat_ofNat', go_sem]; exact hu 3) ?_
  refine rv_of (v := .int .u32 ((x / 256 ^ 2 : Nat) : Int)) (w' := W11) (by simp [go_sem]) ?_
  refine rv_of (v := .int .u8 ((UInt8.ofNat (x / 256 ^ 2)).toNat : Int)) (w' := W11) (by simp [-Int.natCast_ediv, -UInt8.toNat_ofNat', go_sem]; exact hu 2) ?_
  refine rv_of (v := .int .u32 ((x / 256 ^ 1 : Nat) : Int)) (w' := W11) (by simp [go_sem]) ?_
  refine rv_of (v := .int .u8 ((UInt8.ofNat (x / 256 ^ 1)).toNat : Int)) (w' := W11) (by simp [-Int.natCast_ediv, -UInt8.toNat_ofNat', go_sem]; exact hu 1) ?_
  have h0 := hu 0
  rw [Nat.pow_zero, Nat.div_one] at h0
  refine rv_of (v := .int .u8 ((UInt8.ofNat x).toNat : Int)) (w' := W11) (by simp [-Int.natCast_ediv, -UInt8.toNat_ofNat', go_sem]; exact h0) ?_
  refine litL (be 4 x) (by simp [be]) (be_length 4 x) (by omega) fun v12 W12 o12 m12 n12 => ?_
  refine nw_append (A11.on m12) o12.rd (by omega) fun v13 W13 A13 m13 => ?_
  have eb : ([UInt8.ofNat (k + 1)] ++ hdr n m) ++ be 4 x = body39 k n m := by rw [← hx]; simp [body39]
  rw [eb] at A13
  obtain ⟨p13, c13, rfl, -⟩ := A13.own.isSl
  refine rn_len23 ?_
  refine rv_of (v := .int .i64 ((89 : Nat) : Int)) (w' := W13) (by simp [go_sem]; rfl) ?_
  refine rx_appendZ (m := 89) (z := .int .u8 0) Try.underlying23 Try.underlying3 (elemT_of uT1) uT2 rfl rfl A13.own (by omega) fun v14 W14 o14 m14 n14 => ?_
  refine hK v14 W14 ⟨?_, (mA.trans A13.mod).on m14 fun b hb => .inr (by have := A13.new b hb; have := mA.size; omega), fun b hb => ?_⟩
  · have e : bv (body39 k n m) ++ List.replicate 89 (.int .u8 0) = bv (secW k n m) := by
      rw [secW, bv_append, bv_replicate]
      rfl
    rw [← e]
    exact o14
  · rcases n14 b hb with h | h
    · have := A13.new b h; have := mA.size; omega
    · have := A13.mod.size; have := mA.size; omega

theorem form_is (n : Nat) (m : MarkM) : (secW 0 n m ++ secW 1 n m) ++ secW 2 n m = wr n m := by
  simp [wr, wrN, List.range_succ]
set_option maxRecDepth 10000 in
theorem ca_form20 {w : World} {K : Kont} {n : Nat} {m : MarkM} (hn : n < 18446744073709551616) (hm : m.ok)
    (hK : ∀ v w', Nw w w' v 384 (wr n m) → K v w') : Ca Try.prog 89 #[.int .u64 (n : Int), .agg (markV m).toArray] w K := by
  apply ca89
  unfold F89
  refine rv_box ?_
  have mA : Mod (fun _ => False) w (w.alloc (.cells (markV m).toArray 59)) := (Mod.refl _ w).alloc _
  have hA : hp (w.alloc (.cells (markV m).toArray 59)) w.heap.size = some (.cells (markV m).toArray 59 (0, 0)) := by simp only [hp_alloc, if_pos]
  generalize (w.alloc (.cells (markV m).toArray 59)) = W at mA hA
  obtain ⟨q, hq⟩ : ∃ q, w.heap.size = q := ⟨_, rfl⟩
  rw [hq] at hA ⊢
  have md : Mod (fun _ => False) W W.drew := (Mod.refl _ W).drew
  have ld : ∀ W', Mod (fun _ => False) W W' → (Instr.loadAt 59 (.pointer (some ⟨q, 0, none⟩))).run Try.prog W' = .ok (.agg (markV m).toArray) W' := fun W' h => ld_mark (h.keep hA id)
  refine rdW_of (ld _ md) ?_
  refine rdW_of (ld _ md) ?_
  refine rdW_of (ld _ md) ?_
  refine ca_sector20 (k := 0) (by omega) hn hm fun v1 W1 A1 => ?_
  have t1 := md.trans A1.mod
  refine ⟨ld _ t1, ld _ t1, ?_⟩
  refine ca_sector20 (k := 1) (by omega) hn hm fun v2 W2 A2 => ?_
  have t2 := t1.trans A2.mod
  refine ⟨ld _ t2, ?_⟩
  have B1 : Nw w W2 v1 128 (secW 0 n m) := ⟨(A1.on A2.mod).own, mA.trans t2, fun b hb => by have := A1.new b hb; rw [size_drew] at this; have := mA.size; omega⟩
  refine nw_append B1 A2.own.rd (by omega) fun v3 W3 A3 m3 => ?_
  have t3 : Mod (fun _ => False) W W3 := t2.on m3 fun b hb => .inr (by have := A1.new b hb; rw [size_drew] at this; omega)
  refine ⟨ld _ t3, ?_⟩
  refine ca_sector20 (k := 2) (by omega) hn hm fun v4 W4 A4 => ?_
  refine nw_append (A3.on A4.mod) A4.own.rd (by omega) fun v5 W5 A5 m5 => ?_
  rw [form_is] at A5
  exact hK v5 W5 A5
end Go.Proofs

namespace Go.Proofs
open Go Go.Vc

theorem slice_lo {b off n cap lo : Nat} (h : lo ≤ n) (hc : n ≤ cap) (hl : lo < cap) (W : World) : (Instr.sliceAt 23 (.slice (some ⟨b, off, none⟩) n cap) (some (.int .i64 (lo : Int))) none none).run Try.prog W = .ok (.slice (some ⟨b, off + lo, none⟩) (n - lo) (cap - lo)) W := by
  have e1 : ¬ cap < lo := by omega
  have e2 : ¬ (cap = lo) := by omega
  have e3 : ¬ (lo = cap) := by omega
  simp [go_sem, h, hc, e1, e2, e3, addr_add]
  try omega
theorem slice_lohi {b off n cap lo hi : Nat} (h : lo ≤ hi) (hn : hi ≤ cap) (hl : lo < cap) (W : World) : (Instr.sliceAt 23 (.slice (some ⟨b, off, none⟩) n cap) (some (.int .i64 (lo : Int))) (some (.int .i64 (hi : Int))) none).run Try.prog W = .ok (.slice (some ⟨b, off + lo, none⟩) (hi - lo) (cap - lo)) W := by
  have e1 : ¬ cap < lo := by omega
  have e2 : ¬ (cap = lo) := by omega
  have e3 : ¬ (lo = cap) := by omega
  simp [go_sem, h, hn, e1, e2, e3, addr_add]
  try omega
/-- A part of a row that is read. -/
theorem rd_part {W : World} {b off n cap : Nat} {p : List UInt8} (h : Rd W 1 (.slice (some ⟨b, off, none⟩) n cap) n (bv p)) (i k c : Nat) (hi : i + k ≤ n) (hk : 0 < k) (hc : k ≤ c) : Rd W 1 (.slice (some ⟨b, off + i, none⟩) k c) k (bv ((p.drop i).take k)) := by
  have hl : p.length = n := by simpa using h.1
  obtain ⟨-, ⟨h0, _⟩ | ⟨b', off', cap', he, hc', hA⟩⟩ := h
  · omega
  injection he with e1 e2 e3
  injection e1 with e1
  injection e1 with e1 e4 e5
  subst e1 e4
  have := hA.sub i k (by rw [bv_length]; omega)
  refine ⟨by simp; omega, .inr ⟨b, off + i, c, rfl, hc, ?_⟩⟩
  rw [bv_drop, bv_take] at this
  exact this
theorem neq_str (x y : List UInt8) (w : World) : (bin .neq 9 false (.string (strOf x)) (.string (strOf y))).run Try.prog w = .ok (.bool (decide (x ≠ y))) w := by
  simp [go_sem]
  rw [Bool.eq_iff_iff]
  simp
theorem eql_str (x y : List UInt8) (w : World) : (bin .eql 9 false (.string (strOf x)) (.string (strOf y))).run Try.prog w = .ok (.bool (decide (x = y))) w := by
  simp [go_sem]
  rw [Bool.eq_iff_iff]
  simp
theorem mark_alloc (W : World) : (Instr.alloc 59 true (.tuple #[])).run Try.prog W = .ok (.pointer (some ⟨W.heap.size, 0, none⟩)) (W.alloc (.cells (markV mark0).toArray 59)) := by simp [go_sem, markV, mark0]

set_option maxRecDepth 10000 in
theorem ca_place20 {w : World} {K : Kont} {v : Value} {p : List UInt8} (h : Rd w 1 v 384 (bv p)) (hK : ∀ w', Mod (fun _ => False) w w' → K (.tuple #[.int .u64 ((readP p).1 : Int), .agg (markV (readP p).2).toArray]) w') : Ca Try.prog 70 #[v] w K := by
  have hp384 : p.length = 384 := by simpa using h.1
  obtain ⟨b0, off, cap, hcap, rfl⟩ : ∃ b off cap, 384 ≤ cap ∧ v = .slice (some ⟨b, off, none⟩) 384 cap := by
    obtain ⟨-, ⟨h0, _⟩ | ⟨b, off, cap, he, hc, _⟩⟩ := h
    · omega
    · exact ⟨b, off, cap, hc, he⟩
  apply ca70
  unfold F70
  refine rv_of (mark_alloc w) ?_
  have mA : Mod (fun _ => False) w (w.alloc (.cells (markV mark0).toArray 59)) := (Mod.refl _ w).alloc _
  have hB : hp (w.alloc (.cells (markV mark0).toArray 59)) w.heap.size = some (.cells (markV mark0).toArray 59 (0, 0)) := by simp only [hp_alloc, if_pos]
  generalize (w.alloc (.cells (markV mark0).toArray 59)) = W at mA hB
  have hW := h.mod mA fun _ _ h => h
  obtain ⟨b, hb⟩ : ∃ b, w.heap.size = b := ⟨_, rfl⟩
  rw [hb] at hB ⊢
  have hrd : ∀ W', Mod (fun _ => False) W W' → ∀ i n : Nat, i + n ≤ 384 → 0 < n → ∀ cap, n ≤ cap → Rd W' 1 (.slice (some ⟨b0, off + i, none⟩) n cap) n (bv ((p.drop i).take n)) := fun W' m i n h h0 cap hc => rd_part (hW.mod m fun _ _ h => h) i n cap h h0 hc
  have tk : ∀ i n : Nat, 8 ≤ n → ((p.drop i).take n).take 8 = (p.drop i).take 8 := fun i n h => by rw [List.take_take, Nat.min_eq_left h]
  refine rv_of (slice_lo (lo := 1) (by omega) hcap (by omega) W) ?_
  refine ca_of20 (hrd W (Mod.refl _ _) 1 383 (by omega) (by omega) _ (by omega)) (by omega) ?_
  rw [tk 1 383 (by omega), show ofB ((p.drop 1).take 8) = rawNum p from rfl]
  refine joinK (fun s W' => ∃ mb, s = (.pointer (some ⟨mb, 0, none⟩), ()) ∧ Mod (fun _ => False) W W' ∧ hp W' mb = some (.cells (markV (rawMark p)).toArray 59 (0, 0)) ∧ W.heap.size ≤ mb) (fun JJ hJJ => ?_) ?_
  · have md : Mod (fun _ => False) W W.drew := (Mod.refl _ W).drew
    have cell : ∀ W', Mod (fun _ => False) W W' → ∀ i : Nat, i < 384 → (Instr.loadAt 5 (.pointer (some ⟨b0, off + i, none⟩))).run Try.prog W' = .ok (.int .u8 (p.getD i 0).toNat) W' := by
      intro W' m i hi
      obtain ⟨b', off', cap', C, e, fz, hv, hC, hCj⟩ := rd_at (hW.mod m fun _ _ h => h) (i := i) hi
      injection hv with e1 e2 e3
      injection e1 with e1
      injection e1 with e1 e4 e5
      subst e1 e4
      have : C[off + i]? = some (.int .u8 (p.getD i 0).toNat) := by
        rw [hCj, bv, List.getElem?_map, List.getElem?_eq_getElem (by omega)]
        simp [List.getD, show i < p.length by omega]
      simp [go_sem, hC, this]
    have idx : ∀ i : Nat, i < 384 → ∀ w, (Instr.indexAt 23 (.slice (some ⟨b0, off, none⟩) 384 cap) (.int .i64 (i : Int))).run Try.prog w = .ok (.pointer (some ⟨b0, off + i, none⟩)) w := fun i hi w => by
      have hi' : ¬ (384 : Int) ≤ (i : Int) := by omega
      simp [go_sem, hi, hi']
    have cv : ∀ W', (convert 5 57 (.int .u8 ((p.getD 17 0).toNat : Int))).run Try.prog W' = .ok (.int .i8 (IntKind.i8.wrap ((p.getD 17 0).toNat : Int))) W' := fun W' => by simp [go_sem]
    refine rdP_of (slice_lo (lo := 9) (by omega) hcap (by omega)) ?_
    refine rdP_of (idx 17 (by omega)) ?_
    refine rdW_of (cell _ md 17 (by omega)) ?_
    refine rdW_of (cv _) ?_
    refine rdP_of (v := .int .i8 (i8F (p.getD 17 0))) (fun w => by simp [go_sem, i8F]) ?_
    refine rdP_of (idx 18 (by omega)) ?_
    refine rdW_of (cell _ md 18 (by omega)) ?_
    refine rdP_of (slice_lo (lo := 19) (by omega) hcap (by omega)) ?_
    refine rdP_of (slice_lo (lo := 27) (by omega) hcap (by omega)) ?_
    have bld : ∀ w, (Instr.build 59 #[(0, .int .u64 (ofB ((p.drop 9).take 8))), (1, .int .i8 (i8F (p.getD 17 0))), (2, .int .u8 (p.getD 18 0).toNat), (3, .int .u64 (ofB ((p.drop 19).take 8))), (4, .int .u64 (ofB ((p.drop 27).take 8)))]).run Try.prog w = .ok (.agg (markV (rawMark p)).toArray) w := fun w => by simp [go_sem, markV, rawMark]
    have g : ∀ i : Nat, i + 8 ≤ 384 → ∀ W', Mod (fun _ => False) W W' → ∀ K : Kont, K (.int .u64 (ofB ((p.drop i).take 8))) W' → Ca Try.prog 88 #[.slice (some ⟨b0, off + i, none⟩) (384 - i) (cap - i)] W' K := fun i hi W' m K h => ca_of20 (hrd W' m i (384 - i) (by omega) (by omega) _ (by omega)) (by omega) (by rw [tk i (384 - i) (by omega)]; exact h)
    have g1 := g 9 (by omega)
    have g2 := g 19 (by omega)
    have g3 := g 27 (by omega)
    have ld17 : ∀ W', Mod (fun _ => False) W W' → _ := fun W' m => cell W' m 17 (by omega)
    have ld18 : ∀ W', Mod (fun _ => False) W W' → _ := fun W' m => cell W' m 18 (by omega)
    have al : ∀ W', Mod (fun _ => False) W W' → Mod (fun _ => False) W (W'.alloc (.cells (markV mark0).toArray 59)) ∧ hp (W'.alloc (.cells (markV mark0).toArray 59)) W'.heap.size = some (.cells (markV mark0).toArray 59 (0, 0)) := fun W' m => ⟨m.alloc _, by simp only [hp_alloc, if_pos]⟩
    have fin : ∀ W' mb, Mod (fun _ => False) W W' → hp W' mb = some (.cells (markV mark0).toArray 59 (0, 0)) → W.heap.size ≤ mb → ru Try.prog (Instr.storeAt 59 (.pointer (some ⟨mb, 0, none⟩)) (.agg (markV (rawMark p)).toArray)) W' fun w => JJ (.pointer (some ⟨mb, 0, none⟩), ()) w := by
      intro W' mb m hm hmb
      unfold markV mark0 at hm
      simp only [markV]
      simp [go_sem, hm]
      refine hJJ _ _ ⟨mb, rfl, ((((m.setCell (.inr hmb) _ _).setCell (.inr hmb) _ _).setCell (.inr hmb) _ _).setCell (.inr hmb) _ _).setCell (.inr hmb) _ _, ?_, hmb⟩
      simp [go_sem, hm, markV]
    refine ⟨g1 _ md _ ⟨ld18 _ md, cv _, ld17 _ md, ?_, ?_⟩, ?_⟩
    · refine g2 _ md _ ⟨ld18 _ md, cv _, ld17 _ md, ?_, ?_⟩
      · refine g3 _ md _ ⟨ld18 _ md, cv _, ld17 _ md, ?_⟩
        refine rdP_of bld ?_
        obtain ⟨m1, h1⟩ := al _ md
        exact rv_of (mark_alloc _) ⟨ld18 _ m1, cv _, ld17 _ m1, fin _ _ m1 h1 md.size⟩
      · obtain ⟨m1, h1⟩ := al _ md
        refine rv_of (mark_alloc _) ⟨ld18 _ m1, cv _, ld17 _ m1, ?_⟩
        refine g3 _ m1 _ ⟨ld18 _ m1, cv _, ld17 _ m1, ?_⟩
        exact rdP_of bld (fin _ _ m1 h1 md.size)
    · obtain ⟨m1, h1⟩ := al _ md
      refine rv_of (mark_alloc _) ⟨ld18 _ m1, cv _, ld17 _ m1, ?_⟩
      refine g2 _ m1 _ ⟨ld18 _ m1, cv _, ld17 _ m1, ?_⟩
      refine g3 _ m1 _ ⟨ld18 _ m1, cv _, ld17 _ m1, ?_⟩
      exact rdP_of bld (fin _ _ m1 h1 md.size)
    · obtain ⟨m1, h1⟩ := al _ md
      refine rv_of (mark_alloc _) ⟨ld18 _ m1, cv _, ld17 _ m1, ?_⟩
      refine g1 _ m1 _ ⟨ld18 _ m1, cv _, ld17 _ m1, ?_⟩
      refine g2 _ m1 _ ⟨ld18 _ m1, cv _, ld17 _ m1, ?_⟩
      refine g3 _ m1 _ ⟨ld18 _ m1, cv _, ld17 _ m1, ?_⟩
      exact rdP_of bld (fin _ _ m1 h1 md.size)
  rintro _ W2 ⟨mb, rfl, m2, hmb, lmb⟩
  unfold J70_1
  intro _
  have hB2 : hp W2 b = some (.cells (markV mark0).toArray 59 (0, 0)) := m2.keep hB id
  have okm := rawMark_ok p
  have ldm : ∀ W', Mod (fun _ => False) W2 W' → (Instr.loadAt 59 (.pointer (some ⟨mb, 0, none⟩))).run Try.prog W' = .ok (.agg (markV (rawMark p)).toArray) W' := fun W' m => ld_mark (m.keep hmb id)
  have hnum : rawNum p < 18446744073709551616 := ofB8_lt _
  refine joinK (fun s W' => Mod (fun _ => False) W2 W' ∧ s = (.bool (decide (rawNum p = 0 ∨ (rawMark p).may = false ∨ p ≠ wr (rawNum p) (rawMark p))), ())) (fun JJ hJJ => ?_) ?_
  · have md : Mod (fun _ => False) W2 W2.drew := (Mod.refl _ W2).drew
    refine rdP_of (v := .bool (decide (rawNum p = 0))) (fun w => ?_) ?_
    · show (bin .eql 27 true (.int .u64 (rawNum p : Int)) (.int .u64 0)).run Try.prog w = _
      simp [go_sem]
      rw [Bool.eq_iff_iff]
      simp
    by_cases h0 : rawNum p = 0
    · simp only [h0, decide_true, ifB_bool, if_true]
      exact hJJ _ _ ⟨md, by simp [h0]⟩
    · simp only [h0, decide_false, ifB_bool, Bool.false_eq_true, if_false]
      refine rdW_of (ldm _ md) ?_
      refine ca_refMay fun W3 m3 => ?_
      have m23 := md.trans m3
      refine rdP_of (v := .bool (!(rawMark p).may)) (fun w => by simp [go_sem]) ?_
      cases hmay : (rawMark p).may
      · simp only [Bool.not_false, ifB_bool, if_true]
        exact hJJ _ _ ⟨m23, by simp [hmay]⟩
      · simp only [Bool.not_true, ifB_bool, Bool.false_eq_true, if_false]
        have hR : ∀ W', Mod (fun _ => False) W2 W' → Rd W' 1 (.slice (some ⟨b0, off, none⟩) 384 cap) 384 (bv p) := fun W' m => hW.mod (m2.trans m) fun _ _ h => h
        refine rdX_toStr Try.underlying23 Try.underlying5 Try.underlying9 (hR _ m23) ?_
        refine rdW_of (ldm _ m23) ?_
        refine ca_form20 hnum okm fun v4 W4 A4 => ?_
        have m24 := m23.trans A4.mod
        refine ⟨run_toStr Try.underlying23 Try.underlying5 Try.underlying9 (hR _ m24), ?_⟩
        refine rdX_toStr Try.underlying23 Try.underlying5 Try.underlying9 A4.own.rd ?_
        refine rdP_of (neq_str _ _) ?_
        exact hJJ _ _ ⟨m24, by simp [h0, hmay]⟩
  rintro _ W3 ⟨m3, rfl⟩
  unfold J70_0
  intro _
  have hB3 : hp W3 b = some (.cells #[.int .u64 0, .int .i8 0, .int .u8 0, .int .u64 0, .int .u64 0] 59 (0, 0)) := m3.keep hB2 id
  have t3 : Mod (fun _ => False) w W3 := (mA.trans m2).trans m3
  have lb : w.heap.size ≤ b := by omega
  by_cases hc : rawNum p = 0 ∨ (rawMark p).may = false ∨ p ≠ wr (rawNum p) (rawMark p)
  · have hr : readP p = (0, mark0) := by unfold readP; rw [if_pos hc]
    rw [hr] at hK
    simp only [hc, decide_true, ifB_bool, if_true]
    simp [go_sem, hB3]
    exact hK _ (((((t3.setCell (.inr lb) _ _).setCell (.inr lb) _ _).setCell (.inr lb) _ _).setCell (.inr lb) _ _).setCell (.inr lb) _ _)
  · have hr : readP p = (rawNum p, rawMark p) := by unfold readP; rw [if_neg hc]
    rw [hr] at hK
    simp only [hc, decide_false, ifB_bool, Bool.false_eq_true, if_false]
    have md : Mod (fun _ => False) W2 W3.drew := m3.drew
    refine rdW_of (ldm _ md) ⟨ldm _ md, ?_⟩
    have hK' : ∀ w', Mod (fun _ => False) w w' → K (.tuple #[.int .u64 (rawNum p : Int), .agg (markV (rawMark p)).toArray]) w' := hK
    generalize rawNum p = num at hK'
    generalize rawMark p = mk at hK'
    simp only [markV] at hK' ⊢
    simp [go_sem, hB3]
    exact hK' _ (mod5 t3 lb _ _ _ _ _).drew
end Go.Proofs

namespace Go.Proofs
open Go Go.Vc

def fileP (B : List UInt8) : Nat × MarkM :=
  if (readP (placeI B 0)).1 = 0 ∧ (readP (placeI B 1)).1 = 0 then (0, mK0) else if (readP (placeI B 0)).1 < (readP (placeI B 1)).1 then readP (placeI B 1) else readP (placeI B 0)

theorem rd_block {w : World} {v : Value} {n : Nat} {p : List UInt8} (h : Rd w 1 v n (bv p)) (h0 : 0 < n) : ∃ b off cap, n ≤ cap ∧ v = .slice (some ⟨b, off, none⟩) n cap := by
  obtain ⟨-, ⟨h0, _⟩ | ⟨b, off, cap, he, hc, _⟩⟩ := h
  · omega
  · exact ⟨b, off, cap, hc, he⟩
theorem ru_of {P : Program} {s : Sem Unit} {w w' : World} {K : World → Prop} (h : s.run P w = .ok () w') (hK : K w') : ru P s w K := by
  rw [ru_iff]
  unfold ruD
  rw [h]
  exact hK

set_option maxRecDepth 10000 in
theorem ca_file20 {w : World} {K : Kont} {v : Value} {B : List UInt8} (h : Rd w 1 v 768 (bv B)) (hK : ∀ w', Mod (fun _ => False) w w' → K (.tuple #[.int .u64 ((fileP B).1 : Int), .agg (markV (fileP B).2).toArray]) w') : Ca Try.prog 39 #[v] w K := by
  obtain ⟨b0, off, cap, hcap, rfl⟩ := rd_block h (by omega)
  apply ca39
  unfold F39
  refine rv_of (mark_alloc w) ?_
  have mA : Mod (fun _ => False) w (w.alloc (.cells (markV mark0).toArray 59)) := (Mod.refl _ w).alloc _
  have hA : hp (w.alloc (.cells (markV mark0).toArray 59)) w.heap.size = some (.cells (markV mark0).toArray 59 (0, 0)) := by simp only [hp_alloc, if_pos]
  generalize (w.alloc (.cells (markV mark0).toArray 59)) = W at mA hA
  obtain ⟨b, hb⟩ : ∃ b, w.heap.size = b := ⟨_, rfl⟩
  rw [hb] at hA ⊢
  refine rv_of (slice_lohi (lo := 0) (hi := 384) (by omega) (by omega) (by omega) W) ?_
  have hW := h.mod mA fun _ _ h => h
  have part : ∀ W', Mod (fun _ => False) W W' → ∀ i : Nat, i < 2 → ∀ c, 384 ≤ c → Rd W' 1 (.slice (some ⟨b0, off + 384 * i, none⟩) 384 c) 384 (bv (placeI B i)) := fun W' m i hi c hc => rd_part (hW.mod m fun _ _ h => h) (384 * i) 384 c (by omega) (by omega) hc
  refine ca_place20 (part W (Mod.refl _ _) 0 (by omega) _ (by omega)) fun W1 m1 => ?_
  obtain ⟨n1, mk1, e1⟩ : ∃ n m, readP (placeI B 0) = (n, m) := ⟨_, _, rfl⟩
  rw [e1]
  refine rv_of (v := .int .u64 (n1 : Int)) (w' := W1) (by simp [go_sem]) ?_
  refine rv_of (v := .agg (markV mk1).toArray) (w' := W1) (by simp [go_sem]) ?_
  refine rv_of (mark_alloc W1) ?_
  have hB : hp (W1.alloc (.cells (markV mark0).toArray 59)) W1.heap.size = some (.cells (markV mark0).toArray 59 (0, 0)) := by simp only [hp_alloc, if_pos]
  have m2 : Mod (fun _ => False) W (W1.alloc (.cells (markV mark0).toArray 59)) := m1.alloc _
  have lW := lt_of_heap hA
  obtain ⟨x1, hx1⟩ : ∃ x, W1.heap.size = x := ⟨_, rfl⟩
  have lx1 : W.heap.size ≤ x1 := by rw [← hx1]; exact m1.size
  rw [hx1] at hB ⊢
  generalize (W1.alloc (.cells (markV mark0).toArray 59)) = W2 at hB m2
  refine ru_mark hB fun W3 m3 hB3 => ?_
  have t3 : Mod (fun _ => False) W W3 := m2.on m3 fun y hy => .inr (by subst hy; exact lx1)
  refine rv_of (slice_lohi (lo := 384) (hi := 768) (by omega) (by omega) (by omega) W3) ?_
  refine ca_place20 (part W3 t3 1 (by omega) _ (by omega)) fun W4 m4 => ?_
  obtain ⟨n2, mk2, e2⟩ : ∃ n m, readP (placeI B 1) = (n, m) := ⟨_, _, rfl⟩
  rw [e2]
  refine rv_of (v := .int .u64 (n2 : Int)) (w' := W4) (by simp [go_sem]) ?_
  refine rv_of (v := .agg (markV mk2).toArray) (w' := W4) (by simp [go_sem]) ?_
  refine rv_of (mark_alloc W4) ?_
  have hC : hp (W4.alloc (.cells (markV mark0).toArray 59)) W4.heap.size = some (.cells (markV mark0).toArray 59 (0, 0)) := by simp only [hp_alloc, if_pos]
  have t4 := t3.trans m4
  have m5 : Mod (fun _ => False) W3 (W4.alloc (.cells (markV mark0).toArray 59)) := m4.alloc _
  obtain ⟨x2, hx2⟩ : ∃ x, W4.heap.size = x := ⟨_, rfl⟩
  have lx2 : W3.heap.size ≤ x2 := by rw [← hx2]; exact m4.size
  rw [hx2] at hC ⊢
  generalize (W4.alloc (.cells (markV mark0).toArray 59)) = W5 at hC m5
  refine ru_mark hC fun W6 m6 hC6 => ?_
  have lx1' := lt_of_heap hB3
  have t6' : Mod (fun _ => False) W3 W6 := m5.on m6 fun y hy => .inr (by subst hy; exact lx2)
  have t6 := t3.trans t6'
  have hB6 := t6'.keep hB3 id
  have hA6 := t6.keep hA id
  have tw := mA.trans t6
  refine joinK (fun s W' => W' = W6 ∧ s = (.bool (decide (n1 = 0 ∧ n2 = 0)), ())) (fun JJ hJJ => ?_) ?_
  · refine rv_of (v := .bool (decide (n1 = 0))) (w' := W6) ?_ ?_
    · simp [go_sem]
      rw [Bool.eq_iff_iff]
      simp
    by_cases h1 : n1 = 0
    · rw [decide_eq_true h1, ifB_bool, if_pos rfl]
      refine rv_of (v := .bool (decide (n2 = 0))) (w' := W6) ?_ (hJJ _ _ ⟨rfl, by simp [h1]⟩)
      simp [go_sem]
      rw [Bool.eq_iff_iff]
      simp
    · rw [decide_eq_false h1, ifB_bool, if_neg (by simp)]
      exact hJJ _ _ ⟨rfl, by simp [h1]⟩
  rintro _ W' ⟨hW', rfl⟩
  subst hW'
  unfold J39_0
  intro _
  unfold fileP at hK
  rw [e1, e2] at hK
  have last : ∀ (W7 : World) (mk : MarkM) (n : Nat), Mod (fun _ => False) W' W7 → fileP B = (n, mk) → ru Try.prog (Instr.storeAt 59 (.pointer (some ⟨b, 0, none⟩)) (.agg (markV mk).toArray)) W7 fun w38 => rdW Try.prog (Instr.loadAt 59 (.pointer (some ⟨b, 0, none⟩))) w38 fun v39 => K (.tuple #[.int .u64 (n : Int), v39]) w38 := by
    intro W7 mk n m7 he
    refine ru_mark (m7.keep hA6 id) fun W8 m8 h8 => ?_
    refine rdW_of (ld_mark h8) ?_
    unfold fileP at he
    rw [e1, e2] at he
    rw [he] at hK
    exact hK _ ((tw.trans m7).on m8 fun y hy => .inr (by subst hy; omega))
  by_cases hz : n1 = 0 ∧ n2 = 0
  · rw [decide_eq_true hz, ifB_bool, if_pos rfl]
    refine rv_of (v := .agg (markV mK0).toArray) (w' := W') (by simp [go_sem, markV, mK0]) ?_
    exact last W' mK0 0 (Mod.refl _ _) (by unfold fileP; rw [e1, e2, if_pos hz])
  · rw [decide_eq_false hz, ifB_bool, if_neg (by simp)]
    refine rv_of (v := .bool (decide (n1 < n2))) (w' := W') ?_ ?_
    · simp [go_sem]
    by_cases hlt : n1 < n2
    · rw [decide_eq_true hlt, ifB_bool, if_pos rfl]
      have md : Mod (fun _ => False) W' W'.drew := (Mod.refl _ _).drew
      refine rdW_of (ld_mark (md.keep hC6 id)) ⟨ld_mark (md.keep hC6 id), last _ _ _ md (by unfold fileP; rw [e1, e2, if_neg hz, if_pos hlt])⟩
    · rw [decide_eq_false hlt, ifB_bool, if_neg (by simp)]
      have md : Mod (fun _ => False) W' W'.drew := (Mod.refl _ _).drew
      refine rdW_of (ld_mark (md.keep hB6 id)) ⟨ld_mark (md.keep hB6 id), last _ _ _ md (by unfold fileP; rw [e1, e2, if_neg hz, if_neg hlt])⟩
theorem index8 {b off n cap j : Nat} (h : j < n) (W : World) : (Instr.indexAt 23 (.slice (some ⟨b, off, none⟩) n cap) (.int .i64 (j : Int))).run Try.prog W = .ok (.pointer (some ⟨b, off + j, none⟩)) W := by
  have h' : ¬ (n : Int) ≤ (j : Int) := by omega
  simp [go_sem, h, h']
/-- A byte of an own row is written over. -/
theorem own_put {W : World} {v : Value} {n : Nat} {l : List UInt8} (h : Own W 5 1 v n (bv l)) {i : Nat} (hi : i < n) (u : UInt8) : ∃ b cap, v = .slice (some ⟨b, 0, none⟩) n cap ∧ n ≤ cap ∧
    (Instr.storeAt 5 (.pointer (some ⟨b, i, none⟩)) (.int .u8 (u.toNat : Int))).run Try.prog W = .ok () (W.setCell ⟨b, i, none⟩ (.int .u8 (u.toNat : Int))) ∧
    Own (W.setCell ⟨b, i, none⟩ (.int .u8 (u.toNat : Int))) 5 1 v n (bv (l.set i u)) ∧ Mod (inSl v) W (W.setCell ⟨b, i, none⟩ (.int .u8 (u.toNat : Int))) := by
  have hl : l.length = n := by simpa using h.1
  obtain ⟨_, ⟨_, h0⟩ | ⟨b, cap, rest, rfl, hc, hh, hr⟩⟩ := h
  · omega
  · obtain ⟨C, hC⟩ : ∃ C, (bv l ++ rest).toArray = C := ⟨_, rfl⟩
    have hsz : i < C.size := by rw [← hC]; simp; omega
    refine ⟨b, cap, rfl, hc, ?_, ⟨by simp [hl], .inr ⟨b, cap, rest, rfl, hc, ?_, hr⟩⟩, (Mod.refl (inSl (.slice (some ⟨b, 0, none⟩) n cap)) W).setCell (.inl (show inSl _ b from rfl)) _ _⟩
    · have hb : hp W b = some (.cells C 5 (0, 0)) := by rw [← hC]; exact hh
      simp [go_sem, hb, hsz]
    · rw [heap_setCell, if_pos rfl, hh, setObj1_cells]
      congr 2
      apply Array.ext'
      rw [Array.toList_setIfInBounds]
      show (bv l ++ rest).set i _ = bv (l.set i u) ++ rest
      rw [List.set_append_left _ _ (by simp; omega), bv_set]

def cl1 (p : List UInt8) : List UInt8 := if (readP p).1 = 0 then z384 else p
def cleanL (B : List UInt8) : Nat → List UInt8
  | 0 => B
  | 1 => cl1 (placeI B 0) ++ B.drop 384
  | _ => cl1 (placeI B 0) ++ cl1 (placeI B 1)
def zl (l : List UInt8) (a k : Nat) : List UInt8 := l.take a ++ (List.replicate k 0 ++ l.drop (a + k))
theorem zl_length {l : List UInt8} {a k : Nat} (h : a + k ≤ l.length) : (zl l a k).length = l.length := by simp [zl]; omega
theorem zl_set {l : List UInt8} {a k : Nat} (h : a + k < l.length) : (zl l a k).set (a + k) 0 = zl l a (k + 1) := by
  unfold zl
  have e1 : (l.take a).length = a := by simp; omega
  rw [List.set_append_right _ _ (by omega), e1, Nat.add_sub_cancel_left, List.set_append_right _ _ (by simp), List.length_replicate, Nat.sub_self]
  congr 1
  rw [List.replicate_succ', List.append_assoc]
  congr 1
  rw [List.drop_eq_getElem_cons h]
  simp [Nat.add_assoc]
theorem zl_zero (l : List UInt8) (a : Nat) : zl l a 0 = l := by simp [zl]
theorem cl1_length {B : List UInt8} (hB : B.length = 768) {i : Nat} (hi : i < 2) : (cl1 (placeI B i)).length = 384 := by
  unfold cl1
  split
  · unfold z384; exact List.length_replicate
  · exact placeI_length hB hi
theorem cleanL_length {B : List UInt8} (hB : B.length = 768) {i : Nat} (hi : i ≤ 2) : (cleanL B i).length = 768 := by
  have h0 := cl1_length hB (show 0 < 2 by omega)
  have h1 := cl1_length hB (show 1 < 2 by omega)
  match i, hi with
  | 0, _ => exact hB
  | 1, _ => simp [cleanL, h0, hB]
  | 2, _ => simp [cleanL, h0, h1]
theorem place_split {B : List UInt8} (hB : B.length = 768) : placeI B 0 ++ placeI B 1 = B := by
  simp only [placeI, Nat.mul_zero, List.drop_zero, Nat.mul_one]
  rw [List.take_of_length_le (l := B.drop 384) (by simp; omega), List.take_append_drop]
theorem cleanL_no {B : List UInt8} (hB : B.length = 768) {i : Nat} (hi : i < 2) (h : (readP (placeI B i)).1 ≠ 0) : cleanL B i = cleanL B (i + 1) := by
  have e : B.drop 384 = placeI B 1 := by simp [placeI]; rw [List.take_of_length_le (by simp; omega)]
  have e1 : cl1 (placeI B i) = placeI B i := by unfold cl1; rw [if_neg h]
  match i, hi with
  | 0, _ =>
    simp only [cleanL, e1, e]
    exact (place_split hB).symm
  | 1, _ => simp only [cleanL, e1, e]
set_option maxRecDepth 10000 in
theorem cleanL_yes {B : List UInt8} (hB : B.length = 768) {i : Nat} (hi : i < 2) (h : (readP (placeI B i)).1 = 0) : zl (cleanL B i) (384 * i) 384 = cleanL B (i + 1) := by
  have e1 : cl1 (placeI B i) = z384 := by unfold cl1; rw [if_pos h]
  have h0 := cl1_length hB (show 0 < 2 by omega)
  match i, hi with
  | 0, _ =>
    show zl B 0 384 = cl1 (placeI B 0) ++ B.drop 384
    rw [e1]
    unfold zl
    rw [List.take_zero, List.nil_append, Nat.zero_add]
    rfl
  | 1, _ =>
    obtain ⟨c, hc⟩ : ∃ c, cl1 (placeI B 0) = c := ⟨_, rfl⟩
    obtain ⟨d, hd⟩ : ∃ d, B.drop 384 = d := ⟨_, rfl⟩
    have hdl : d.length = 384 := by rw [← hd]; simp [hB]
    show zl (cl1 (placeI B 0) ++ B.drop 384) (384 * 1) 384 = cl1 (placeI B 0) ++ cl1 (placeI B 1)
    rw [e1, hc, hd]
    rw [hc] at h0
    unfold zl
    rw [List.take_append_of_le_length (by omega), List.take_of_length_le (by omega), List.drop_of_length_le (by simp [h0, hdl]), List.append_nil]
    rfl

set_option maxRecDepth 10000 in
theorem ca_clean20 {w : World} {K : Kont} {v : Value} {B : List UInt8} (h : Rd w 1 v 768 (bv B)) (hK : ∀ v w', Nw w w' v 768 (cleanL B 2) → K v w') : Ca Try.prog 40 #[v] w K := by
  have hB : B.length = 768 := by simpa using h.1
  obtain ⟨b0, off, cap, hcap, rfl⟩ := rd_block h (by omega)
  apply ca40
  unfold F40
  refine lit0 fun v0 W0 o0 m0 n0 => ?_
  have A0 : Nw w W0 v0 0 [] := ⟨o0, m0, n0⟩
  refine nw_append (l' := B) A0 (h.mod m0 fun _ _ h => h) (by omega) fun v2 W3 A2 m2 => ?_
  simp only [Nat.zero_add, List.nil_append] at A2
  unfold L40_2
  refine loopK (fun s W => ∃ i : Nat, i ≤ 2 ∧ s = (.int .i64 (i : Int), ()) ∧ Nw w W v2 768 (cleanL B i)) (fun s _ => match s.1 with | .int _ i => 2 - i.toNat | _ => 0) ⟨0, by omega, rfl, A2⟩ ?_
  rintro ⟨_, _⟩ W ⟨i, hi, ⟨⟩, A⟩ KN hKN _
  by_cases hlt : i < 2
  · have hlt' : (i : Int) < 2 := by omega
    refine rv_of (v := .bool true) (w' := W) (by simp [go_sem, hlt']) ?_
    rw [ifB_bool, if_pos rfl]
    have e1 : IntKind.i64.wrap ((i : Int) * 384) = ((384 * i : Nat) : Int) := by rw [IntKind.wrap_i64]; omega
    have e2 : IntKind.i64.wrap ((i : Int) + 1) = ((i + 1 : Nat) : Int) := by rw [IntKind.wrap_i64]; omega
    have e3 : IntKind.i64.wrap (((i + 1 : Nat) : Int) * 384) = ((384 * i + 384 : Nat) : Int) := by rw [IntKind.wrap_i64]; omega
    refine rv_of (v := .int .i64 ((384 * i : Nat) : Int)) (w' := W) (by simp [-Int.natCast_mul, go_sem, e1]) ?_
    refine rv_of (v := .int .i64 ((i + 1 : Nat) : Int)) (w' := W) (by simp [-Int.natCast_add, go_sem, e2]) ?_
    refine rv_of (v := .int .i64 ((384 * i + 384 : Nat) : Int)) (w' := W) (by simp [-Int.natCast_add, -Int.natCast_mul, go_sem, e3]) ?_
    refine rv_of (slice_lohi (lo := 384 * i) (hi := 384 * i + 384) (by omega) (by omega) (by omega) W) ?_
    have hWr := h.mod A.mod fun _ _ h => h
    have e4 : 384 * i + 384 - 384 * i = 384 := by omega
    rw [e4]
    refine ca_place20 (p := placeI B i) (rd_part hWr (384 * i) 384 _ (by omega) (by omega) (by omega)) fun W1 m1 => ?_
    obtain ⟨n, mk, e5⟩ : ∃ n m, readP (placeI B i) = (n, m) := ⟨_, _, rfl⟩
    rw [e5]
    refine rv_of (v := .int .u64 (n : Int)) (w' := W1) (by simp [go_sem]) ?_
    refine rv_of (v := .agg (markV mk).toArray) (w' := W1) (by simp [go_sem]) ?_
    refine rv_of (mark_alloc W1) ?_
    have hC : hp (W1.alloc (.cells (markV mark0).toArray 59)) W1.heap.size = some (.cells (markV mark0).toArray 59 (0, 0)) := by simp only [hp_alloc, if_pos]
    have m2 : Mod (fun _ => False) W (W1.alloc (.cells (markV mark0).toArray 59)) := m1.alloc _
    obtain ⟨x, hx⟩ : ∃ x, W1.heap.size = x := ⟨_, rfl⟩
    have lx : W.heap.size ≤ x := by rw [← hx]; exact m1.size
    rw [hx] at hC ⊢
    generalize (W1.alloc (.cells (markV mark0).toArray 59)) = W2 at hC m2
    refine ru_mark hC fun W3' m3 hC3 => ?_
    have m3' : Mod (fun _ => False) W W3' := m2.on m3 fun y hy => .inr (by subst hy; exact lx)
    have A3 := A.on m3'
    have hlen := cleanL_length hB hi
    unfold L40_1
    refine loopK (fun s W' => ∃ k : Nat, k ≤ 384 ∧ (n ≠ 0 → k = 0) ∧ s = (.int .i64 (k : Int), ()) ∧ Nw w W' v2 768 (zl (cleanL B i) (384 * i) k)) (fun s _ => match s.1 with | .int _ i => 384 - i.toNat | _ => 0) ⟨0, by omega, fun _ => rfl, rfl, by rw [zl_zero]; exact A3⟩ ?_
    rintro ⟨_, _⟩ W4 ⟨k, hk, hk0, ⟨⟩, A4⟩ KN2 hKN2 _
    refine joinK (fun s W' => W' = W4 ∧ s = (.bool (decide (k < 384 ∧ n = 0)), ())) (fun JJ hJJ => ?_) ?_
    · by_cases h1 : k < 384
      · have h1' : (k : Int) < 384 := by omega
        refine rv_of (v := .bool true) (w' := W4) (by simp [go_sem, h1']) ?_
        rw [ifB_bool, if_pos rfl]
        refine rv_of (v := .bool (decide (n = 0))) (w' := W4) ?_ (hJJ _ _ ⟨rfl, by simp [h1]⟩)
        simp [go_sem]
        rw [Bool.eq_iff_iff]
        simp
      · have h1' : ¬ (k : Int) < 384 := by omega
        refine rv_of (v := .bool false) (w' := W4) (by simp [go_sem]; omega) ?_
        rw [ifB_bool, if_neg (by simp)]
        exact hJJ _ _ ⟨rfl, by simp [h1]⟩
    rintro _ W5 ⟨hW5, rfl⟩
    subst hW5
    unfold J40_0
    intro _
    by_cases hc : k < 384 ∧ n = 0
    · rw [decide_eq_true hc, ifB_bool, if_pos rfl]
      have e6 : IntKind.i64.wrap (((384 * i : Nat) : Int) + (k : Int)) = ((384 * i + k : Nat) : Int) := by rw [IntKind.wrap_i64]; omega
      have e7 : IntKind.i64.wrap ((k : Int) + 1) = ((k + 1 : Nat) : Int) := by rw [IntKind.wrap_i64]; omega
      obtain ⟨b, c, hv, hvc, hst, hO, hM⟩ := own_put A4.own (i := 384 * i + k) (by omega) 0
      refine rv_of (v := .int .i64 ((384 * i : Nat) : Int)) (w' := W5) (by simp [-Int.natCast_mul, go_sem, e1]) ?_
      refine rv_of (v := .int .i64 ((384 * i + k : Nat) : Int)) (w' := W5) (by simp [-Int.natCast_add, -Int.natCast_mul, go_sem, e6]) ?_
      have e8 : ((384 * i + k : Nat) : Int) < 768 := by omega
      have e9 : 384 * i + k < 768 := by omega
      have e10 : ¬ (768 : Int) ≤ ((384 * i + k : Nat) : Int) := by omega
      refine rv_of (v := .pointer (some ⟨b, 384 * i + k, none⟩)) (w' := W5) (by rw [hv, index8 e9, Nat.zero_add]) ?_
      refine ru_of hst ?_
      refine rv_of (v := .int .i64 ((k + 1 : Nat) : Int)) (w' := W5.setCell ⟨b, 384 * i + k, none⟩ (.int .u8 ((0 : UInt8).toNat : Int))) (by simp [-Int.natCast_add, go_sem, e7]) ?_
      rw [zl_set (by omega)] at hO
      exact hKN2 _ _ ⟨k + 1, by omega, fun h => absurd hc.2 h, rfl, hO, A4.mod.on hM fun y hy => .inr (A4.new y hy), A4.new⟩ (by simp; omega)
    · rw [decide_eq_false hc, ifB_bool, if_neg (by simp)]
      refine rv_of (v := .int .i64 ((i + 1 : Nat) : Int)) (w' := W5) (by simp [-Int.natCast_add, go_sem, e2]) ?_
      have e : zl (cleanL B i) (384 * i) k = cleanL B (i + 1) := by
        by_cases hn : n = 0
        · have : k = 384 := by omega
          subst this
          exact cleanL_yes hB hlt (by rw [e5]; exact hn)
        · rw [hk0 hn, zl_zero]
          exact cleanL_no hB hlt (by rw [e5]; exact hn)
      rw [e] at A4
      exact hKN _ _ ⟨i + 1, hlt, rfl, A4⟩ (by simp; omega)
  · have : i = 2 := by omega
    subst this
    refine rv_of (v := .bool false) (w' := W) (by simp [go_sem]) ?_
    rw [ifB_bool, if_neg (by simp)]
    exact hK _ _ A
end Go.Proofs
