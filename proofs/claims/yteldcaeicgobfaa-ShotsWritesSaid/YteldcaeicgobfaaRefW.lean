/-
  The document's sum; what reading and writing own rows needs.
  Conditions: where they ask for any, each theorem names them.
-/
import Derived.Test.YteldcaeicgobfaaVoteA
import Derived.Test.YteldcaeicgobfaaVoteC
import Derived.Test.YteldcaeicgobfaaG6
import Derived.Test.YteldcaeicgobfaaVcZero
set_option linter.unusedVariables false
set_option linter.unusedSimpArgs false
namespace Go.Proofs
open Go Go.Vc

theorem crcBit_xor (x y : Nat) : crcBit (x ^^^ y) = crcBit x ^^^ crcBit y := by
  have h1 : (x ^^^ y) / 2 = x / 2 ^^^ y / 2 := Nat.xor_div_two_pow (n := 1)
  have h2 : (x ^^^ y) % 2 = (x % 2) ^^^ (y % 2) := Nat.xor_mod_two_pow (n := 1)
  unfold crcBit
  rw [h1, h2]
  rcases Nat.mod_two_eq_zero_or_one x with hx | hx <;> rcases Nat.mod_two_eq_zero_or_one y with hy | hy <;> rw [hx, hy]
  · simp
  · simp [Nat.xor_assoc]
  · have : x / 2 ^^^ y / 2 ^^^ 3988292384 = x / 2 ^^^ 3988292384 ^^^ y / 2 := by
      rw [Nat.xor_assoc, Nat.xor_comm (y / 2), ← Nat.xor_assoc]
    rw [if_pos (by decide), if_pos rfl, if_neg (by decide), this]
  · have : x / 2 ^^^ 3988292384 ^^^ (y / 2 ^^^ 3988292384) = x / 2 ^^^ y / 2 := by
      rw [Nat.xor_comm (y / 2), ← Nat.xor_assoc, Nat.xor_assoc (x / 2), Nat.xor_self, Nat.xor_zero]
    simp [this]
theorem crcBits_xor (x y : Nat) : ∀ k, crcBits k (x ^^^ y) = crcBits k x ^^^ crcBits k y
  | 0 => rfl
  | k + 1 => by
    unfold crcBits
    rw [crcBits_xor x y k, crcBit_xor]
theorem crcBit_even (z : Nat) : crcBit (2 * z) = z := by
  unfold crcBit
  rw [if_neg (by omega)]
  omega
theorem crcBits_comm (x : Nat) : ∀ k, crcBits k (crcBit x) = crcBit (crcBits k x)
  | 0 => rfl
  | k + 1 => by
    show crcBit (crcBits k (crcBit x)) = crcBit (crcBit (crcBits k x))
    rw [crcBits_comm x k]
theorem crcBits_pow (z : Nat) : ∀ k, crcBits k (2 ^ k * z) = z
  | 0 => by simp [crcBits]
  | k + 1 => by
    show crcBit (crcBits k (2 ^ (k + 1) * z)) = z
    rw [← crcBits_comm, show 2 ^ (k + 1) * z = 2 * (2 ^ k * z) by rw [Nat.pow_succ, Nat.mul_comm (2 ^ k) 2, Nat.mul_assoc], crcBit_even, crcBits_pow z k]
theorem mod_xor_mul (x k : Nat) : x % 2 ^ k ^^^ 2 ^ k * (x / 2 ^ k) = x := by
  apply Nat.eq_of_testBit_eq
  intro i
  rw [Nat.testBit_xor, Nat.testBit_mod_two_pow, Nat.mul_comm, Nat.testBit_mul_two_pow, Nat.testBit_div_two_pow]
  by_cases h : i < k
  · have : ¬ k ≤ i := by omega
    simp [h, this]
  · have h' : k ≤ i := by omega
    simp [h, h', Nat.sub_add_cancel h']

/-- One bit. -/
def refBit (x c : Nat) : Nat := if x % 2 ≠ c then (x / 2) ^^^ 3988292384 else x / 2
theorem refBit_is (x : Nat) {c : Nat} (hc : c < 2) : refBit x c = crcBit (x ^^^ c) := by
  have h1 : (x ^^^ c) / 2 = x / 2 := by
    have : (x ^^^ c) / 2 = x / 2 ^^^ c / 2 := Nat.xor_div_two_pow (n := 1)
    rw [this, Nat.div_eq_of_lt hc, Nat.xor_zero]
  have h2 : (x ^^^ c) % 2 = (x % 2) ^^^ (c % 2) := Nat.xor_mod_two_pow (n := 1)
  unfold refBit crcBit
  rw [h1, h2, Nat.mod_eq_of_lt hc]
  have hc' : c = 0 ∨ c = 1 := by omega
  rcases Nat.mod_two_eq_zero_or_one x with hx | hx <;> rcases hc' with rfl | rfl <;> rw [hx] <;> simp
/-- The register behind i bits. -/
def refRun (l : List UInt8) (x : Nat) : Nat → Nat
  | 0 => x
  | i + 1 => refBit (refRun l x i) ((l.getD (i / 8) 0).toNat / 2 ^ (i % 8) % 2)
theorem refRun_byte (l : List UInt8) (x j : Nat) : ∀ t, t ≤ 8 → refRun l x (8 * j + t) = crcBits t (refRun l x (8 * j) ^^^ (l.getD j 0).toNat % 2 ^ t)
  | 0, _ => by simp [crcBits, Nat.mod_one]
  | t + 1, h => by
    have ih := refRun_byte l x j t (by omega)
    show refBit (refRun l x (8 * j + t)) ((l.getD ((8 * j + t) / 8) 0).toNat / 2 ^ ((8 * j + t) % 8) % 2) = _
    rw [show (8 * j + t) / 8 = j by omega, show (8 * j + t) % 8 = t by omega]
    generalize (l.getD j 0).toNat = b at ih ⊢
    generalize refRun l x (8 * j) = y at ih ⊢
    rw [refBit_is _ (Nat.mod_lt _ (by omega)), ih]
    have e : b % 2 ^ (t + 1) = b % 2 ^ t ^^^ 2 ^ t * (b / 2 ^ t % 2) := by
      have h1 := mod_xor_mul (b % 2 ^ (t + 1)) t
      rw [← h1]
      congr 1
      · rw [Nat.mod_mod_of_dvd _ (Nat.pow_dvd_pow 2 (by omega))]
      · congr 1
        rw [Nat.pow_succ, Nat.mod_mul_right_div_self]
    rw [e, ← Nat.xor_assoc]
    conv => lhs; rw [← crcBits_pow (b / 2 ^ t % 2) t, ← crcBits_xor]
    rfl
theorem crcStep_is (x : Nat) (b : UInt8) : crcStep x b = crcBits 8 (x ^^^ b.toNat) := by
  have h : x ^^^ b.toNat = (x % 2 ^ 8 ^^^ b.toNat) ^^^ 2 ^ 8 * (x / 2 ^ 8) := by
    conv => lhs; rw [← mod_xor_mul x 8]
    rw [Nat.xor_assoc, Nat.xor_comm (2 ^ 8 * _), ← Nat.xor_assoc]
  rw [h, crcBits_xor, crcBits_pow]
  rfl
theorem refRun_all (l : List UInt8) (x : Nat) : ∀ j, j ≤ l.length → refRun l x (8 * j) = (l.take j).foldl crcStep x
  | 0, _ => rfl
  | j + 1, h => by
    have h1 := refRun_byte l x j 8 (by omega)
    rw [show 8 * (j + 1) = 8 * j + 8 by omega, h1, refRun_all l x j (by omega), List.take_succ_eq_append_getElem (by omega), List.foldl_append, List.foldl_cons, List.foldl_nil, crcStep_is]
    have : (l.getD j 0).toNat % 2 ^ 8 = l[j].toNat := by
      rw [List.getD_eq_getElem?_getD, List.getElem?_eq_getElem (by omega), Option.getD_some]
      exact Nat.mod_eq_of_lt l[j].toNat_lt
    rw [this]
theorem refRun_crc (l : List UInt8) : refRun l 4294967295 (8 * l.length) = crcRun l := by
  rw [refRun_all l _ _ (Nat.le_refl _), List.take_length]
  rfl
theorem refRun_lt {l : List UInt8} {x : Nat} (h : x < 4294967296) : ∀ i, refRun l x i < 4294967296
  | 0 => h
  | i + 1 => by
    unfold refRun
    rw [refBit_is _ (Nat.mod_lt _ (by omega))]
    refine crcBit_lt (Nat.xor_lt_two_pow (n := 32) (refRun_lt h i) ?_)
    have := Nat.mod_lt ((l.getD (i / 8) 0).toNat / 2 ^ (i % 8)) (show 0 < 2 by omega)
    omega
end Go.Proofs

namespace Go.Proofs
open Go Go.Vc

theorem rn_len23 {a : Option Addr} {n c : Nat} {w : World} {K : Kont} (hK : K (.int .i64 (n : Int)) w) : rn Try.prog (builtin .len #[23] 3 #[false] #[.slice a n c]) w K := by
  simp [go_sem]
  exact hK
set_option maxRecDepth 10000 in
theorem ca_steps {w : World} {K : Kont} {v : Value} {bs : List UInt8} {x0 : Nat} (h : Rd w 1 v bs.length (bv bs)) (hx : x0 < 4294967296) (hn : bs.length < 1099511627776) (hK : K (.int .u32 (refRun bs x0 (8 * bs.length) : Nat)) w) :
    Ca Try.prog 103 #[.int .u32 (x0 : Int), v] w K := by
  obtain ⟨la, lc, rfl⟩ := h.isSl
  apply ca103
  unfold F103
  unfold L103_1
  refine loopK (fun s W => W = w ∧ ∃ i : Nat, i ≤ 8 * bs.length ∧ s = (.int .u32 (refRun bs x0 i : Nat), .int .i64 i, ())) (fun s _ => match s.2.1 with | .int _ i => 8 * bs.length - i.toNat | _ => 0) ⟨rfl, 0, by omega, rfl⟩ ?_
  rintro ⟨_, _⟩ W ⟨rfl, i, hi, ⟨⟩⟩ KN hKN _
  have hw1 : IntKind.i64.wrap ((i : Int) + 1) = ((i + 1 : Nat) : Int) := by rw [IntKind.wrap_i64]; omega
  have hw2 : IntKind.i64.wrap (8 * (bs.length : Int)) = ((8 * bs.length : Nat) : Int) := by rw [IntKind.wrap_i64]; omega
  by_cases hlt : i < 8 * bs.length
  · have hj : i / 8 < bs.length := by omega
    obtain ⟨b, off, cap, C, e, fz, hv, hC, hCj⟩ := rd_at h hj
    have hlt' : (i : Int) < ((8 * bs.length : Nat) : Int) := by omega
    rw [hv]
    have hcj : C[off + i / 8]? = some (.int .u8 (bs.getD (i / 8) 0).toNat) := by
      rw [hCj, bv, List.getElem?_map, List.getElem?_eq_getElem hj]
      simp [List.getD, hj]
    have hb := (bs.getD (i / 8) 0).toNat_lt
    generalize hcg : (bs.getD (i / 8) 0).toNat = c at hcj hb
    have hxl := refRun_lt (l := bs) hx i
    have hstep : refRun bs x0 (i + 1) = refBit (refRun bs x0 i) (c / 2 ^ (i % 8) % 2) := by rw [← hcg]; rfl
    generalize refRun bs x0 i = x at hxl hstep
    have hdiv : IntKind.i64.wrap ((i : Int) / 8) = ((i / 8 : Nat) : Int) := by rw [IntKind.wrap_i64]; omega
    have hmod : (i : Int).tmod 8 = ((i % 8 : Nat) : Int) := by rw [Int.tmod_eq_emod_of_nonneg (by omega)]; omega
    have hcs : c / 2 ^ (i % 8) < 256 := Nat.lt_of_le_of_lt (Nat.div_le_self _ _) hb
    refine rn_len23 ?_
    refine rv_of (v := .int .i64 ((8 * bs.length : Nat) : Int)) (w' := W) (by simp [-Int.natCast_mul, go_sem, hw2]) ?_
    refine rv_of (v := .bool true) (w' := W) (by simp [-Int.natCast_mul, go_sem, hlt']) ?_
    rw [ifB_bool, if_pos rfl]
    refine joinK (fun s W' => W' = W ∧ s = (.int .u32 (refRun bs x0 (i + 1) : Nat), ())) (fun JJ hJJ => ?_) ?_
    · refine rv_of (v := .int .i64 ((i / 8 : Nat) : Int)) (w' := W) (by simp [-Int.natCast_ediv, go_sem, hdiv]) ?_
      refine rv_of (v := .pointer (some ⟨b, off + i / 8, none⟩)) (w' := W) (by simp [-Int.natCast_ediv, go_sem, hj]) ?_
      refine rv_of (v := .int .u8 (c : Int)) (w' := W) (by simp [go_sem, hC, hcj]) ?_
      refine rv_of (v := .int .i64 ((i % 8 : Nat) : Int)) (w' := W) (by simp [-Int.natCast_emod, go_sem, hmod]) ?_
      refine rv_of (v := .int .u8 ((c / 2 ^ (i % 8) : Nat) : Int)) (w' := W) (by
        simp [-Int.natCast_emod, -Int.natCast_ediv, go_sem]
        rw [Int.natCast_ediv]
        simp) ?_
      generalize c / 2 ^ (i % 8) = e at hstep hcs ⊢
      refine rv_of (v := .int .u32 (e : Int)) (w' := W) (by
        have : IntKind.u32.wrap (e : Int) = (e : Int) := by rw [IntKind.wrap_u32]; omega
        simp [-Int.natCast_ediv, go_sem, this]) ?_
      refine rv_of (v := .int .u32 ((e % 2 : Nat) : Int)) (w' := W) (by
        have : (e : Int).tmod 2 = ((e % 2 : Nat) : Int) := by rw [Int.tmod_eq_emod_of_nonneg (by omega)]; omega
        simp [-Int.natCast_ediv, -Int.natCast_emod, go_sem, this]) ?_
      generalize e % 2 = q at hstep
      refine rv_of (v := .int .u32 ((x % 2 : Nat) : Int)) (w' := W) (by
        have : (x : Int).tmod 2 = ((x % 2 : Nat) : Int) := by rw [Int.tmod_eq_emod_of_nonneg (by omega)]; omega
        simp [-Int.natCast_emod, go_sem, this]) ?_
      refine rv_of (v := .int .u32 ((x / 2 : Nat) : Int)) (w' := W) (by
        have : IntKind.u32.wrap ((x : Int) / 2) = ((x / 2 : Nat) : Int) := by rw [IntKind.wrap_u32]; omega
        simp [-Int.natCast_ediv, go_sem, this]) ?_
      refine rv_of (v := .bool (decide (x % 2 ≠ q))) (w' := W) (by
        simp [-Int.natCast_emod, go_sem]
        rw [Bool.eq_iff_iff]
        simp [-Int.natCast_emod]
        omega) ?_
      by_cases hne : x % 2 ≠ q
      · rw [ifB_bool, if_pos (by simpa using hne)]
        refine rv_of (v := .int .u32 ((x / 2 ^^^ 3988292384 : Nat) : Int)) (w' := W) (by
          have : bits .xor .u32 ((x / 2 : Nat) : Int) 3988292384 = ((x / 2 ^^^ 3988292384 : Nat) : Int) := u32_xor_nat (x / 2) 3988292384 (by omega) (by omega)
          simp [-Int.natCast_ediv, go_sem, this]) ?_
        exact hJJ _ _ ⟨rfl, by rw [hstep, refBit, if_pos hne]⟩
      · rw [ifB_bool, if_neg (by simpa using hne)]
        exact hJJ _ _ ⟨rfl, by rw [hstep, refBit, if_neg hne]⟩
    rintro _ W' ⟨hW', rfl⟩
    unfold J103_0
    intro _
    refine rv_of (v := .int .i64 ((i + 1 : Nat) : Int)) (w' := W') (by simp [-Int.natCast_add, go_sem, hw1]) ?_
    exact hKN _ _ ⟨hW', i + 1, hlt, rfl⟩ (by simp; omega)
  · have : i = 8 * bs.length := by omega
    subst this
    simp [-Int.natCast_add, -Int.natCast_mul, go_sem, hw2]
    exact hK
end Go.Proofs

namespace Go.Proofs
open Go Go.Vc

theorem ca_refSum {w : World} {K : Kont} {v : Value} {bs : List UInt8} (h : Rd w 1 v bs.length (bv bs)) (hn : bs.length < 1099511627776) (hK : K (.int .u32 (crcOf bs : Nat)) w) :
    Ca Try.prog 98 #[v] w K := by
  apply ca98
  unfold F98
  refine ca_steps (x0 := 4294967295) h (by decide) hn ?_
  rw [refRun_crc]
  have hx := crcRun_lt bs
  have e1 : bits .xor .u32 4294967295 ((crcRun bs : Nat) : Int) = ((crcOf bs : Nat) : Int) := u32_xor_nat 4294967295 (crcRun bs) (by omega) hx
  refine rv_of (v := .int .u32 (crcOf bs : Nat)) (w' := w) (by
    simp [go_sem]
    exact e1) ?_
  exact hK

/-- An own row in a place of its own, new since w. -/
structure Nw (w W : World) (v : Value) (n : Nat) (l : List UInt8) : Prop where
  own : Own W 5 1 v n (bv l)
  mod : Mod (fun _ => False) w W
  new : ∀ b, inSl v b → w.heap.size ≤ b
theorem Nw.on {w W W' : World} {v : Value} {n : Nat} {l : List UInt8} (h : Nw w W v n l) (m : Mod (fun _ => False) W W') : Nw w W' v n l := ⟨h.own.mod m fun _ _ h => h, h.mod.trans m, h.new⟩
/-- Bytes appended to it. -/
theorem nw_append {w W : World} {K : Kont} {v x : Value} {n m : Nat} {l l' : List UInt8} {ty : Nat} (h : Nw w W v n l) (hx : Rd W 1 x m (bv l')) (hb : n + m ≤ 100000)
    (hK : ∀ v' W', Nw w W' v' (n + m) (l ++ l') → Mod (inSl v) W W' → K v' W') : rx Try.prog (xAppend #[23, 23] ty [v, x]) W K := by
  refine rx_append Try.underlying23 Try.underlying23 (elemT_of uT1) h.own hx (bv_one _) (by omega) fun v3 W3 o3 m3 n3 => ?_
  rw [← bv_append] at o3
  refine hK v3 W3 ⟨o3, h.mod.on m3 fun b hb => .inr (h.new b hb), fun b hb => ?_⟩ m3
  rcases n3 b hb with h' | h'
  · exact h.new b h'
  · have := h.mod.size; omega

theorem slice_lo {b off n cap lo : Nat} (h : lo ≤ n) (hc : n ≤ cap) (hl : lo < cap) (W : World) : (Instr.sliceAt 23 (.slice (some ⟨b, off, none⟩) n cap) (some (.int .i64 (lo : Int))) none none).run Try.prog W = .ok (.slice (some ⟨b, off + lo, none⟩) (n - lo) (cap - lo)) W := by
  have e1 : ¬ cap < lo := by omega
  have e2 : ¬ (cap = lo) := by omega
  have e3 : ¬ (lo = cap) := by omega
  simp [go_sem, h, hc, e1, e2, e3, addr_add]
  try omega
theorem slice_lohi {b off n cap lo hi : Nat} (h : lo ≤ hi) (hn : hi ≤ cap) (hl : lo < cap) (W : World) : (Instr.sliceAt 23 (.slice (some ⟨b, off, none⟩) n cap) (some (.int .i64 (lo : Int))) (some (.int .i64 (hi : Int))) none).run Try.prog W = .ok (.slice (some ⟨b, off + lo, none⟩) (hi - lo) (cap - lo)) W := by
  have e1 : ¬ cap < lo := by omega
  have e2 : ¬ (cap = lo) := by omega
  have e3 : ¬ (lo = cap) := by omega
  simp [go_sem, h, hn, e1, e2, e3, addr_add]
  try omega
/-- A part of a row that is read. -/
theorem rd_part {W : World} {b off n cap : Nat} {p : List UInt8} (h : Rd W 1 (.slice (some ⟨b, off, none⟩) n cap) n (bv p)) (i k c : Nat) (hi : i + k ≤ n) (hk : 0 < k) (hc : k ≤ c) : Rd W 1 (.slice (some ⟨b, off + i, none⟩) k c) k (bv ((p.drop i).take k)) := by
  have hl : p.length = n := by simpa using h.1
  obtain ⟨-, ⟨h0, _⟩ | ⟨b', off', cap', he, hc', hA⟩⟩ := h
  · omega
  injection he with e1 e2 e3
  injection e1 with e1
  injection e1 with e1 e4 e5
  subst e1 e4
  have := hA.sub i k (by rw [bv_length]; omega)
  refine ⟨by simp; omega, .inr ⟨b, off + i, c, rfl, hc, ?_⟩⟩
  rw [bv_drop, bv_take] at this
  exact this
theorem neq_str (x y : List UInt8) (w : World) : (bin .neq 9 false (.string (strOf x)) (.string (strOf y))).run Try.prog w = .ok (.bool (decide (x ≠ y))) w := by
  simp [go_sem]
  rw [Bool.eq_iff_iff]
  simp
theorem eql_str (x y : List UInt8) (w : World) : (bin .eql 9 false (.string (strOf x)) (.string (strOf y))).run Try.prog w = .ok (.bool (decide (x = y))) w := by
  simp [go_sem]
  rw [Bool.eq_iff_iff]
  simp
theorem rd_block {w : World} {v : Value} {n : Nat} {p : List UInt8} (h : Rd w 1 v n (bv p)) (h0 : 0 < n) : ∃ b off cap, n ≤ cap ∧ v = .slice (some ⟨b, off, none⟩) n cap := by
  obtain ⟨-, ⟨h0, _⟩ | ⟨b, off, cap, he, hc, _⟩⟩ := h
  · omega
  · exact ⟨b, off, cap, hc, he⟩
theorem ru_of {P : Program} {s : Sem Unit} {w w' : World} {K : World → Prop} (h : s.run P w = .ok () w') (hK : K w') : ru P s w K := by
  rw [ru_iff]
  unfold ruD
  rw [h]
  exact hK

theorem index8 {b off n cap j : Nat} (h : j < n) (W : World) : (Instr.indexAt 23 (.slice (some ⟨b, off, none⟩) n cap) (.int .i64 (j : Int))).run Try.prog W = .ok (.pointer (some ⟨b, off + j, none⟩)) W := by
  have h' : ¬ (n : Int) ≤ (j : Int) := by omega
  simp [go_sem, h, h']
/-- A byte of an own row is written over. -/
theorem own_put {W : World} {v : Value} {n : Nat} {l : List UInt8} (h : Own W 5 1 v n (bv l)) {i : Nat} (hi : i < n) (u : UInt8) : ∃ b cap, v = .slice (some ⟨b, 0, none⟩) n cap ∧ n ≤ cap ∧
    (Instr.storeAt 5 (.pointer (some ⟨b, i, none⟩)) (.int .u8 (u.toNat : Int))).run Try.prog W = .ok () (W.setCell ⟨b, i, none⟩ (.int .u8 (u.toNat : Int))) ∧
    Own (W.setCell ⟨b, i, none⟩ (.int .u8 (u.toNat : Int))) 5 1 v n (bv (l.set i u)) ∧ Mod (inSl v) W (W.setCell ⟨b, i, none⟩ (.int .u8 (u.toNat : Int))) := by
  have hl : l.length = n := by simpa using h.1
  obtain ⟨_, ⟨_, h0⟩ | ⟨b, cap, rest, rfl, hc, hh, hr⟩⟩ := h
  · omega
  · obtain ⟨C, hC⟩ : ∃ C, (bv l ++ rest).toArray = C := ⟨_, rfl⟩
    have hsz : i < C.size := by rw [← hC]; simp; omega
    refine ⟨b, cap, rfl, hc, ?_, ⟨by simp [hl], .inr ⟨b, cap, rest, rfl, hc, ?_, hr⟩⟩, (Mod.refl (inSl (.slice (some ⟨b, 0, none⟩) n cap)) W).setCell (.inl (show inSl _ b from rfl)) _ _⟩
    · have hb : hp W b = some (.cells C 5 (0, 0)) := by rw [← hC]; exact hh
      simp [go_sem, hb, hsz]
    · rw [heap_setCell, if_pos rfl, hh, setObj1_cells]
      congr 2
      apply Array.ext'
      rw [Array.toList_setIfInBounds]
      show (bv l ++ rest).set i _ = bv (l.set i u) ++ rest
      rw [List.set_append_left _ _ (by simp; omega), bv_set]

def zl (l : List UInt8) (a k : Nat) : List UInt8 := l.take a ++ (List.replicate k 0 ++ l.drop (a + k))
theorem zl_length {l : List UInt8} {a k : Nat} (h : a + k ≤ l.length) : (zl l a k).length = l.length := by simp [zl]; omega
theorem zl_set {l : List UInt8} {a k : Nat} (h : a + k < l.length) : (zl l a k).set (a + k) 0 = zl l a (k + 1) := by
  unfold zl
  have e1 : (l.take a).length = a := by simp; omega
  rw [List.set_append_right _ _ (by omega), e1, Nat.add_sub_cancel_left, List.set_append_right _ _ (by simp), List.length_replicate, Nat.sub_self]
  congr 1
  rw [List.replicate_succ', List.append_assoc]
  congr 1
  rw [List.drop_eq_getElem_cons h]
  simp [Nat.add_assoc]
theorem zl_zero (l : List UInt8) (a : Nat) : zl l a 0 = l := by simp [zl]
end Go.Proofs
