/-
  The contracts of the vote's small functions: append64, append32, get64, may.
  Conditions: the memory holds the slices.
-/
import Derived.Test.YteldcaeicgobfaaVote0
import Derived.Test.YteldcaeicgobfaaRef5
import Derived.Test.YteldcaeicgobfaaG5
import Derived.Test.YteldcaeicgobfaaVcMore
import Derived.Laws.BitsAllLaws
set_option linter.unusedSimpArgs false
set_option linter.unusedVariables false
namespace Go.Proofs
open Go Go.Vc

theorem cu8 : Try.prog.cellsOf 5 = 1 := by kernel_rfl
theorem be_get {k n j : Nat} (h : j < k) : (be k n)[j]? = some (UInt8.ofNat (n / 256 ^ (k - 1 - j))) := by
  induction k generalizing j with
  | zero => omega
  | succ k ih =>
    cases j with
    | zero => simp [be]
    | succ j =>
      simp only [be, List.getElem?_cons_succ]
      rw [ih (by omega)]
      congr 4
      omega
theorem be_take {k n j : Nat} (h : j < k) : (be k n).take (j + 1) = (be k n).take j ++ [UInt8.ofNat (n / 256 ^ (k - 1 - j))] := by
  have hl : j < (be k n).length := by rw [be_length]; exact h
  rw [List.take_succ_eq_append_getElem hl]
  congr 2
  have := be_get (n := n) h
  rw [List.getElem?_eq_getElem hl] at this
  exact Option.some.inj this

theorem bv_cells : ∀ us : List UInt8, (bv us).flatMap (·.cells.toList) = bv us
  | [] => rfl
  | u :: us => by
    show (Value.cells (Value.int .u8 u.toNat)).toList ++ (bv us).flatMap (fun v => v.cells.toList) = _
    rw [bv_cells us]
    rfl
/-- A literal of some bytes. -/
theorem litL {w : World} {K : Kont} {n : Nat} {parts : List (Nat × Value)} (us : List UInt8) (hpa : parts = us.zipIdx.map fun p => (p.2, .int .u8 p.1.toNat)) (hn : us.length = n) (hb : n ≤ 1000)
    (hK : ∀ v w', Own w' 5 1 v n (bv us) → Mod (fun _ => False) w w' → (∀ b, inSl v b → w.heap.size ≤ b) → K v w') : rx Try.prog (xLit 23 n parts) w K := by
  have e : parts = (bv us).zipIdx.map fun p => (p.2, p.1) := by
    rw [hpa, bv, List.zipIdx_map, List.map_map]
    rfl
  have hf := bv_cells us
  refine rx_lit (bv us) Try.underlying23 (elemT_of uT1) e (by simpa using hn) (fun v hv => by
    obtain ⟨u, _, rfl⟩ := List.mem_map.1 hv
    rfl) (by omega) ?_
  rw [hf]
  refine hK _ _ ⟨by simpa using hn, .inr ⟨_, n, [], rfl, Nat.le_refl _, by show hp _ _ = _; simp [go_sem], by simp, by simp⟩⟩ ((Mod.refl _ w).alloc _) fun b hb => ?_
  have : b = w.heap.size := by cases hb; rfl
  omega

set_option maxRecDepth 10000 in
theorem ca_append64 {w : World} {K : Kont} {b off n cap x : Nat} {C : Array Value} {T : TypeId} (hb : w.heap[b]? = some (.cells C T (0, 0))) (hroom : n + 8 ≤ cap) (hfit : off + n + 8 ≤ C.size) (hx : x < 18446744073709551616)
    (hK : ∀ w', w'.heap[b]? = some (.cells (lay C.toList (off + n) (bv (be 8 x))).toArray T (0, 0)) → Mod (fun b' => b' = b) w w' → K (.slice (some ⟨b, off, none⟩) (n + 8) cap) w') :
    Ca Try.prog 85 #[.slice (some ⟨b, off, none⟩) n cap, .int .u64 x] w K := by
  apply ca85
  unfold F85
  unfold L85_0
  refine loopK (fun s W => ∃ j : Nat, j ≤ 8 ∧ s = (.slice (some ⟨b, off, none⟩) (n + j) cap, .int .i64 (56 - 8 * (j : Int)), ()) ∧ W.heap[b]? = some (.cells (lay C.toList (off + n) (bv ((be 8 x).take j))).toArray T (0, 0)) ∧ Mod (fun b' => b' = b) w W)
    (fun s _ => match s.2.1 with | .int _ i => (i + 8).toNat | _ => 0) ⟨0, by omega, rfl, by simpa [lay_nil'] using hb, Mod.refl _ _⟩ ?_
  rintro ⟨_, _⟩ W ⟨j, hj, ⟨⟩, hW, mW⟩ KN hKN _
  by_cases hlt : j < 8
  · have h1 : (0 : Int) ≤ 56 - 8 * (j : Int) := by omega
    have h2 : ¬ (56 - 8 * (j : Int) < 0) := by omega
    have h3 : 8 * (j : Int) ≤ 56 := by omega
    have h4 : (56 - 8 * (j : Int)).toNat = 8 * (7 - j) := by omega
    have h5 : IntKind.i64.wrap (56 - 8 * (j : Int) - 8) = 56 - 8 * ((j + 1 : Nat) : Int) := by rw [IntKind.wrap_i64]; omega
    have h6 : IntKind.u8.wrap ((x : Int) / 2 ^ (8 * (7 - j))) = ((UInt8.ofNat (x / 256 ^ (8 - 1 - j))).toNat : Int) := by
      rw [IntKind.wrap_u8]
      have e1 : (2 : Int) ^ (8 * (7 - j)) = ((256 ^ (7 - j) : Nat) : Int) := by
        rw [Int.pow_mul]
        simp
      rw [e1, ← Int.natCast_ediv]
      simp
    simp only [go_sem]
    simp only [h1, decide_true, ifB_bool, if_true]
    simp [-Int.natCast_add, go_sem, h1, h2, h3, h4, h5]
    rw [h6]
    refine litL [UInt8.ofNat (x / 256 ^ (8 - 1 - j))] rfl rfl (by omega) fun v W2 o2 m2 n2 => ?_
    have hW2 := m2.keep hW id
    refine rx_appendIn (m := 1) Try.underlying23 Try.underlying23 cu8 hW2 (by omega) o2.rd (bv_one _) ?_ ?_
    · have : (lay C.toList (off + n) (bv ((be 8 x).take j))).length = C.toList.length := lay_length (by simp [be_length]; omega)
      rw [List.size_toArray, this]
      simp; omega
    have hlj : ((be 8 x).take j).length = j := by simp [be_length]; omega
    have el : lay (lay C.toList (off + n) (bv ((be 8 x).take j))) (off + (n + j)) (bv [UInt8.ofNat (x / 256 ^ (8 - 1 - j))]) = lay C.toList (off + n) (bv ((be 8 x).take (j + 1))) := by
      have := lay_lay (C := C.toList) (xs := bv ((be 8 x).take j)) (ys := bv [UInt8.ofNat (x / 256 ^ (8 - 1 - j))]) (o := off + n) (by simp [be_length]; omega)
      rw [bv_length, hlj, ← bv_append, ← be_take hlt] at this
      rw [← Nat.add_assoc]
      exact this
    rw [show (lay C.toList (off + n) (bv ((be 8 x).take j))).toArray.toList = lay C.toList (off + n) (bv ((be 8 x).take j)) from rfl, el]
    refine hKN _ _ ⟨j + 1, by omega, rfl, ?_, (mW.on m2 fun _ h => h.elim).setRow (.inl rfl) _⟩ (by simp; omega)
    rw [heap_setRow, if_pos rfl, hW2]
  · have : j = 8 := by omega
    subst this
    simp [go_sem]
    refine hK _ ?_ mW
    rwa [List.take_of_length_le (by rw [be_length]; exact Nat.le_refl _)] at hW

theorem ca_append32 {w : World} {K : Kont} {b off n cap x : Nat} {C : Array Value} {T : TypeId} (hb : w.heap[b]? = some (.cells C T (0, 0))) (hroom : n + 4 ≤ cap) (hfit : off + n + 4 ≤ C.size) (hx : x < 4294967296)
    (hK : ∀ w', w'.heap[b]? = some (.cells (lay C.toList (off + n) (bv (be 4 x))).toArray T (0, 0)) → Mod (fun b' => b' = b) w w' → K (.slice (some ⟨b, off, none⟩) (n + 4) cap) w') :
    Ca Try.prog 86 #[.slice (some ⟨b, off, none⟩) n cap, .int .u32 x] w K := by
  apply ca86
  unfold F86
  have hu : ∀ k : Nat, IntKind.u8.wrap ((x : Int) / ((256 ^ k : Nat) : Int)) = ((UInt8.ofNat (x / 256 ^ k)).toNat : Int) := by
    intro k
    rw [IntKind.wrap_u8, ← Int.natCast_ediv]
    simp
  have h3 : IntKind.u8.wrap ((x : Int) / 16777216) = ((UInt8.ofNat (x / 256 ^ 3)).toNat : Int) := hu 3
  have h2 : IntKind.u8.wrap ((x : Int) / 65536) = ((UInt8.ofNat (x / 256 ^ 2)).toNat : Int) := hu 2
  have h1 : IntKind.u8.wrap ((x : Int) / 256) = ((UInt8.ofNat (x / 256 ^ 1)).toNat : Int) := hu 1
  have h0 : IntKind.u8.wrap (x : Int) = ((UInt8.ofNat (x / 256 ^ 0)).toNat : Int) := by
    have := hu 0
    simpa using this
  simp [go_sem]
  rw [h3, h2, h1, h0]
  refine litL (be 4 x) rfl (be_length 4 x) (by omega) fun v W2 o2 m2 n2 => ?_
  have hW2 := m2.keep hb id
  refine rx_appendIn (m := 4) Try.underlying23 Try.underlying23 cu8 hW2 hroom o2.rd (bv_one _) hfit ?_
  refine hK _ ?_ ((m2.mono (G := fun b' => b' = b) fun _ _ h => h.elim).setRow (b := b) (.inl rfl) _)
  rw [heap_setRow, if_pos rfl, hW2]

theorem or_low (a : Nat) (c : UInt8) : (a * 256) ||| c.toNat = a * 256 + c.toNat := by
  have := Nat.two_pow_add_eq_or_of_lt (i := 8) (b := c.toNat) (by have := c.toNat_lt; omega) a
  rw [Nat.mul_comm a 256]
  exact this.symm
theorem ofB_take (l : List UInt8) (j : Nat) (h : j < l.length) : ofB (l.take (j + 1)) = ofB (l.take j) * 256 + l[j].toNat := by
  rw [List.take_succ_eq_append_getElem h]
  unfold ofB
  rw [List.foldl_append]
  rfl

set_option maxRecDepth 10000 in
theorem ca_get64 {w : World} {K : Kont} {v : Value} {n : Nat} {bs : List UInt8} (h : Rd w 1 v n (bv bs)) (hn : 8 ≤ n) (hK : K (.int .u64 (ofB (bs.take 8))) w) : Ca Try.prog 84 #[v] w K := by
  have hl : bs.length = n := by simpa using h.1
  obtain ⟨hl', ⟨h0, _⟩ | ⟨b, off, cap, rfl, hc, hAt⟩⟩ := h
  · omega
  have hc8 : 8 ≤ cap := by omega
  have hA8 := hAt.sub 0 8 (by simp; omega)
  simp only [List.drop_zero, Nat.add_zero] at hA8
  rw [bv_take] at hA8
  obtain ⟨C, e, fz, hC, hCg⟩ := hA8.get
  apply ca84
  unfold F84
  have h8 : (8 : Int) ≤ cap := by omega
  simp [go_sem, hc8, h8]
  unfold L84_0
  have hl8 : (bs.take 8).length = 8 := by simp; omega
  refine loopK (fun s W => W = w ∧ ∃ j : Nat, j ≤ 8 ∧ s = (.int .u64 (ofB ((bs.take 8).take j)), .int .i64 j, ())) (fun s _ => match s.2.1 with | .int _ i => 8 - i.toNat | _ => 0) ⟨rfl, 0, by omega, rfl⟩ ?_
  rintro ⟨_, _⟩ W ⟨rfl, j, hj, ⟨⟩⟩ KN hKN _
  have hw1 : IntKind.i64.wrap ((j : Int) + 1) = ((j + 1 : Nat) : Int) := by rw [IntKind.wrap_i64]; omega
  by_cases hlt : j < 8
  · have hjl : j < (bs.take 8).length := by omega
    have hCj : C[off + j]? = some (.int .u8 (bs.take 8)[j].toNat) := hCg j _ (by rw [bv, List.getElem?_map, List.getElem?_eq_getElem hjl]; rfl)
    have hlt' : (j : Int) < 8 := by omega
    simp [-Int.natCast_add, go_sem, hlt, hlt', hC, hCj, hw1]
    have hlt2 : ofB ((bs.take 8).take j) < 72057594037927936 := by
      have h1 := ofB_lt ((bs.take 8).take j)
      have h2 : ((bs.take 8).take j).length ≤ 7 := by simp; omega
      have h3 : 256 ^ ((bs.take 8).take j).length ≤ 256 ^ 7 := Nat.pow_le_pow_right (by omega) h2
      omega
    have hc := ((bs.take 8)[j]).toNat_lt
    have e1 : IntKind.u64.wrap ((ofB ((bs.take 8).take j) : Int) * 256) = ((ofB ((bs.take 8).take j) * 256 : Nat) : Int) := by rw [IntKind.wrap_u64]; omega
    have e2 : IntKind.u64.wrap (((bs.take 8)[j].toNat : Nat) : Int) = (((bs.take 8)[j].toNat : Nat) : Int) := by rw [IntKind.wrap_u64]; omega
    have e3 : bits .or .u64 (IntKind.u64.wrap ((ofB ((bs.take 8).take j) : Int) * 256)) (IntKind.u64.wrap (((bs.take 8)[j].toNat : Nat) : Int)) = ((ofB ((bs.take 8).take (j + 1)) : Nat) : Int) := by
      rw [e1, e2, u64_or_nat _ _ (by omega) (by omega), or_low, ofB_take _ _ hjl]
    have e4 : bs[j]'(by omega) = (bs.take 8)[j] := by simp
    rw [e4, e3]
    exact hKN _ _ ⟨rfl, j + 1, by omega, rfl⟩ (by simp; omega)
  · have : j = 8 := by omega
    subst this
    simp [go_sem]
    rwa [List.take_of_length_le (by omega)]
end Go.Proofs
