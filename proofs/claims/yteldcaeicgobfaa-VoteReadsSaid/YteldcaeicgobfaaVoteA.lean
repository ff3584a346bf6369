/-
  A mark's form as plain bytes.
  The contracts of the vote's small functions: append64, append32, get64, may.
  The contracts of crc.table and crc.Sum.
  The contracts of vote.may, none, Mark, Number and written.
  The contract of vote.written.
  The contract of vote.read.
  Conditions: where they ask for any, each theorem names them.
-/
import Derived.Test.YteldcaeicgobfaaSync1
import Derived.Test.YteldcaeicgobfaaRef5
import Derived.Test.YteldcaeicgobfaaG5
import Derived.Test.YteldcaeicgobfaaVcMore
import Derived.Laws.BitsAllLaws
set_option linter.unusedSimpArgs false
set_option linter.unusedVariables false
namespace Go.Proofs
open Go Go.Vc

/-- k bytes of a number, the highest first. -/
def be : Nat → Nat → List UInt8
  | 0, _ => []
  | k + 1, n => UInt8.ofNat (n / 256 ^ k) :: be k n
theorem be_length : ∀ (k n : Nat), (be k n).length = k
  | 0, _ => rfl
  | k + 1, n => by simp [be, be_length k n]
def ofB (l : List UInt8) : Nat := l.foldl (fun n c => n * 256 + c.toNat) 0
theorem ofB_acc : ∀ (l : List UInt8) (a : Nat), l.foldl (fun n c => n * 256 + c.toNat) a = a * 256 ^ l.length + ofB l
  | [], a => by simp [ofB]
  | c :: l, a => by
    have h1 := ofB_acc l (a * 256 + c.toNat)
    have h2 := ofB_acc l c.toNat
    unfold ofB at *
    simp only [List.foldl_cons, Nat.zero_mul, Nat.zero_add, List.length_cons] at *
    rw [h1, h2, Nat.pow_succ, Nat.add_mul, Nat.mul_assoc, Nat.mul_comm 256, Nat.add_assoc]
theorem ofB_cons (c : UInt8) (l : List UInt8) : ofB (c :: l) = c.toNat * 256 ^ l.length + ofB l := by
  have := ofB_acc l c.toNat
  unfold ofB at *
  simpa using this
theorem ofB_lt : ∀ l : List UInt8, ofB l < 256 ^ l.length
  | [] => by simp [ofB]
  | c :: l => by
    rw [ofB_cons, List.length_cons, Nat.pow_succ]
    have h1 := ofB_lt l
    have h2 := c.toNat_lt
    have : (c.toNat + 1) * 256 ^ l.length ≤ 256 * 256 ^ l.length := Nat.mul_le_mul_right _ h2
    rw [Nat.add_mul] at this
    rw [Nat.mul_comm (256 ^ l.length)]
    omega
theorem ofB_be : ∀ (k n : Nat), ofB (be k n) = n % 256 ^ k
  | 0, n => by simp [be, ofB, Nat.mod_one]
  | k + 1, n => by
    rw [be, ofB_cons, be_length, ofB_be k n]
    have h1 : (UInt8.ofNat (n / 256 ^ k)).toNat = n / 256 ^ k % 256 := by simp
    rw [h1, Nat.pow_succ, Nat.mod_mul, Nat.add_comm, Nat.mul_comm]
theorem be_inj {k a b : Nat} (ha : a < 256 ^ k) (hb : b < 256 ^ k) (h : be k a = be k b) : a = b := by
  have := congrArg ofB h
  rwa [ofB_be, ofB_be, Nat.mod_eq_of_lt ha, Nat.mod_eq_of_lt hb] at this

structure MarkM where
  term : Nat
  for_ : Int
  file : UInt8
  base : Nat
  bt : Nat
deriving DecidableEq
def MarkM.ok (m : MarkM) : Prop := m.term < 18446744073709551616 ∧ -128 ≤ m.for_ ∧ m.for_ < 128 ∧ m.base < 18446744073709551616 ∧ m.bt < 18446744073709551616
def mark0 : MarkM := ⟨0, 0, 0, 0, 0⟩
def MarkM.may (m : MarkM) : Bool := decide (-1 ≤ m.for_ ∧ m.for_ ≤ 6 ∧ m.file.toNat ≤ 1)
def forB (x : Int) : UInt8 := UInt8.ofNat ((x + 1) % 256).toNat

def hdr (n : Nat) (m : MarkM) : List UInt8 := be 8 n ++ (be 8 m.term ++ (forB m.for_ :: m.file :: (be 8 m.base ++ be 8 m.bt)))
theorem hdr_length (n : Nat) (m : MarkM) : (hdr n m).length = 34 := by simp [hdr, be_length]
theorem hdr_inj {n n' : Nat} {m m' : MarkM} (hn : n < 18446744073709551616) (hn' : n' < 18446744073709551616) (hm : m.ok) (hm' : m'.ok) (h : hdr n m = hdr n' m') : n = n' ∧ m = m' := by
  unfold hdr at h
  obtain ⟨h1, h⟩ := List.append_inj h (by simp [be_length])
  obtain ⟨h2, h⟩ := List.append_inj h (by simp [be_length])
  simp only [List.cons.injEq] at h
  obtain ⟨h3, h4, h⟩ := h
  obtain ⟨h5, h6⟩ := List.append_inj h (by simp [be_length])
  obtain ⟨a1, a2, a3, a4, a5⟩ := hm
  obtain ⟨b1, b2, b3, b4, b5⟩ := hm'
  refine ⟨be_inj (k := 8) hn hn' h1, ?_⟩
  have e1 := be_inj (k := 8) a1 b1 h2
  have e2 := be_inj (k := 8) a4 b4 h5
  have e3 := be_inj (k := 8) a5 b5 h6
  have e4 : m.for_ = m'.for_ := by
    have := congrArg UInt8.toNat h3
    simp [forB] at this
    omega
  cases m; cases m'
  simp_all
end Go.Proofs

namespace Go.Proofs
open Go Go.Vc

theorem cu8 : Try.prog.cellsOf 5 = 1 := by kernel_rfl
theorem be_get {k n j : Nat} (h : j < k) : (be k n)[j]? = some (UInt8.ofNat (n / 256 ^ (k - 1 - j))) := by
  induction k generalizing j with
  | zero => omega
  | succ k ih =>
    cases j with
    | zero => simp [be]
    | succ j =>
      simp only [be, List.getElem?_cons_succ]
      rw [ih (by omega)]
      congr 4
      omega
theorem be_take {k n j : Nat} (h : j < k) : (be k n).take (j + 1) = (be k n).take j ++ [UInt8.ofNat (n / 256 ^ (k - 1 - j))] := by
  have hl : j < (be k n).length := by rw [be_length]; exact h
  rw [List.take_succ_eq_append_getElem hl]
  congr 2
  have := be_get (n := n) h
  rw [List.getElem?_eq_getElem hl] at this
  exact Option.some.inj this

theorem bv_cells : ∀ us : List UInt8, (bv us).flatMap (·.cells.toList) = bv us
  | [] => rfl
  | u :: us => by
    show (Value.cells (Value.int .u8 u.toNat)).toList ++ (bv us).flatMap (fun v => v.cells.toList) = _
    rw [bv_cells us]
    rfl
/-- A literal of some bytes. -/
theorem litL {w : World} {K : Kont} {n : Nat} {parts : List (Nat × Value)} (us : List UInt8) (hpa : parts = us.zipIdx.map fun p => (p.2, .int .u8 p.1.toNat)) (hn : us.length = n) (hb : n ≤ 1000)
    (hK : ∀ v w', Own w' 5 1 v n (bv us) → Mod (fun _ => False) w w' → (∀ b, inSl v b → w.heap.size ≤ b) → K v w') : rx Try.prog (xLit 23 n parts) w K := by
  have e : parts = (bv us).zipIdx.map fun p => (p.2, p.1) := by
    rw [hpa, bv, List.zipIdx_map, List.map_map]
    rfl
  have hf := bv_cells us
  refine rx_lit (bv us) Try.underlying23 (elemT_of uT1) e (by simpa using hn) (fun v hv => by
    obtain ⟨u, _, rfl⟩ := List.mem_map.1 hv
    rfl) (by omega) ?_
  rw [hf]
  refine hK _ _ ⟨by simpa using hn, .inr ⟨_, n, [], rfl, Nat.le_refl _, by show hp _ _ = _; simp [go_sem], by simp, by simp⟩⟩ ((Mod.refl _ w).alloc _) fun b hb => ?_
  have : b = w.heap.size := by cases hb; rfl
  omega

set_option maxRecDepth 10000 in
theorem ca_append64 {w : World} {K : Kont} {b off n cap x : Nat} {C : Array Value} {T : TypeId} (hb : w.heap[b]? = some (.cells C T (0, 0))) (hroom : n + 8 ≤ cap) (hfit : off + n + 8 ≤ C.size) (hx : x < 18446744073709551616)
    (hK : ∀ w', w'.heap[b]? = some (.cells (lay C.toList (off + n) (bv (be 8 x))).toArray T (0, 0)) → Mod (fun b' => b' = b) w w' → K (.slice (some ⟨b, off, none⟩) (n + 8) cap) w') :
    Ca Try.prog 85 #[.slice (some ⟨b, off, none⟩) n cap, .int .u64 x] w K := by
  apply ca85
  unfold F85
  unfold L85_0
  refine loopK (fun s W => ∃ j : Nat, j ≤ 8 ∧ s = (.slice (some ⟨b, off, none⟩) (n + j) cap, .int .i64 (56 - 8 * (j : Int)), ()) ∧ W.heap[b]? = some (.cells (lay C.toList (off + n) (bv ((be 8 x).take j))).toArray T (0, 0)) ∧ Mod (fun b' => b' = b) w W)
    (fun s _ => match s.2.1 with | .int _ i => (i + 8).toNat | _ => 0) ⟨0, by omega, rfl, by simpa [lay_nil'] using hb, Mod.refl _ _⟩ ?_
  rintro ⟨_, _⟩ W ⟨j, hj, ⟨⟩, hW, mW⟩ KN hKN _
  by_cases hlt : j < 8
  · have h1 : (0 : Int) ≤ 56 - 8 * (j : Int) := by omega
    have h2 : ¬ (56 - 8 * (j : Int) < 0) := by omega
    have h3 : 8 * (j : Int) ≤ 56 := by omega
    have h4 : (56 - 8 * (j : Int)).toNat = 8 * (7 - j) := by omega
    have h5 : IntKind.i64.wrap (56 - 8 * (j : Int) - 8) = 56 - 8 * ((j + 1 : Nat) : Int) := by rw [IntKind.wrap_i64]; omega
    have h6 : IntKind.u8.wrap ((x : Int) / 2 ^ (8 * (7 - j))) = ((UInt8.ofNat (x / 256 ^ (8 - 1 - j))).toNat : Int) := by
      rw [IntKind.wrap_u8]
      have e1 : (2 : Int) ^ (8 * (7 - j)) = ((256 ^ (7 - j) : Nat) : Int) := by
        rw [Int.pow_mul]
        simp
      rw [e1, ← Int.natCast_ediv]
      simp
    simp only [go_sem]
    simp only [h1, decide_true, ifB_bool, if_true]
    simp [-Int.natCast_add, go_sem, h1, h2, h3, h4, h5]
    rw [h6]
    refine litL [UInt8.ofNat (x / 256 ^ (8 - 1 - j))] rfl rfl (by omega) fun v W2 o2 m2 n2 => ?_
    have hW2 := m2.keep hW id
    refine rx_appendIn (m := 1) Try.underlying23 Try.underlying23 cu8 hW2 (by omega) o2.rd (bv_one _) ?_ ?_
    · have : (lay C.toList (off + n) (bv ((be 8 x).take j))).length = C.toList.length := lay_length (by simp [be_length]; omega)
      rw [List.size_toArray, this]
      simp; omega
    have hlj : ((be 8 x).take j).length = j := by simp [be_length]; omega
    have el : lay (lay C.toList (off + n) (bv ((be 8 x).take j))) (off + (n + j)) (bv [UInt8.ofNat (x / 256 ^ (8 - 1 - j))]) = lay C.toList (off + n) (bv ((be 8 x).take (j + 1))) := by
      have := lay_lay (C := C.toList) (xs := bv ((be 8 x).take j)) (ys := bv [UInt8.ofNat (x / 256 ^ (8 - 1 - j))]) (o := off + n) (by simp [be_length]; omega)
      rw [bv_length, hlj, ← bv_append, ← be_take hlt] at this
      rw [← Nat.add_assoc]
      exact this
    rw [show (lay C.toList (off + n) (bv ((be 8 x).take j))).toArray.toList = lay C.toList (off + n) (bv ((be 8 x).take j)) from rfl, el]
    refine hKN _ _ ⟨j + 1, by omega, rfl, ?_, (mW.on m2 fun _ h => h.elim).setRow (.inl rfl) _⟩ (by simp; omega)
    rw [heap_setRow, if_pos rfl, hW2]
  · have : j = 8 := by omega
    subst this
    simp [go_sem]
    refine hK _ ?_ mW
    rwa [List.take_of_length_le (by rw [be_length]; exact Nat.le_refl _)] at hW

theorem ca_append32 {w : World} {K : Kont} {b off n cap x : Nat} {C : Array Value} {T : TypeId} (hb : w.heap[b]? = some (.cells C T (0, 0))) (hroom : n + 4 ≤ cap) (hfit : off + n + 4 ≤ C.size) (hx : x < 4294967296)
    (hK : ∀ w', w'.heap[b]? = some (.cells (lay C.toList (off + n) (bv (be 4 x))).toArray T (0, 0)) → Mod (fun b' => b' = b) w w' → K (.slice (some ⟨b, off, none⟩) (n + 4) cap) w') :
    Ca Try.prog 86 #[.slice (some ⟨b, off, none⟩) n cap, .int .u32 x] w K := by
  apply ca86
  unfold F86
  have hu : ∀ k : Nat, IntKind.u8.wrap ((x : Int) / ((256 ^ k : Nat) : Int)) = ((UInt8.ofNat (x / 256 ^ k)).toNat : Int) := by
    intro k
    rw [IntKind.wrap_u8, ← Int.natCast_ediv]
    simp
  have h3 : IntKind.u8.wrap ((x : Int) / 16777216) = ((UInt8.ofNat (x / 256 ^ 3)).toNat : Int) := hu 3
  have h2 : IntKind.u8.wrap ((x : Int) / 65536) = ((UInt8.ofNat (x / 256 ^ 2)).toNat : Int) := hu 2
  have h1 : IntKind.u8.wrap ((x : Int) / 256) = ((UInt8.ofNat (x / 256 ^ 1)).toNat : Int) := hu 1
  have h0 : IntKind.u8.wrap (x : Int) = ((UInt8.ofNat (x / 256 ^ 0)).toNat : Int) := by
    have := hu 0
    simpa using this
  simp [go_sem]
  rw [h3, h2, h1, h0]
  refine litL (be 4 x) rfl (be_length 4 x) (by omega) fun v W2 o2 m2 n2 => ?_
  have hW2 := m2.keep hb id
  refine rx_appendIn (m := 4) Try.underlying23 Try.underlying23 cu8 hW2 hroom o2.rd (bv_one _) hfit ?_
  refine hK _ ?_ ((m2.mono (G := fun b' => b' = b) fun _ _ h => h.elim).setRow (b := b) (.inl rfl) _)
  rw [heap_setRow, if_pos rfl, hW2]

theorem or_low (a : Nat) (c : UInt8) : (a * 256) ||| c.toNat = a * 256 + c.toNat := by
  have := Nat.two_pow_add_eq_or_of_lt (i := 8) (b := c.toNat) (by have := c.toNat_lt; omega) a
  rw [Nat.mul_comm a 256]
  exact this.symm
theorem ofB_take (l : List UInt8) (j : Nat) (h : j < l.length) : ofB (l.take (j + 1)) = ofB (l.take j) * 256 + l[j].toNat := by
  rw [List.take_succ_eq_append_getElem h]
  unfold ofB
  rw [List.foldl_append]
  rfl

set_option maxRecDepth 10000 in
theorem ca_get64 {w : World} {K : Kont} {v : Value} {n : Nat} {bs : List UInt8} (h : Rd w 1 v n (bv bs)) (hn : 8 ≤ n) (hK : K (.int .u64 (ofB (bs.take 8))) w) : Ca Try.prog 84 #[v] w K := by
  have hl : bs.length = n := by simpa using h.1
  obtain ⟨hl', ⟨h0, _⟩ | ⟨b, off, cap, rfl, hc, hAt⟩⟩ := h
  · omega
  have hc8 : 8 ≤ cap := by omega
  have hA8 := hAt.sub 0 8 (by simp; omega)
  simp only [List.drop_zero, Nat.add_zero] at hA8
  rw [bv_take] at hA8
  obtain ⟨C, e, fz, hC, hCg⟩ := hA8.get
  apply ca84
  unfold F84
  have h8 : (8 : Int) ≤ cap := by omega
  simp [go_sem, hc8, h8]
  unfold L84_0
  have hl8 : (bs.take 8).length = 8 := by simp; omega
  refine loopK (fun s W => W = w ∧ ∃ j : Nat, j ≤ 8 ∧ s = (.int .u64 (ofB ((bs.take 8).take j)), .int .i64 j, ())) (fun s _ => match s.2.1 with | .int _ i => 8 - i.toNat | _ => 0) ⟨rfl, 0, by omega, rfl⟩ ?_
  rintro ⟨_, _⟩ W ⟨rfl, j, hj, ⟨⟩⟩ KN hKN _
  have hw1 : IntKind.i64.wrap ((j : Int) + 1) = ((j + 1 : Nat) : Int) := by rw [IntKind.wrap_i64]; omega
  by_cases hlt : j < 8
  · have hjl : j < (bs.take 8).length := by omega
    have hCj : C[off + j]? = some (.int .u8 (bs.take 8)[j].toNat) := hCg j _ (by rw [bv, List.getElem?_map, List.getElem?_eq_getElem hjl]; rfl)
    have hlt' : (j : Int) < 8 := by omega
    simp [-Int.natCast_add, go_sem, hlt, hlt', hC, hCj, hw1]
    have hlt2 : ofB ((bs.take 8).take j) < 72057594037927936 := by
      have h1 := ofB_lt ((bs.take 8).take j)
      have h2 : ((bs.take 8).take j).length ≤ 7 := by simp; omega
      have h3 : 256 ^ ((bs.take 8).take j).length ≤ 256 ^ 7 := Nat.pow_le_pow_right (by omega) h2
      omega
    have hc := ((bs.take 8)[j]).toNat_lt
    have e1 : IntKind.u64.wrap ((ofB ((bs.take 8).take j) : Int) * 256) = ((ofB ((bs.take 8).take j) * 256 : Nat) : Int) := by rw [IntKind.wrap_u64]; omega
    have e2 : IntKind.u64.wrap (((bs.take 8)[j].toNat : Nat) : Int) = (((bs.take 8)[j].toNat : Nat) : Int) := by rw [IntKind.wrap_u64]; omega
    have e3 : bits .or .u64 (IntKind.u64.wrap ((ofB ((bs.take 8).take j) : Int) * 256)) (IntKind.u64.wrap (((bs.take 8)[j].toNat : Nat) : Int)) = ((ofB ((bs.take 8).take (j + 1)) : Nat) : Int) := by
      rw [e1, e2, u64_or_nat _ _ (by omega) (by omega), or_low, ofB_take _ _ hjl]
    have e4 : bs[j]'(by omega) = (bs.take 8)[j] := by simp
    rw [e4, e3]
    exact hKN _ _ ⟨rfl, j + 1, by omega, rfl⟩ (by simp; omega)
  · have : j = 8 := by omega
    subst this
    simp [go_sem]
    rwa [List.take_of_length_le (by omega)]
end Go.Proofs

namespace Go.Proofs
open Go Go.Vc

theorem rdW_of {P : Program} {s : Sem Value} {w : World} {K : Value → Prop} {v : Value} (h : s.run P w = .ok v w) (hK : K v) : rdW P s w K := by
  rw [rdW_iff]
  unfold rdWD
  rw [h]
  exact ⟨rfl, hK⟩
theorem rdW_big {P : Program} {t : TypeId} {w : World} {K : Value → Prop} {b off : Nat} (cs : List Value) (n : Nat) (h0 : isAggT P t = true) (hn : P.cellsOf t = n + 1) (hl : cs.length = n + 1) (h : At w b off cs) (hK : K (.agg cs.toArray)) :
    rdW P (Instr.loadAt t (.pointer (some ⟨b, off, none⟩))) w K := rdW_of (run_bigS h0 hn hl h) hK

def crcBit (x : Nat) : Nat := if x % 2 = 1 then (x / 2) ^^^ 3988292384 else x / 2
def crcBits : Nat → Nat → Nat
  | 0, x => x
  | k + 1, x => crcBit (crcBits k x)
theorem crcBit_lt {x : Nat} (h : x < 4294967296) : crcBit x < 4294967296 := by
  unfold crcBit
  split
  · exact Nat.xor_lt_two_pow (n := 32) (by omega) (by omega)
  · omega
theorem crcBits_lt {x : Nat} (h : x < 4294967296) : ∀ k, crcBits k x < 4294967296
  | 0 => h
  | k + 1 => crcBit_lt (crcBits_lt h k)
def tabV (i : Nat) : Nat := crcBits 8 i
def tabL (n : Nat) : List Nat := (List.range 256).map fun i => if i < n then tabV i else 0
def tabC (n : Nat) : List Value := (tabL n).map fun x : Nat => .int .u32 (x : Int)
theorem tabL_length (n : Nat) : (tabL n).length = 256 := by simp [tabL]
theorem tabC_length (n : Nat) : (tabC n).length = 256 := by simp [tabC, tabL_length]
theorem tabL_succ (n : Nat) (h : n < 256) : (tabL n).set n (tabV n) = tabL (n + 1) := by
  apply List.ext_getElem?
  intro j
  rw [List.getElem?_set]
  simp only [tabL, List.getElem?_map, List.length_map, List.length_range]
  by_cases hj : j < 256
  · rw [List.getElem?_range hj]
    by_cases e : n = j
    · subst e; simp [h]
    · simp only [e, if_false, Option.map_some]
      congr 2
      apply propext
      omega
  · have : (List.range 256)[j]? = none := List.getElem?_eq_none (by simp; omega)
    rw [this]
    have : n ≠ j := by omega
    simp [this]
theorem tabC_succ (n : Nat) (h : n < 256) : (tabC n).set n (.int .u32 (tabV n)) = tabC (n + 1) := by
  unfold tabC
  rw [← tabL_succ n h, List.map_set]
theorem tabC_one (n : Nat) : (tabC n).all (·.oneCell') = true := by simp [tabC, Value.oneCell']
theorem tT1 : isAggT Try.prog 157 = true := by kernel_rfl
theorem tT2 : Try.prog.cellsOf 157 = 255 + 1 := by kernel_rfl
theorem tT3 : hasZero Try.prog 157 = true := by kernel_rfl
theorem tT4 : zeroC Try.prog 157 = tabC 0 := by kernel_rfl

set_option maxRecDepth 10000 in
theorem ca_table {w : World} {K : Kont} (hK : ∀ w', Mod (fun _ => False) w w' → K (.agg (tabC 256).toArray) w') : Ca Try.prog 99 #[] w K := by
  apply ca99
  unfold F99
  refine rx_bigA tT3 ?_
  rw [tT4]
  have hA : hp (w.alloc (.cells (tabC 0).toArray 157)) w.heap.size = some (.cells (tabC 0).toArray 157 (0, 0)) := by simp only [hp_alloc, if_pos]
  have mA : Mod (fun _ => False) w (w.alloc (.cells (tabC 0).toArray 157)) := (Mod.refl _ w).alloc _
  generalize (w.alloc (.cells (tabC 0).toArray 157)) = W0 at hA mA
  unfold L99_1
  refine loopK (fun s W => ∃ i : Nat, i ≤ 256 ∧ s = (.int .i64 i, ()) ∧ Mod (fun _ => False) w W ∧ hp W w.heap.size = some (.cells (tabC i).toArray 157 (0, 0)))
    (fun s _ => match s.1 with | .int _ i => 256 - i.toNat | _ => 0) ⟨0, by omega, rfl, mA, hA⟩ ?_
  clear hA mA
  rintro ⟨_, _⟩ W ⟨i, hi, ⟨⟩, mW, hW⟩ KN hKN _
  have hw1 : IntKind.i64.wrap ((i : Int) + 1) = ((i + 1 : Nat) : Int) := by rw [IntKind.wrap_i64]; omega
  by_cases hlt : i < 256
  · have hlt' : (i : Int) < 256 := by omega
    have hw0 : IntKind.u32.wrap (i : Int) = (i : Int) := by rw [IntKind.wrap_u32']; omega
    simp [-Int.natCast_add, go_sem, hlt', hw0]
    unfold L99_0
    refine loopK (fun s W' => W' = W ∧ ∃ k : Nat, k ≤ 8 ∧ s = (.int .u32 (crcBits k i : Nat), .int .i64 k, ())) (fun s _ => match s.2.1 with | .int _ i => 8 - i.toNat | _ => 0) ⟨rfl, 0, by omega, rfl⟩ ?_
    rintro ⟨_, _⟩ W' ⟨rfl, k, hk, ⟨⟩⟩ KN2 hKN2 _
    have hx := crcBits_lt (x := i) (by omega) k
    have hw2 : IntKind.i64.wrap ((k : Int) + 1) = ((k + 1 : Nat) : Int) := by rw [IntKind.wrap_i64]; omega
    have hand : bits .and .u32 ((crcBits k i : Nat) : Int) 1 = ((crcBits k i % 2 : Nat) : Int) := by
      have := u32_and_nat (crcBits k i) 1 hx (by omega)
      rw [Nat.and_one_is_mod] at this
      exact this
    have hxor : bits .xor .u32 (((crcBits k i : Nat) : Int) / 2) 3988292384 = ((((crcBits k i / 2) ^^^ 3988292384) : Nat) : Int) := u32_xor_nat (crcBits k i / 2) 3988292384 (by omega) (by omega)
    by_cases hlt2 : k < 8
    · have hlt2' : (k : Int) < 8 := by omega
      simp [-Int.natCast_add, -Int.natCast_emod, go_sem, hlt2', hand, hxor, hw2]
      by_cases hodd : crcBits k i % 2 = 1
      · have h1 : ((crcBits k i % 2 : Nat) : Int) = 1 := by omega
        simp only [h1, if_true]
        exact hKN2 _ _ ⟨rfl, k + 1, by omega, by simp [crcBits, crcBit, hodd]⟩ (by simp; omega)
      · have h1 : ¬ ((crcBits k i % 2 : Nat) : Int) = 1 := by omega
        simp only [h1, if_false]
        exact hKN2 _ _ ⟨rfl, k + 1, by omega, by simp [crcBits, crcBit, hodd]⟩ (by simp; omega)
    · have : k = 8 := by omega
      subst this
      obtain ⟨CC, hCC⟩ : ∃ CC, (tabC i).toArray = CC := ⟨_, rfl⟩
      have hW' : hp W' w.heap.size = some (.cells CC 157 (0, 0)) := by rw [← hCC]; exact hW
      have hsz : CC.size = 256 := by rw [← hCC]; simp [tabC_length]
      simp [-Int.natCast_add, go_sem, hlt, hlt', hW', hsz, hw1]
      refine hKN _ _ ⟨i + 1, by omega, rfl, mW.setCell (.inr (Nat.le_refl _)) _ _, ?_⟩ (by simp; omega)
      simp [go_sem, hW']
      rw [← hCC]
      apply Array.ext'
      rw [Array.toList_setIfInBounds]
      exact tabC_succ i hlt
  · have : i = 256 := by omega
    subst this
    simp [go_sem]
    refine rx_bigS (tabC 256) 255 tT1 tT2 (tabC_length 256) ⟨_, _, _, hW, by simp [tabC_length], by simp⟩ ?_
    refine rux_bigU tT2 (tabC_length 256) hW (by rw [List.size_toArray, tabC_length]; omega) (tabC_one 256) ?_
    have hlay : lay (tabC 256).toArray.toList 0 (tabC 256) = tabC 256 := lay_all rfl
    rw [hlay]
    have h2 : hp (W.setRow w.heap.size (tabC 256).toArray) w.heap.size = some (.cells (tabC 256).toArray 157 (0, 0)) := by
      rw [hp_setRow, if_pos rfl, hW]
    refine rdX_bigS (b := w.heap.size) (off := 0) (tabC 256) 255 tT1 tT2 (tabC_length 256) ⟨_, _, _, h2, by rw [List.size_toArray]; omega, by simp⟩ ?_
    exact hK _ (mW.setRow (.inr (Nat.le_refl _)) _)

def crcStep (x : Nat) (b : UInt8) : Nat := tabV ((x % 256) ^^^ b.toNat) ^^^ (x / 256)
def crcRun (l : List UInt8) : Nat := l.foldl crcStep 4294967295
def crcOf (l : List UInt8) : Nat := 4294967295 ^^^ crcRun l
theorem crcStep_lt {x : Nat} (h : x < 4294967296) (b : UInt8) : crcStep x b < 4294967296 := by
  have h1 : (x % 256) ^^^ b.toNat < 256 := Nat.xor_lt_two_pow (n := 8) (by omega) (by have := b.toNat_lt; omega)
  exact Nat.xor_lt_two_pow (n := 32) (crcBits_lt (by omega) 8) (by omega)
theorem crcFold_lt : ∀ (l : List UInt8) (x : Nat), x < 4294967296 → l.foldl crcStep x < 4294967296
  | [], x, h => h
  | b :: l, x, h => crcFold_lt l _ (crcStep_lt h b)
theorem crcRun_lt (l : List UInt8) : crcRun l < 4294967296 := crcFold_lt l _ (by omega)
theorem crcOf_lt (l : List UInt8) : crcOf l < 4294967296 := Nat.xor_lt_two_pow (n := 32) (by omega) (crcRun_lt l)
theorem crcRun_take (l : List UInt8) (j : Nat) (h : j < l.length) : crcRun (l.take (j + 1)) = crcStep (crcRun (l.take j)) l[j] := by
  rw [List.take_succ_eq_append_getElem h]
  unfold crcRun
  rw [List.foldl_append]
  rfl

set_option maxRecDepth 10000 in
/-- The sum of one row of bytes. -/
theorem ca_crc {w : World} {K : Kont} {v sl : Value} {bs : List UInt8} (hv : Rd w 1 v 1 [sl]) (hs : Rd w 1 sl bs.length (bv bs)) (hn : bs.length < 4398046511104) (hK : ∀ w', Mod (fun _ => False) w w' → K (.int .u32 (crcOf bs)) w') : Ca Try.prog 87 #[v] w K := by
  obtain ⟨va, vc, rfl⟩ := hv.isSl
  obtain ⟨sa, sc, rfl⟩ := hs.isSl
  apply ca87
  unfold F87
  refine ca_table fun w1 m1 => ?_
  refine rx_bigA tT3 ?_
  rw [tT4]
  have hA : hp (w1.alloc (.cells (tabC 0).toArray 157)) w1.heap.size = some (.cells (tabC 0).toArray 157 (0, 0)) := by simp only [hp_alloc, if_pos]
  have mA : Mod (fun _ => False) w1 (w1.alloc (.cells (tabC 0).toArray 157)) := (Mod.refl _ w1).alloc _
  generalize (w1.alloc (.cells (tabC 0).toArray 157)) = w2 at hA mA
  refine rux_bigU tT2 (tabC_length 256) hA (by rw [List.size_toArray, tabC_length, tabC_length]; omega) (tabC_one 256) ?_
  have hlay : lay (tabC 0).toArray.toList 0 (tabC 256) = tabC 256 := lay_all (by rw [tabC_length]; simp [tabC_length])
  rw [hlay]
  have hT : hp (w2.setRow w1.heap.size (tabC 256).toArray) w1.heap.size = some (.cells (tabC 256).toArray 157 (0, 0)) := by
    rw [hp_setRow, if_pos rfl, hA]
  have mT : Mod (fun _ => False) w (w2.setRow w1.heap.size (tabC 256).toArray) := m1.trans (mA.setRow (.inr (Nat.le_refl _)) _)
  generalize w2.setRow w1.heap.size (tabC 256).toArray = W at hT mT
  generalize w1.heap.size = p at hT
  clear hA mA hlay m1
  obtain ⟨CT, hCT⟩ : ∃ CT, (tabC 256).toArray = CT := ⟨_, rfl⟩
  rw [hCT] at hT
  have hCsz : CT.size = 256 := by rw [← hCT, List.size_toArray, tabC_length]
  have hCg : ∀ j : Nat, j < 256 → CT[j]? = some (.int .u32 (tabV j : Nat)) := by
    intro j hj
    rw [← hCT, List.getElem?_toArray, tabC, List.getElem?_map, tabL, List.getElem?_map, List.getElem?_range hj]
    simp [hj]
  obtain ⟨b0, off0, cap0, C0, e0, fz0, hv0, hC0, hC0i⟩ := rd_at (hv.mod mT fun _ _ h => h) (show 0 < 1 by omega)
  rw [hv0]
  have hC0j : C0[off0]? = some (.slice sa bs.length sc) := by simpa using hC0i
  simp [go_sem]
  unfold L87_1
  refine loopK (fun s W' => W' = W ∧ ∃ i : Nat, i ≤ 1 ∧ s = (.int .u32 (if i = 0 then (4294967295 : Nat) else crcRun bs : Nat), .int .i64 i, ())) (fun s _ => match s.2.1 with | .int _ i => 1 - i.toNat | _ => 0) ⟨rfl, 0, by omega, rfl⟩ ?_
  rintro ⟨_, _⟩ W' ⟨rfl, i, hi, ⟨⟩⟩ KN hKN _
  by_cases hi0 : i = 0
  · subst hi0
    simp [go_sem, hC0, hC0j]
    unfold L87_0
    refine loopK (fun s W2 => W2 = W' ∧ ∃ j : Nat, j ≤ bs.length ∧ s = (.int .u32 (crcRun (bs.take j) : Nat), .int .i64 j, ())) (fun s _ => match s.2.1 with | .int _ i => bs.length - i.toNat | _ => 0) ⟨rfl, 0, by omega, rfl⟩ ?_
    rintro ⟨_, _⟩ W2 ⟨rfl, j, hj, ⟨⟩⟩ KN2 hKN2 _
    have hw1 : IntKind.i64.wrap ((j : Int) + 1) = ((j + 1 : Nat) : Int) := by rw [IntKind.wrap_i64]; omega
    by_cases hlt : j < bs.length
    · obtain ⟨b1, off1, cap1, C1, e1, fz1, hv1, hC1, hC1i⟩ := rd_at (hs.mod mT fun _ _ h => h) hlt
      have hC1j : C1[off1 + j]? = some (.int .u8 bs[j].toNat) := by rw [hC1i]; simp [bv, hlt]
      have hx := crcRun_lt (bs.take j)
      have hc := bs[j].toNat_lt
      have h8 : IntKind.u8.wrap ((crcRun (bs.take j) : Nat) : Int) = ((crcRun (bs.take j) % 256 : Nat) : Int) := by rw [IntKind.wrap_u8]; omega
      have hxor : bits .xor .u8 ((crcRun (bs.take j) % 256 : Nat) : Int) (bs[j].toNat : Int) = (((crcRun (bs.take j) % 256) ^^^ bs[j].toNat : Nat) : Int) := u8_xor_nat _ _ (by omega) (by omega)
      have hidx : (crcRun (bs.take j) % 256) ^^^ bs[j].toNat < 256 := Nat.xor_lt_two_pow (n := 8) (by omega) (by omega)
      obtain ⟨ix, hix⟩ : ∃ ix, (crcRun (bs.take j) % 256) ^^^ bs[j].toNat = ix := ⟨_, rfl⟩
      rw [hix] at hxor hidx
      have hidx' : (ix : Int) < 256 := by omega
      have htv : tabV ix < 4294967296 := crcBits_lt (by omega) 8
      have hxor2 : bits .xor .u32 ((tabV ix : Nat) : Int) (((crcRun (bs.take j) : Nat) : Int) / 256) = ((crcRun (bs.take (j + 1)) : Nat) : Int) := by
        have := u32_xor_nat (tabV ix) (crcRun (bs.take j) / 256) htv (by omega)
        rw [crcRun_take _ _ hlt]
        unfold crcStep
        rw [hix]
        exact this
      have hCi := hCg ix hidx
      rw [hv1]
      simp [-Int.natCast_add, -Int.natCast_emod, go_sem, hlt, hC1, hC1j, h8, hxor, hT, hidx, hidx', hCi, hxor2, hw1]
      exact hKN2 _ _ ⟨rfl, j + 1, hlt, rfl⟩ (by simp; omega)
    · have : j = bs.length := by omega
      subst this
      simp [go_sem]
      refine hKN _ _ ⟨rfl, 1, by omega, ?_⟩ (by simp [show IntKind.i64.wrap 1 = 1 from by decide])
      simp [show IntKind.i64.wrap 1 = 1 from by decide]
  · have : i = 1 := by omega
    subst this
    have hx := crcRun_lt bs
    have e1 : bits .xor .u32 4294967295 ((crcRun bs : Nat) : Int) = ((crcOf bs : Nat) : Int) := u32_xor_nat 4294967295 (crcRun bs) (by omega) hx
    have e2 : IntKind.u32.max = 4294967295 := by decide
    simp [go_sem, show IntKind.u32.signed = false from rfl, e2, e1]
    exact hK _ mT
end Go.Proofs

namespace Go.Proofs
open Go Go.Vc

def markV (m : MarkM) : List Value := [.int .u64 (m.term : Int), .int .i8 m.for_, .int .u8 (m.file.toNat : Int), .int .u64 (m.base : Int), .int .u64 (m.bt : Int)]
theorem ca_vmay {w : World} {K : Kont} {m : MarkM} (hK : ∀ w', Mod (fun _ => False) w w' → K (.bool m.may) w') : Ca Try.prog 67 #[.agg (markV m).toArray] w K := by
  apply ca67
  unfold F67 markV
  simp [go_sem]
  generalize hW : w.alloc _ = W
  have mW : Mod (fun _ => False) w W := by subst hW; exact (Mod.refl _ w).alloc _
  have := hK W mW
  unfold MarkM.may at this
  have e : ((m.file.toNat : Int) ≤ 1) = (m.file.toNat ≤ 1) := by apply propext; omega
  by_cases h1 : -1 ≤ m.for_
  · by_cases h2 : m.for_ ≤ 6
    · simpa [h1, h2, e] using this
    · simpa [h1, h2] using this
  · simpa [h1] using this

/-- A vote at block v. -/
def VoteAt (w : World) (v d : Nat) (file : Int) (m : MarkM) (n : Nat) (at_ : Nat) : Prop :=
  hp w v = some (.cells #[dptr d, .int .i64 file, .int .u64 (m.term : Int), .int .i8 m.for_, .int .u8 (m.file.toNat : Int), .int .u64 (m.base : Int), .int .u64 (m.bt : Int), .int .u64 (n : Int), .int .i64 (at_ : Int)] 64 (0, 0))
theorem ca_vnone {w : World} {K : Kont} {v d : Nat} {file : Int} {m : MarkM} {n at_ : Nat} (h : VoteAt w v d file m n at_) (hK : K (.bool false) w) : Ca Try.prog 66 #[dptr v] w K := by
  apply ca66
  unfold F66
  unfold VoteAt dptr at h
  simp [go_sem, dptr, h]
  exact hK
theorem ca_mark {w : World} {K : Kont} {v d : Nat} {file : Int} {m : MarkM} {n at_ : Nat} (h : VoteAt w v d file m n at_) (hK : ∀ w', Mod (fun _ => False) w w' → K (.agg (markV m).toArray) w') : Ca Try.prog 33 #[dptr v] w K := by
  apply ca33
  unfold F33
  simp [go_sem]
  generalize hW : w.alloc _ = W
  have mW : Mod (fun _ => False) w W := by subst hW; exact (Mod.refl _ w).alloc _
  have hr : hp W w.heap.size = some (.cells #[.int .u64 0, .int .i8 0, .int .u8 0, .int .u64 0, .int .u64 0] 59 (0, 0)) := by subst hW; simp [go_sem]
  clear hW
  have hv : VoteAt W v d file m n at_ := mW.keep h id
  refine ca_vnone hv ?_
  unfold VoteAt dptr at hv
  have hvl : v < w.heap.size := lt_of_heap h
  simp [go_sem, dptr, hv, hr, olds hvl]
  have := hK (((((W.setCell ⟨w.heap.size, 0, none⟩ (.int .u64 m.term)).setCell ⟨w.heap.size, 1, none⟩ (.int .i8 m.for_)).setCell ⟨w.heap.size, 2, none⟩ (.int .u8 m.file.toNat)).setCell ⟨w.heap.size, 3, none⟩ (.int .u64 m.base)).setCell ⟨w.heap.size, 4, none⟩ (.int .u64 m.bt))
    (((((mW.setCell (.inr (Nat.le_refl _)) _ _).setCell (.inr (Nat.le_refl _)) _ _).setCell (.inr (Nat.le_refl _)) _ _).setCell (.inr (Nat.le_refl _)) _ _).setCell (.inr (Nat.le_refl _)) _ _)
  exact this
theorem ca_number {w : World} {K : Kont} {v d : Nat} {file : Int} {m : MarkM} {n at_ : Nat} (h : VoteAt w v d file m n at_) (hK : K (.int .u64 (n : Int)) w) : Ca Try.prog 34 #[dptr v] w K := by
  apply ca34
  unfold F34
  refine ca_vnone h ?_
  unfold VoteAt dptr at h
  simp [go_sem, dptr, h]
  exact hK

def body39 (k n : Nat) (m : MarkM) : List UInt8 := UInt8.ofNat (k + 1) :: (hdr n m ++ be 4 (crcOf (hdr n m)))
theorem body39_length (k n : Nat) (m : MarkM) : (body39 k n m).length = 39 := by simp [body39, hdr_length, be_length]
def secW (k n : Nat) (m : MarkM) : List UInt8 := body39 k n m ++ List.replicate 89 0
theorem secW_length (k n : Nat) (m : MarkM) : (secW k n m).length = 128 := by simp [secW, body39_length]
def wrN (n : Nat) (m : MarkM) (i : Nat) : List UInt8 := (List.range i).flatMap fun k => secW k n m
theorem wrN_length (n : Nat) (m : MarkM) : ∀ i, (wrN n m i).length = 128 * i
  | 0 => rfl
  | i + 1 => by
    have := wrN_length n m i
    simp only [wrN, List.range_succ, List.flatMap_append, List.length_append] at *
    rw [this]
    simp [secW_length]
    omega
/-- What is written of a mark. -/
def wr (n : Nat) (m : MarkM) : List UInt8 := wrN n m 3
def wrS (n : Nat) (m : MarkM) (i : Nat) : List UInt8 := wrN n m i ++ List.replicate (384 - 128 * i) 0
theorem wrS_length (n : Nat) (m : MarkM) (i : Nat) (h : i ≤ 3) : (wrS n m i).length = 384 := by
  simp [wrS, wrN_length]; omega
theorem wrS_lay (n : Nat) (m : MarkM) (i : Nat) (h : i < 3) : lay (bv (wrS n m i)) (i * 128) (bv (body39 i n m)) = bv (wrS n m (i + 1)) := by
  unfold lay
  rw [bv_take, bv_drop, ← bv_append, ← bv_append, bv_length, body39_length]
  congr 1
  have h1 : (wrS n m i).take (i * 128) = wrN n m i := by
    unfold wrS
    rw [List.take_append_of_le_length (by rw [wrN_length]; omega), List.take_of_length_le (by rw [wrN_length]; omega)]
  have h2 : (wrS n m i).drop (i * 128 + 39) = List.replicate 89 0 ++ List.replicate (384 - 128 * (i + 1)) 0 := by
    unfold wrS
    rw [List.drop_append, List.drop_eq_nil_of_le (by rw [wrN_length]; omega), List.nil_append, List.drop_replicate, wrN_length, List.replicate_append_replicate]
    have e : 384 - 128 * i - (i * 128 + 39 - 128 * i) = 89 + (384 - 128 * (i + 1)) := by omega
    rw [e]
  rw [h1, h2]
  simp [wrS, wrN, List.range_succ, secW, List.append_assoc]
theorem plT1 : isAggT Try.prog 127 = true := by kernel_rfl
theorem plT2 : Try.prog.cellsOf 127 = 383 + 1 := by kernel_rfl
theorem plT3 : hasZero Try.prog 127 = true := by kernel_rfl
theorem plT4 : zeroC Try.prog 127 = bv (List.replicate 384 0) := by kernel_rfl
theorem forB_eq (x : Int) (h1 : -128 ≤ x) (h2 : x < 128) : IntKind.u8.wrap (IntKind.i8.wrap (x + 1)) = ((forB x).toNat : Int) := by
  have e : IntKind.i8.wrap (x + 1) = (x + 1 + 128) % 256 - 128 := by simp [IntKind.wrap, IntKind.bits, IntKind.signed, IntKind.min, IntKind.max]; try omega
  rw [IntKind.wrap_u8, e]
  unfold forB
  simp
  omega

/-- A row that is filled in place: what has been laid so far. -/
structure Row (W : World) (p : Nat) (T : TypeId) (C0 : List Value) (off : Nat) (pre : List UInt8) : Prop where
  at_ : W.heap[p]? = some (.cells (lay C0 off (bv pre)).toArray T (0, 0))
theorem Row.next {W' : World} {p : Nat} {T : TypeId} {C0 : List Value} {off : Nat} {pre more : List UInt8} (h : off + pre.length + more.length ≤ C0.length)
    (hW : W'.heap[p]? = some (.cells (lay (lay C0 off (bv pre)).toArray.toList (off + pre.length) (bv more)).toArray T (0, 0))) : Row W' p T C0 off (pre ++ more) := by
  refine ⟨?_⟩
  rw [hW]
  have := lay_lay (C := C0) (xs := bv pre) (ys := bv more) (o := off) (by simpa using h)
  rw [bv_length, ← bv_append] at this
  rw [show (lay C0 off (bv pre)).toArray.toList = lay C0 off (bv pre) from rfl, this]
theorem Row.size {C0 : List Value} {off : Nat} {pre : List UInt8} (h : off + pre.length ≤ C0.length) : (lay C0 off (bv pre)).toArray.size = C0.length := by
  rw [List.size_toArray, lay_length (by simpa using h)]
theorem Row.mod {W W' : World} {p : Nat} {T : TypeId} {C0 : List Value} {off : Nat} {pre : List UInt8} (h : Row W p T C0 off pre) (hm : Mod (fun _ => False) W W') : Row W' p T C0 off pre := ⟨hm.keep h.at_ id⟩

/-- Some bytes are appended in place. -/
theorem row_append {W : World} {K : Kont} {p : Nat} {T : TypeId} {C0 : List Value} {off cap ty : Nat} {pre : List UInt8} {x : Value} {more : List UInt8} (h : Row W p T C0 off pre) (hx : Rd W 1 x more.length (bv more)) (hf : off + pre.length + more.length ≤ C0.length) (hc : pre.length + more.length ≤ cap)
    (hK : ∀ W' pre', pre' = pre ++ more → pre'.length = pre.length + more.length → Row W' p T C0 off pre' → Mod (fun b => b = p) W W' → K (.slice (some ⟨p, off, none⟩) pre'.length cap) W') :
    rx Try.prog (xAppend #[23, 23] ty [.slice (some ⟨p, off, none⟩) pre.length cap, x]) W K := by
  refine rx_appendIn Try.underlying23 Try.underlying23 cu8 h.at_ hc hx (bv_one _) (by rw [Row.size (by omega)]; exact hf) ?_
  rw [← List.length_append]
  refine hK _ _ rfl (by simp) (Row.next hf ?_) ((Mod.refl (fun b => b = p) W).setRow (b := p) (.inl rfl) _)
  rw [heap_setRow, if_pos rfl, h.at_]
theorem row_append64 {W : World} {K : Kont} {p : Nat} {T : TypeId} {C0 : List Value} {off cap x : Nat} {pre : List UInt8} (h : Row W p T C0 off pre) (hx : x < 18446744073709551616) (hf : off + pre.length + 8 ≤ C0.length) (hc : pre.length + 8 ≤ cap)
    (hK : ∀ W' pre', pre' = pre ++ be 8 x → pre'.length = pre.length + 8 → Row W' p T C0 off pre' → Mod (fun b => b = p) W W' → K (.slice (some ⟨p, off, none⟩) pre'.length cap) W') :
    Ca Try.prog 85 #[.slice (some ⟨p, off, none⟩) pre.length cap, .int .u64 x] W K := by
  refine ca_append64 h.at_ hc (by rw [Row.size (by omega)]; exact hf) hx fun W' hW' mW' => ?_
  have e : (pre ++ be 8 x).length = pre.length + 8 := by simp [be_length]
  rw [← e]
  exact hK _ _ rfl e (Row.next (by rw [be_length]; exact hf) hW') mW'
theorem row_append32 {W : World} {K : Kont} {p : Nat} {T : TypeId} {C0 : List Value} {off cap x : Nat} {pre : List UInt8} (h : Row W p T C0 off pre) (hx : x < 4294967296) (hf : off + pre.length + 4 ≤ C0.length) (hc : pre.length + 4 ≤ cap)
    (hK : ∀ W' pre', pre' = pre ++ be 4 x → pre'.length = pre.length + 4 → Row W' p T C0 off pre' → Mod (fun b => b = p) W W' → K (.slice (some ⟨p, off, none⟩) pre'.length cap) W') :
    Ca Try.prog 86 #[.slice (some ⟨p, off, none⟩) pre.length cap, .int .u32 x] W K := by
  refine ca_append32 h.at_ hc (by rw [Row.size (by omega)]; exact hf) hx fun W' hW' mW' => ?_
  have e : (pre ++ be 4 x).length = pre.length + 4 := by simp [be_length]
  rw [← e]
  exact hK _ _ rfl e (Row.next (by rw [be_length]; exact hf) hW') mW'
end Go.Proofs

namespace Go.Proofs
open Go Go.Vc

theorem At.whole {W : World} {p : Nat} {T : TypeId} {l : List Value} {fz : Nat × Nat} (h : hp W p = some (.cells l.toArray T fz)) : At W p 0 l :=
  ⟨_, _, _, h, by rw [List.size_toArray]; omega, by simp only [List.drop_zero]; exact List.take_of_length_le (Nat.le_refl _)⟩
theorem slE : elemOk Try.prog 23 1 24 = true := by kernel_rfl
theorem Row.zero {W : World} {p : Nat} {T : TypeId} {C : List Value} {off : Nat} (h : W.heap[p]? = some (.cells C.toArray T (0, 0))) : Row W p T C off [] := ⟨by rw [bv_nil, lay_nil']; exact h⟩
theorem Row.rd {W : World} {p : Nat} {T : TypeId} {C0 : List Value} {off : Nat} {pre : List UInt8} (h : Row W p T C0 off pre) (hf : off + pre.length ≤ C0.length) (i n : Nat) (cap : Nat) (l : List UInt8) (hl : (pre.drop i).take n = l) (hn : l.length = n) (hi : i + n ≤ pre.length) (hc : n ≤ cap) :
    Rd W 1 (.slice (some ⟨p, off + i, none⟩) n cap) l.length (bv l) := by
  subst hn
  refine ⟨by simp, .inr ⟨p, off + i, cap, rfl, hc, _, _, _, h.at_, by rw [Row.size hf]; simp; omega, ?_⟩⟩
  show ((lay C0 off (bv pre)).drop (off + i)).take (bv l).length = bv l
  unfold lay
  have h1 : (C0.take off ++ bv pre ++ C0.drop (off + (bv pre).length)).drop (off + i) = (bv pre).drop i ++ C0.drop (off + (bv pre).length) := by
    rw [List.append_assoc, List.drop_append, List.drop_eq_nil_of_le (by simp; omega), List.nil_append]
    have : off + i - (C0.take off).length = i := by simp; omega
    rw [this, List.drop_append_of_le_length (by simp; omega)]
  rw [h1, List.take_append_of_le_length (by simp; omega), bv_drop, bv_take, bv_length, hl]

set_option maxRecDepth 10000 in
theorem ca_written {w : World} {K : Kont} {n : Nat} {m : MarkM} (hn : n < 18446744073709551616) (hm : m.ok) (hK : ∀ w', Mod (fun _ => False) w w' → K (.agg (bv (wr n m)).toArray) w') : Ca Try.prog 69 #[.int .u64 (n : Int), .agg (markV m).toArray] w K := by
  apply ca69
  unfold F69
  simp [go_sem]
  generalize hW : w.alloc _ = W
  have mW : Mod (fun _ => False) w W := by subst hW; exact (Mod.refl _ w).alloc _
  have hM : hp W w.heap.size = some (.cells (markV m).toArray 59 (0, 0)) := by subst hW; simp [go_sem]
  clear hW
  refine rx_bigA plT3 ?_
  rw [plT4]
  have e0 : bv (List.replicate 384 0) = bv (wrS n m 0) := by simp [wrS, wrN]
  rw [e0]
  have hp0 : hp (W.alloc (.cells (bv (wrS n m 0)).toArray 127)) W.heap.size = some (.cells (bv (wrS n m 0)).toArray 127 (0, 0)) := by simp only [hp_alloc, if_pos]
  have mP : Mod (fun _ => False) W (W.alloc (.cells (bv (wrS n m 0)).toArray 127)) := (Mod.refl _ W).alloc _
  generalize (W.alloc (.cells (bv (wrS n m 0)).toArray 127)) = W1 at hp0 mP
  obtain ⟨q, hq⟩ : ∃ q, w.heap.size = q := ⟨_, rfl⟩
  obtain ⟨p, hp'⟩ : ∃ p, W.heap.size = p := ⟨_, rfl⟩
  have hqp : q < p := by rw [← hq, ← hp']; exact lt_of_heap hM
  have hM1 := mP.keep hM id
  have t1 := mW.trans mP
  rw [hp'] at hp0 ⊢
  rw [hq] at hM1 ⊢
  clear hM mW mP hp' e0
  unfold L69_0
  refine loopK (fun s W' => ∃ i : Nat, i ≤ 3 ∧ s = (.int .i64 i, ()) ∧ Mod (fun _ => False) w W' ∧ hp W' q = some (.cells (markV m).toArray 59 (0, 0)) ∧ hp W' p = some (.cells (bv (wrS n m i)).toArray 127 (0, 0)))
    (fun s _ => match s.1 with | .int _ i => 3 - i.toNat | _ => 0) ⟨0, by omega, rfl, t1, hM1, hp0⟩ ?_
  clear t1 hM1 hp0
  rintro ⟨_, _⟩ W2 ⟨i, hi, ⟨⟩, m2, hM, hP⟩ KN hKN _
  have hw1 : IntKind.i64.wrap ((i : Int) + 1) = ((i + 1 : Nat) : Int) := by rw [IntKind.wrap_i64]; omega
  by_cases hlt : i < 3
  · have hlt' : (i : Int) < 3 := by omega
    have hu : IntKind.u8.wrap (((i + 1 : Nat) : Int)) = ((UInt8.ofNat (i + 1)).toNat : Int) := by rw [IntKind.wrap_u8]; simp
    have hMk : ∀ W', Mod (fun b => b = p) W2 W' → hp W' q = some (.cells #[.int .u64 (m.term : Int), .int .i8 m.for_, .int .u8 (m.file.toNat : Int), .int .u64 (m.base : Int), .int .u64 (m.bt : Int)] 59 (0, 0)) := fun W' mm => mm.keep hM (by show ¬ _ = _; omega)
    have hCl : (bv (wrS n m i)).length = 384 := by rw [bv_length, wrS_length n m i (by omega)]
    have r0 : Row W2 p 127 (bv (wrS n m i)) (i * 128) [] := Row.zero hP
    obtain ⟨a1, a2, a3, a4, a5⟩ := hm
    have hoff : i * 128 + 39 ≤ (bv (wrS n m i)).length := by omega
    simp [-Int.natCast_add, go_sem, hlt', hlt, hw1]
    rw [hu]
    have MP : ∀ {A B : World}, Mod (fun _ => False) A B → Mod (fun b => b = p) A B := fun h => h.mono fun _ _ h => h.elim
    refine litL [UInt8.ofNat (i + 1)] rfl rfl (by omega) fun v1 w3 o3 m3 n3 => ?_
    refine row_append (pre := []) (more := [UInt8.ofNat (i + 1)]) (r0.mod m3) o3.rd (by show i * 128 + 0 + 1 ≤ _; omega) (by simp) fun w4 p4 q4 l4 r4 m4 => ?_
    simp only [List.length_nil, List.length_cons] at l4
    refine row_append64 r4 hn (by omega) (by omega) fun w5 p5 q5 l5 r5 m5 => ?_
    have k5 := ((MP m3).trans m4).trans m5
    simp [-Int.natCast_add, go_sem, hMk w5 k5]
    refine row_append64 r5 a1 (by omega) (by omega) fun w6 p6 q6 l6 r6 m6 => ?_
    have k6 := k5.trans m6
    simp [-Int.natCast_add, go_sem, hMk w6 k6]
    rw [forB_eq _ a2 a3]
    refine litL [forB m.for_, m.file] rfl rfl (by omega) fun v7 w7 o7 m7 n7 => ?_
    refine row_append (more := [forB m.for_, m.file]) (r6.mod m7) o7.rd (by simp only [List.length_cons, List.length_nil]; omega) (by simp only [List.length_cons, List.length_nil]; omega) fun w8 p8 q8 l8 r8 m8 => ?_
    simp only [List.length_nil, List.length_cons] at l8
    have k8 := (k6.trans (MP m7)).trans m8
    simp [-Int.natCast_add, go_sem, hMk w8 k8]
    refine row_append64 r8 a4 (by omega) (by omega) fun w9 p9 q9 l9 r9 m9 => ?_
    have k9 := k8.trans m9
    simp [-Int.natCast_add, go_sem, hMk w9 k9]
    refine row_append64 r9 a5 (by omega) (by omega) fun wa pre qa la ra ma => ?_
    have ka := k9.trans ma
    have hpe : UInt8.ofNat (i + 1) :: hdr n m = pre := by rw [qa, q9, q8, q6, q5, q4]; simp [hdr]
    have hpl : pre.length = 35 := by omega
    have hd1 : (pre.drop 1).take 34 = hdr n m := by
      rw [← hpe]
      simp only [List.drop_succ_cons, List.drop_zero]
      exact List.take_of_length_le (by rw [hdr_length]; exact Nat.le_refl _)
    rw [hpl]
    simp [-Int.natCast_add, go_sem]
    refine rx_lit [.slice (some ⟨p, i * 128 + 1, none⟩) 34 127] Try.underlying108 (elemT_of slE) rfl rfl (by simp [Value.cells]) (by decide) ?_
    have mb : Mod (fun _ => False) wa (wa.alloc (.cells ([Value.slice (some ⟨p, i * 128 + 1, none⟩) 34 127].flatMap (·.cells.toList)).toArray 23)) := (Mod.refl _ wa).alloc _
    have hb : hp (wa.alloc (.cells ([Value.slice (some ⟨p, i * 128 + 1, none⟩) 34 127].flatMap (·.cells.toList)).toArray 23)) wa.heap.size = some (.cells [Value.slice (some ⟨p, i * 128 + 1, none⟩) 34 127].toArray 23 (0, 0)) := by simp [go_sem, Value.cells]
    generalize (wa.alloc (.cells ([Value.slice (some ⟨p, i * 128 + 1, none⟩) 34 127].flatMap (·.cells.toList)).toArray 23)) = wb at mb hb
    have rb := ra.mod mb
    have hrd : Rd wb 1 (.slice (some ⟨p, i * 128 + 1, none⟩) 34 127) (hdr n m).length (bv (hdr n m)) := rb.rd (by omega) 1 34 127 (hdr n m) hd1 (hdr_length n m) (by omega) (by omega)
    refine ca_crc (sl := .slice (some ⟨p, i * 128 + 1, none⟩) 34 127) (bs := hdr n m) ⟨rfl, .inr ⟨_, 0, 1, rfl, Nat.le_refl _, At.whole hb⟩⟩ hrd (by rw [hdr_length]; omega) fun wc mc => ?_
    have rc := rb.mod mc
    rw [← hpl]
    refine row_append32 rc (crcOf_lt _) (by omega) (by omega) fun wd pd qd ld rd md => ?_
    have kd := ((ka.trans (MP mb)).trans (MP mc)).trans md
    refine hKN _ _ ⟨i + 1, by omega, rfl, m2.on kd fun b hb => .inr (by omega), kd.keep hM (by show ¬ _ = _; omega), ?_⟩ (by simp; omega)
    have hfin := rd.at_
    have hbody : pre ++ be 4 (crcOf (hdr n m)) = body39 i n m := by rw [← hpe]; rfl
    rw [qd, hbody, wrS_lay n m i hlt] at hfin
    exact hfin
  · have : i = 3 := by omega
    subst this
    simp [go_sem]
    have e3 : wrS n m 3 = wr n m := by simp [wrS, wr]
    rw [e3] at hP
    have hl : (bv (wr n m)).length = 383 + 1 := by rw [← e3, bv_length, wrS_length n m 3 (by omega)]
    refine rx_bigS (bv (wr n m)) 383 plT1 plT2 hl (At.whole hP) ?_
    refine rux_bigU plT2 hl hP (by rw [List.size_toArray]; omega) (bv_one _) ?_
    have hlay : lay (bv (wr n m)).toArray.toList 0 (bv (wr n m)) = bv (wr n m) := lay_all rfl
    rw [hlay]
    have h2 : hp (W2.setRow p (bv (wr n m)).toArray) p = some (.cells (bv (wr n m)).toArray 127 (0, 0)) := by
      rw [hp_setRow, if_pos rfl, hP]
    refine rdX_bigS (b := p) (off := 0) (bv (wr n m)) 383 plT1 plT2 hl (At.whole h2) ?_
    exact hK _ (m2.setRow (.inr (by omega)) _)
end Go.Proofs

namespace Go.Proofs
open Go Go.Vc

theorem joinW_congr {S : Type} {A : (S → World → Prop) → Prop} {B : S → World → Prop} : JoinW A B = JoinW A B := rfl
attribute [local congr] joinW_congr
def i8F (c : UInt8) : Int := IntKind.i8.wrap (IntKind.i8.wrap (c.toNat : Int) - 1)
def rawNum (p : List UInt8) : Nat := ofB ((p.drop 1).take 8)
def rawMark (p : List UInt8) : MarkM := ⟨ofB ((p.drop 9).take 8), i8F (p.getD 17 0), p.getD 18 0, ofB ((p.drop 19).take 8), ofB ((p.drop 27).take 8)⟩
def readP (p : List UInt8) : Nat × MarkM := if rawNum p = 0 ∨ (rawMark p).may = false ∨ p ≠ wr (rawNum p) (rawMark p) then (0, mark0) else (rawNum p, rawMark p)
theorem i8w (n : Int) : IntKind.i8.wrap n = (n + 128) % 256 - 128 := by
  simp [IntKind.wrap, IntKind.bits, IntKind.signed]; try omega
theorem i8F_range (c : UInt8) : -128 ≤ i8F c ∧ i8F c < 128 := by
  unfold i8F
  rw [i8w]
  omega
theorem ofB8_lt (l : List UInt8) : ofB (l.take 8) < 18446744073709551616 := by
  have h1 := ofB_lt (l.take 8)
  have h2 : 256 ^ (l.take 8).length ≤ 256 ^ 8 := Nat.pow_le_pow_right (by omega) (by simp; omega)
  omega
theorem rawMark_ok (p : List UInt8) : (rawMark p).ok := ⟨ofB8_lt _, (i8F_range _).1, (i8F_range _).2, ofB8_lt _, ofB8_lt _⟩

theorem eq_place {x y : List UInt8} (hx : x.length = 384) (hy : y.length = 384) (w : World) : (Op.equalIn 10000 127 (.agg (bv x).toArray) (.agg (bv y).toArray)).run Try.prog w = .ok (decide (x = y)) w := by
  obtain ⟨i1, h1, -⟩ := info_of_cells (P := Try.prog) (t := 125) (n := 127) (by kernel_rfl)
  obtain ⟨i2, h2, -⟩ := info_of_cells (P := Try.prog) (t := 5) (n := 0) (by kernel_rfl)
  exact eq_rows (m := 127) Try.underlying127 h1 Try.underlying125 h2 Try.underlying5 cu8 (by kernel_rfl) 9997 x y (by omega) (by omega) w
theorem eq_sector {x y : List UInt8} (hx : x.length = 128) (hy : y.length = 128) (w : World) : (Op.equalIn 10000 125 (.agg (bv x).toArray) (.agg (bv y).toArray)).run Try.prog w = .ok (decide (x = y)) w := by
  obtain ⟨i2, h2, -⟩ := info_of_cells (P := Try.prog) (t := 5) (n := 0) (by kernel_rfl)
  exact eq_bytes Try.underlying125 h2 Try.underlying5 cu8 9998 x y hx hy w

theorem neq_place {x y : List UInt8} (hx : x.length = 384) (hy : y.length = 384) (w : World) : (bin .neq 127 false (.agg (bv x).toArray) (.agg (bv y).toArray)).run Try.prog w = .ok (.bool (decide (x ≠ y))) w := by
  have := eq_place hx hy w
  generalize (bv x).toArray = A at this
  generalize (bv y).toArray = B at this
  simp [go_sem, this, Result.andThen]
theorem eql_sector {x y : List UInt8} (hx : x.length = 128) (hy : y.length = 128) (w : World) : (bin .eql 125 false (.agg (bv x).toArray) (.agg (bv y).toArray)).run Try.prog w = .ok (.bool (decide (x = y))) w := by
  have := eq_sector hx hy w
  generalize (bv x).toArray = A at this
  generalize (bv y).toArray = B at this
  simp [go_sem, this, Result.andThen]
theorem rd_sub {W : World} {p : Nat} {T : TypeId} {fz : Nat × Nat} {l : List UInt8} (h : hp W p = some (.cells (bv l).toArray T fz)) (i n cap : Nat) (hi : i + n ≤ l.length) (hc : n ≤ cap) : Rd W 1 (.slice (some ⟨p, i, none⟩) n cap) n (bv ((l.drop i).take n)) := by
  refine ⟨by simp; omega, .inr ⟨p, i, cap, rfl, hc, _, _, _, h, by simp; omega, ?_⟩⟩
  show ((bv l).drop i).take _ = _
  rw [bv_drop, bv_take, bv_length]
  congr 2
  simp; omega

theorem rv_of {P : Program} {s : Sem Value} {w w' : World} {K : Kont} {v : Value} (h : s.run P w = .ok v w') (hK : K v w') : rv P s w K := by
  rw [rv_iff]
  unfold rvD
  rw [h]
  exact hK
theorem rdP_of {P : Program} {s : Sem Value} {K : Value → Prop} {v : Value} (h : ∀ w, s.run P w = .ok v w) (hK : K v) : rdP P s K := ⟨⟨v, h, hK⟩⟩
/-- An aggregate in a box of its own. -/
theorem rv_box {P : Program} {t : TypeId} {cs : Array Value} {w : World} {K : Kont} (hK : K (.pointer (some ⟨w.heap.size, 0, none⟩)) (w.alloc (.cells cs t))) : rv P (Instr.box t (.agg cs)) w K := rv_of (v := .pointer (some ⟨w.heap.size, 0, none⟩)) (w' := w.alloc (.cells cs t)) rfl hK

theorem mod5 {w W : World} {b : Nat} (h : Mod (fun _ => False) w W) (lb : w.heap.size ≤ b) (v0 v1 v2 v3 v4 : Value) : Mod (fun _ => False) w (((((W.setCell ⟨b, 0, none⟩ v0).setCell ⟨b, 1, none⟩ v1).setCell ⟨b, 2, none⟩ v2).setCell ⟨b, 3, none⟩ v3).setCell ⟨b, 4, none⟩ v4) :=
  ((((h.setCell (.inr lb) _ _).setCell (.inr lb) _ _).setCell (.inr lb) _ _).setCell (.inr lb) _ _).setCell (.inr lb) _ _
set_option maxRecDepth 10000 in
theorem ca_vread {w : World} {K : Kont} {p : List UInt8} (hp384 : p.length = 384) (hK : ∀ w', Mod (fun _ => False) w w' → K (.tuple #[.int .u64 ((readP p).1 : Int), .agg (markV (readP p).2).toArray]) w') : Ca Try.prog 64 #[.agg (bv p).toArray] w K := by
  apply ca64
  unfold F64
  refine rv_box ?_
  have mA : Mod (fun _ => False) w (w.alloc (.cells (bv p).toArray 127)) := (Mod.refl _ w).alloc _
  have hA : hp (w.alloc (.cells (bv p).toArray 127)) w.heap.size = some (.cells (bv p).toArray 127 (0, 0)) := by simp only [hp_alloc, if_pos]
  generalize (w.alloc (.cells (bv p).toArray 127)) = W0 at mA hA
  obtain ⟨q, hq⟩ : ∃ q, w.heap.size = q := ⟨_, rfl⟩
  rw [hq] at hA ⊢
  have hql := lt_of_heap hA
  have hal : ∀ W, (Instr.alloc 59 true (.tuple #[])).run Try.prog W = .ok (.pointer (some ⟨W.heap.size, 0, none⟩)) (W.alloc (.cells (markV mark0).toArray 59)) := fun W => by simp [go_sem, markV, mark0]
  refine rv_of (hal W0) ?_
  have mW : Mod (fun _ => False) w (W0.alloc (.cells (markV mark0).toArray 59)) := mA.alloc _
  have hB : hp (W0.alloc (.cells (markV mark0).toArray 59)) W0.heap.size = some (.cells (markV mark0).toArray 59 (0, 0)) := by simp only [hp_alloc, if_pos]
  have hA : hp (W0.alloc (.cells (markV mark0).toArray 59)) q = some (.cells (bv p).toArray 127 (0, 0)) := by rw [hp_alloc, if_neg (by omega)]; exact hA
  generalize (W0.alloc (.cells (markV mark0).toArray 59)) = W at mW hB hA
  obtain ⟨b, hb⟩ : ∃ b, W0.heap.size = b := ⟨_, rfl⟩
  rw [hb] at hB hql ⊢
  have hbW := lt_of_heap hB
  have hrd : ∀ W', Mod (fun _ => False) W W' → ∀ i n : Nat, i + n ≤ 384 → ∀ cap, n ≤ cap → Rd W' 1 (.slice (some ⟨q, i, none⟩) n cap) n (bv ((p.drop i).take n)) := fun W' m i n h cap hc => rd_sub (m.keep hA id) i n cap (by omega) hc
  have tk : ∀ i n : Nat, 8 ≤ n → ((p.drop i).take n).take 8 = (p.drop i).take 8 := fun i n h => by rw [List.take_take, Nat.min_eq_left h]
  refine rv_of (v := .pointer (some ⟨q, 0, none⟩)) (w' := W) (by simp [go_sem]) ?_
  refine rv_of (v := .slice (some ⟨q, 1, none⟩) 127 127) (w' := W) (by simp [go_sem]) ?_
  refine ca_get64 (hrd W (Mod.refl _ _) 1 127 (by omega) 127 (by omega)) (by omega) ?_
  rw [tk 1 127 (by omega), show ofB ((p.drop 1).take 8) = rawNum p from rfl]
  refine joinK (fun s W' => ∃ mb, s = (.pointer (some ⟨mb, 0, none⟩), ()) ∧ Mod (fun _ => False) W W' ∧ hp W' mb = some (.cells (markV (rawMark p)).toArray 59 (0, 0)) ∧ W.heap.size ≤ mb) (fun JJ hJJ => ?_) ?_
  · refine rdP_of (v := .slice (some ⟨q, 9, none⟩) 119 119) (fun w => by simp [go_sem]) ?_
    refine rdP_of (v := .pointer (some ⟨q, 17, none⟩)) (fun w => by simp [go_sem]) ?_
    obtain ⟨C, hC⟩ : ∃ C, (bv p).toArray = C := ⟨_, rfl⟩
    have hq17 : C[17]? = some (.int .u8 (p.getD 17 0).toNat) := by rw [← hC, List.getElem?_toArray, bv, List.getElem?_map, List.getElem?_eq_getElem (by omega)]; simp [List.getD, show 17 < p.length by omega]
    have hq18 : C[18]? = some (.int .u8 (p.getD 18 0).toNat) := by rw [← hC, List.getElem?_toArray, bv, List.getElem?_map, List.getElem?_eq_getElem (by omega)]; simp [List.getD, show 18 < p.length by omega]
    have hAC : ∀ W', Mod (fun _ => False) W W' → hp W' q = some (.cells C 127 (0, 0)) := fun W' m => by rw [← hC]; exact m.keep hA id
    have ld17 : ∀ W', Mod (fun _ => False) W W' → (Instr.loadAt 5 (.pointer (some ⟨q, 17, none⟩))).run Try.prog W' = .ok (.int .u8 (p.getD 17 0).toNat) W' := fun W' m => by simp [go_sem, hAC W' m, hq17]
    have ld18 : ∀ W', Mod (fun _ => False) W W' → (Instr.loadAt 5 (.pointer (some ⟨q, 18, none⟩))).run Try.prog W' = .ok (.int .u8 (p.getD 18 0).toNat) W' := fun W' m => by simp [go_sem, hAC W' m, hq18]
    have cv : ∀ W', (convert 5 57 (.int .u8 ((p.getD 17 0).toNat : Int))).run Try.prog W' = .ok (.int .i8 (IntKind.i8.wrap ((p.getD 17 0).toNat : Int))) W' := fun W' => by simp [go_sem]
    have md : Mod (fun _ => False) W W.drew := (Mod.refl _ W).drew
    refine rdW_of (ld17 _ md) ?_
    refine rdW_of (cv _) ?_
    refine rdP_of (v := .int .i8 (i8F (p.getD 17 0))) (fun w => by simp [go_sem, i8F]) ?_
    refine rdP_of (v := .pointer (some ⟨q, 18, none⟩)) (fun w => by simp [go_sem]) ?_
    refine rdW_of (ld18 _ md) ?_
    refine rdP_of (v := .slice (some ⟨q, 19, none⟩) 109 109) (fun w => by simp [go_sem]) ?_
    refine rdP_of (v := .slice (some ⟨q, 27, none⟩) 101 101) (fun w => by simp [go_sem]) ?_
    have bld : ∀ w, (Instr.build 59 #[(0, .int .u64 (ofB ((p.drop 9).take 8))), (1, .int .i8 (i8F (p.getD 17 0))), (2, .int .u8 (p.getD 18 0).toNat), (3, .int .u64 (ofB ((p.drop 19).take 8))), (4, .int .u64 (ofB ((p.drop 27).take 8)))]).run Try.prog w = .ok (.agg (markV (rawMark p)).toArray) w := fun w => by simp [go_sem, markV, rawMark]
    have g1 : ∀ W', Mod (fun _ => False) W W' → ∀ K : Kont, K (.int .u64 (ofB ((p.drop 9).take 8))) W' → Ca Try.prog 84 #[.slice (some ⟨q, 9, none⟩) 119 119] W' K := fun W' m K h => ca_get64 (hrd W' m 9 119 (by omega) 119 (by omega)) (by omega) (by rw [tk 9 119 (by omega)]; exact h)
    have g2 : ∀ W', Mod (fun _ => False) W W' → ∀ K : Kont, K (.int .u64 (ofB ((p.drop 19).take 8))) W' → Ca Try.prog 84 #[.slice (some ⟨q, 19, none⟩) 109 109] W' K := fun W' m K h => ca_get64 (hrd W' m 19 109 (by omega) 109 (by omega)) (by omega) (by rw [tk 19 109 (by omega)]; exact h)
    have g3 : ∀ W', Mod (fun _ => False) W W' → ∀ K : Kont, K (.int .u64 (ofB ((p.drop 27).take 8))) W' → Ca Try.prog 84 #[.slice (some ⟨q, 27, none⟩) 101 101] W' K := fun W' m K h => ca_get64 (hrd W' m 27 101 (by omega) 101 (by omega)) (by omega) (by rw [tk 27 101 (by omega)]; exact h)
    have al : ∀ W', Mod (fun _ => False) W W' → Mod (fun _ => False) W (W'.alloc (.cells (markV mark0).toArray 59)) ∧ hp (W'.alloc (.cells (markV mark0).toArray 59)) W'.heap.size = some (.cells (markV mark0).toArray 59 (0, 0)) := fun W' m => ⟨m.alloc _, by simp only [hp_alloc, if_pos]⟩
    have fin : ∀ W' mb, Mod (fun _ => False) W W' → hp W' mb = some (.cells (markV mark0).toArray 59 (0, 0)) → W.heap.size ≤ mb → ru Try.prog (Instr.storeAt 59 (.pointer (some ⟨mb, 0, none⟩)) (.agg (markV (rawMark p)).toArray)) W' fun w => JJ (.pointer (some ⟨mb, 0, none⟩), ()) w := by
      intro W' mb m hm hmb
      unfold markV mark0 at hm
      simp only [markV]
      simp [go_sem, hm]
      refine hJJ _ _ ⟨mb, rfl, ((((m.setCell (.inr hmb) _ _).setCell (.inr hmb) _ _).setCell (.inr hmb) _ _).setCell (.inr hmb) _ _).setCell (.inr hmb) _ _, ?_, hmb⟩
      simp [go_sem, hm, markV]
    refine ⟨g1 _ md _ ⟨ld18 _ md, cv _, ld17 _ md, ?_, ?_⟩, ?_⟩
    · refine g2 _ md _ ⟨ld18 _ md, cv _, ld17 _ md, ?_, ?_⟩
      · refine g3 _ md _ ⟨ld18 _ md, cv _, ld17 _ md, ?_⟩
        refine rdP_of bld ?_
        obtain ⟨m1, h1⟩ := al _ md
        exact rv_of (hal _) ⟨ld18 _ m1, cv _, ld17 _ m1, fin _ _ m1 h1 md.size⟩
      · obtain ⟨m1, h1⟩ := al _ md
        refine rv_of (hal _) ⟨ld18 _ m1, cv _, ld17 _ m1, ?_⟩
        refine g3 _ m1 _ ⟨ld18 _ m1, cv _, ld17 _ m1, ?_⟩
        exact rdP_of bld (fin _ _ m1 h1 md.size)
    · obtain ⟨m1, h1⟩ := al _ md
      refine rv_of (hal _) ⟨ld18 _ m1, cv _, ld17 _ m1, ?_⟩
      refine g2 _ m1 _ ⟨ld18 _ m1, cv _, ld17 _ m1, ?_⟩
      refine g3 _ m1 _ ⟨ld18 _ m1, cv _, ld17 _ m1, ?_⟩
      exact rdP_of bld (fin _ _ m1 h1 md.size)
    · obtain ⟨m1, h1⟩ := al _ md
      refine rv_of (hal _) ⟨ld18 _ m1, cv _, ld17 _ m1, ?_⟩
      refine g1 _ m1 _ ⟨ld18 _ m1, cv _, ld17 _ m1, ?_⟩
      refine g2 _ m1 _ ⟨ld18 _ m1, cv _, ld17 _ m1, ?_⟩
      refine g3 _ m1 _ ⟨ld18 _ m1, cv _, ld17 _ m1, ?_⟩
      exact rdP_of bld (fin _ _ m1 h1 md.size)
  rintro _ W2 ⟨mb, rfl, m2, hmb, lmb⟩
  unfold J64_1
  intro _
  have hA2 : ∀ W', Mod (fun _ => False) W2 W' → hp W' q = some (.cells (bv p).toArray 127 (0, 0)) := fun W' m => (m2.trans m).keep hA id
  have hB2 : hp W2 b = some (.cells (markV mark0).toArray 59 (0, 0)) := m2.keep hB id
  have okm := rawMark_ok p
  have ldm : ∀ W', Mod (fun _ => False) W2 W' → (Instr.loadAt 59 (.pointer (some ⟨mb, 0, none⟩))).run Try.prog W' = .ok (.agg (markV (rawMark p)).toArray) W' := fun W' m => by
    have := m.keep hmb id
    have h : hp W' mb = some (.cells #[.int .u64 ((rawMark p).term : Int), .int .i8 (rawMark p).for_, .int .u8 ((rawMark p).file.toNat : Int), .int .u64 ((rawMark p).base : Int), .int .u64 ((rawMark p).bt : Int)] 59 (0, 0)) := this
    simp [go_sem, h, markV]
  have hpl : (bv p).length = 383 + 1 := by simp [hp384]
  have hnum : rawNum p < 18446744073709551616 := ofB8_lt _
  have hwl : (wr (rawNum p) (rawMark p)).length = 384 := by
    unfold wr
    rw [wrN_length]
  refine joinK (fun s W' => Mod (fun _ => False) W2 W' ∧ s = (.bool (decide (rawNum p = 0 ∨ (rawMark p).may = false ∨ p ≠ wr (rawNum p) (rawMark p))), ())) (fun JJ hJJ => ?_) ?_
  · have md : Mod (fun _ => False) W2 W2.drew := (Mod.refl _ W2).drew
    refine rdP_of (v := .bool (decide (rawNum p = 0))) (fun w => ?_) ?_
    · show (bin .eql 27 true (.int .u64 (rawNum p : Int)) (.int .u64 0)).run Try.prog w = _
      simp [go_sem]
      rw [Bool.eq_iff_iff]
      simp
    by_cases h0 : rawNum p = 0
    · simp only [h0, decide_true, ifB_bool, if_true]
      exact hJJ _ _ ⟨md, by simp [h0]⟩
    · simp only [h0, decide_false, ifB_bool, Bool.false_eq_true, if_false]
      refine rdW_of (ldm _ md) ?_
      refine ca_vmay fun W3 m3 => ?_
      have m23 := md.trans m3
      refine rdP_of (v := .bool (!(rawMark p).may)) (fun w => by simp [go_sem]) ?_
      cases hmay : (rawMark p).may
      · simp only [Bool.not_false, ifB_bool, if_true]
        exact hJJ _ _ ⟨m23, by simp [hmay]⟩
      · simp only [Bool.not_true, ifB_bool, Bool.false_eq_true, if_false]
        refine rdX_bigS (bv p) 383 plT1 plT2 hpl (At.whole (hA2 _ m23)) ?_
        refine rdW_of (ldm _ m23) ?_
        refine ca_written hnum okm fun W4 m4 => ?_
        have m24 := m23.trans m4
        refine ⟨run_bigS plT1 plT2 hpl (At.whole (hA2 _ m24)), ?_⟩
        refine rdP_of (v := .bool (decide (p ≠ wr (rawNum p) (rawMark p)))) (fun w => ?_) ?_
        · exact neq_place hp384 hwl w
        · exact hJJ _ _ ⟨m24, by simp [h0, hmay]⟩
  rintro _ W3 ⟨m3, rfl⟩
  unfold J64_0
  intro _
  have hB3 : hp W3 b = some (.cells #[.int .u64 0, .int .i8 0, .int .u8 0, .int .u64 0, .int .u64 0] 59 (0, 0)) := m3.keep hB2 id
  have t3 : Mod (fun _ => False) w W3 := (mW.trans m2).trans m3
  have lb : w.heap.size ≤ b := by rw [hq]; omega
  by_cases hc : rawNum p = 0 ∨ (rawMark p).may = false ∨ p ≠ wr (rawNum p) (rawMark p)
  · have hr : readP p = (0, mark0) := by unfold readP; rw [if_pos hc]
    rw [hr] at hK
    simp only [hc, decide_true, ifB_bool, if_true]
    simp [go_sem, hB3]
    exact hK _ (((((t3.setCell (.inr lb) _ _).setCell (.inr lb) _ _).setCell (.inr lb) _ _).setCell (.inr lb) _ _).setCell (.inr lb) _ _)
  · have hr : readP p = (rawNum p, rawMark p) := by unfold readP; rw [if_neg hc]
    rw [hr] at hK
    simp only [hc, decide_false, ifB_bool, Bool.false_eq_true, if_false]
    have md : Mod (fun _ => False) W2 W3.drew := m3.drew
    refine rdW_of (ldm _ md) ⟨ldm _ md, ?_⟩
    have hK' : ∀ w', Mod (fun _ => False) w w' → K (.tuple #[.int .u64 (rawNum p : Int), .agg (markV (rawMark p)).toArray]) w' := hK
    generalize rawNum p = num at hK'
    generalize rawMark p = mk at hK'
    simp only [markV] at hK' ⊢
    simp [go_sem, hB3]
    exact hK' _ (mod5 t3 lb _ _ _ _ _).drew
end Go.Proofs
