/-
  The contracts of the snapshots' small functions.
  The iterator over a snapshot's parts.
  The contract of shots.counted: the snapshot of a file.
  The contracts of shots.counted and shots.read.
  Conditions: where they ask for any, each theorem names them.
-/
import Derived.Test.YteldcaeicgobfaaDiskL
import Derived.Test.YteldcaeicgobfaaG7
import Derived.Test.YteldcaeicgobfaaRefA
import Derived.Test.YteldcaeicgobfaaVcIterG
set_option linter.unusedVariables false
set_option linter.unusedSimpArgs false
namespace Go.Proofs
open Go Go.Vc

set_option maxRecDepth 10000 in
theorem ca_append64s {w : World} {K : Kont} {b off n cap x : Nat} {C : Array Value} {T : TypeId} (hb : w.heap[b]? = some (.cells C T (0, 0))) (hroom : n + 8 ≤ cap) (hfit : off + n + 8 ≤ C.size) (hx : x < 18446744073709551616)
    (hK : ∀ w', w'.heap[b]? = some (.cells (lay C.toList (off + n) (bv (be 8 x))).toArray T (0, 0)) → Mod (fun b' => b' = b) w w' → K (.slice (some ⟨b, off, none⟩) (n + 8) cap) w') :
    Ca Try.prog 94 #[.slice (some ⟨b, off, none⟩) n cap, .int .u64 x] w K := by
  apply ca94
  unfold F94
  unfold L94_0
  refine loopK (fun s W => ∃ j : Nat, j ≤ 8 ∧ s = (.slice (some ⟨b, off, none⟩) (n + j) cap, .int .i64 (56 - 8 * (j : Int)), ()) ∧ W.heap[b]? = some (.cells (lay C.toList (off + n) (bv ((be 8 x).take j))).toArray T (0, 0)) ∧ Mod (fun b' => b' = b) w W)
    (fun s _ => match s.2.1 with | .int _ i => (i + 8).toNat | _ => 0) ⟨0, by omega, rfl, by simpa [lay_nil'] using hb, Mod.refl _ _⟩ ?_
  rintro ⟨_, _⟩ W ⟨j, hj, ⟨⟩, hW, mW⟩ KN hKN _
  by_cases hlt : j < 8
  · have h1 : (0 : Int) ≤ 56 - 8 * (j : Int) := by omega
    have h2 : ¬ (56 - 8 * (j : Int) < 0) := by omega
    have h3 : 8 * (j : Int) ≤ 56 := by omega
    have h4 : (56 - 8 * (j : Int)).toNat = 8 * (7 - j) := by omega
    have h5 : IntKind.i64.wrap (56 - 8 * (j : Int) - 8) = 56 - 8 * ((j + 1 : Nat) : Int) := by rw [IntKind.wrap_i64]; omega
    have h6 : IntKind.u8.wrap ((x : Int) / 2 ^ (8 * (7 - j))) = ((UInt8.ofNat (x / 256 ^ (8 - 1 - j))).toNat : Int) := by
      rw [IntKind.wrap_u8]
      have e1 : (2 : Int) ^ (8 * (7 - j)) = ((256 ^ (7 - j) : Nat) : Int) := by
        rw [Int.pow_mul]
        simp
      rw [e1, ← Int.natCast_ediv]
      simp
    simp only [go_sem]
    simp only [h1, decide_true, ifB_bool, if_true]
    simp [-Int.natCast_add, go_sem, h1, h2, h3, h4, h5]
    rw [h6]
    refine litL [UInt8.ofNat (x / 256 ^ (8 - 1 - j))] rfl rfl (by omega) fun v W2 o2 m2 n2 => ?_
    have hW2 := m2.keep hW id
    refine rx_appendIn (m := 1) Try.underlying23 Try.underlying23 cu8 hW2 (by omega) o2.rd (bv_one _) ?_ ?_
    · have : (lay C.toList (off + n) (bv ((be 8 x).take j))).length = C.toList.length := lay_length (by simp [be_length]; omega)
      rw [List.size_toArray, this]
      simp; omega
    have hlj : ((be 8 x).take j).length = j := by simp [be_length]; omega
    have el : lay (lay C.toList (off + n) (bv ((be 8 x).take j))) (off + (n + j)) (bv [UInt8.ofNat (x / 256 ^ (8 - 1 - j))]) = lay C.toList (off + n) (bv ((be 8 x).take (j + 1))) := by
      have := lay_lay (C := C.toList) (xs := bv ((be 8 x).take j)) (ys := bv [UInt8.ofNat (x / 256 ^ (8 - 1 - j))]) (o := off + n) (by simp [be_length]; omega)
      rw [bv_length, hlj, ← bv_append, ← be_take hlt] at this
      rw [← Nat.add_assoc]
      exact this
    rw [show (lay C.toList (off + n) (bv ((be 8 x).take j))).toArray.toList = lay C.toList (off + n) (bv ((be 8 x).take j)) from rfl, el]
    refine hKN _ _ ⟨j + 1, by omega, rfl, ?_, (mW.on m2 fun _ h => h.elim).setRow (.inl rfl) _⟩ (by simp; omega)
    rw [heap_setRow, if_pos rfl, hW2]
  · have : j = 8 := by omega
    subst this
    simp [go_sem]
    refine hK _ ?_ mW
    rwa [List.take_of_length_le (by rw [be_length]; exact Nat.le_refl _)] at hW

theorem ca_append32s {w : World} {K : Kont} {b off n cap x : Nat} {C : Array Value} {T : TypeId} (hb : w.heap[b]? = some (.cells C T (0, 0))) (hroom : n + 4 ≤ cap) (hfit : off + n + 4 ≤ C.size) (hx : x < 4294967296)
    (hK : ∀ w', w'.heap[b]? = some (.cells (lay C.toList (off + n) (bv (be 4 x))).toArray T (0, 0)) → Mod (fun b' => b' = b) w w' → K (.slice (some ⟨b, off, none⟩) (n + 4) cap) w') :
    Ca Try.prog 95 #[.slice (some ⟨b, off, none⟩) n cap, .int .u32 x] w K := by
  apply ca95
  unfold F95
  have hu : ∀ k : Nat, IntKind.u8.wrap ((x : Int) / ((256 ^ k : Nat) : Int)) = ((UInt8.ofNat (x / 256 ^ k)).toNat : Int) := by
    intro k
    rw [IntKind.wrap_u8, ← Int.natCast_ediv]
    simp
  have h3 : IntKind.u8.wrap ((x : Int) / 16777216) = ((UInt8.ofNat (x / 256 ^ 3)).toNat : Int) := hu 3
  have h2 : IntKind.u8.wrap ((x : Int) / 65536) = ((UInt8.ofNat (x / 256 ^ 2)).toNat : Int) := hu 2
  have h1 : IntKind.u8.wrap ((x : Int) / 256) = ((UInt8.ofNat (x / 256 ^ 1)).toNat : Int) := hu 1
  have h0 : IntKind.u8.wrap (x : Int) = ((UInt8.ofNat (x / 256 ^ 0)).toNat : Int) := by
    have := hu 0
    simpa using this
  simp [go_sem]
  rw [h3, h2, h1, h0]
  refine litL (be 4 x) rfl (be_length 4 x) (by omega) fun v W2 o2 m2 n2 => ?_
  have hW2 := m2.keep hb id
  refine rx_appendIn (m := 4) Try.underlying23 Try.underlying23 cu8 hW2 hroom o2.rd (bv_one _) hfit ?_
  refine hK _ ?_ ((m2.mono (G := fun b' => b' = b) fun _ _ h => h.elim).setRow (b := b) (.inl rfl) _)
  rw [heap_setRow, if_pos rfl, hW2]

set_option maxRecDepth 10000 in
theorem ca_get64s {w : World} {K : Kont} {v : Value} {n : Nat} {bs : List UInt8} (h : Rd w 1 v n (bv bs)) (hn : 8 ≤ n) (hK : K (.int .u64 (ofB (bs.take 8))) w) : Ca Try.prog 101 #[v] w K := by
  have hl : bs.length = n := by simpa using h.1
  obtain ⟨hl', ⟨h0, _⟩ | ⟨b, off, cap, rfl, hc, hAt⟩⟩ := h
  · omega
  have hc8 : 8 ≤ cap := by omega
  have hA8 := hAt.sub 0 8 (by simp; omega)
  simp only [List.drop_zero, Nat.add_zero] at hA8
  rw [bv_take] at hA8
  obtain ⟨C, e, fz, hC, hCg⟩ := hA8.get
  apply ca101
  unfold F101
  have h8 : (8 : Int) ≤ cap := by omega
  simp [go_sem, hc8, h8]
  unfold L101_0
  have hl8 : (bs.take 8).length = 8 := by simp; omega
  refine loopK (fun s W => W = w ∧ ∃ j : Nat, j ≤ 8 ∧ s = (.int .u64 (ofB ((bs.take 8).take j)), .int .i64 j, ())) (fun s _ => match s.2.1 with | .int _ i => 8 - i.toNat | _ => 0) ⟨rfl, 0, by omega, rfl⟩ ?_
  rintro ⟨_, _⟩ W ⟨rfl, j, hj, ⟨⟩⟩ KN hKN _
  have hw1 : IntKind.i64.wrap ((j : Int) + 1) = ((j + 1 : Nat) : Int) := by rw [IntKind.wrap_i64]; omega
  by_cases hlt : j < 8
  · have hjl : j < (bs.take 8).length := by omega
    have hCj : C[off + j]? = some (.int .u8 (bs.take 8)[j].toNat) := hCg j _ (by rw [bv, List.getElem?_map, List.getElem?_eq_getElem hjl]; rfl)
    have hlt' : (j : Int) < 8 := by omega
    simp [-Int.natCast_add, go_sem, hlt, hlt', hC, hCj, hw1]
    have hlt2 : ofB ((bs.take 8).take j) < 72057594037927936 := by
      have h1 := ofB_lt ((bs.take 8).take j)
      have h2 : ((bs.take 8).take j).length ≤ 7 := by simp; omega
      have h3 : 256 ^ ((bs.take 8).take j).length ≤ 256 ^ 7 := Nat.pow_le_pow_right (by omega) h2
      omega
    have hc := ((bs.take 8)[j]).toNat_lt
    have e1 : IntKind.u64.wrap ((ofB ((bs.take 8).take j) : Int) * 256) = ((ofB ((bs.take 8).take j) * 256 : Nat) : Int) := by rw [IntKind.wrap_u64]; omega
    have e2 : IntKind.u64.wrap (((bs.take 8)[j].toNat : Nat) : Int) = (((bs.take 8)[j].toNat : Nat) : Int) := by rw [IntKind.wrap_u64]; omega
    have e3 : bits .or .u64 (IntKind.u64.wrap ((ofB ((bs.take 8).take j) : Int) * 256)) (IntKind.u64.wrap (((bs.take 8)[j].toNat : Nat) : Int)) = ((ofB ((bs.take 8).take (j + 1)) : Nat) : Int) := by
      rw [e1, e2, u64_or_nat _ _ (by omega) (by omega), or_low, ofB_take _ _ hjl]
    have e4 : bs[j]'(by omega) = (bs.take 8)[j] := by simp
    rw [e4, e3]
    exact hKN _ _ ⟨rfl, j + 1, by omega, rfl⟩ (by simp; omega)
  · have : j = 8 := by omega
    subst this
    simp [go_sem]
    rwa [List.take_of_length_le (by omega)]
theorem row_append64s {W : World} {K : Kont} {p : Nat} {T : TypeId} {C0 : List Value} {off cap x : Nat} {pre : List UInt8} (h : Row W p T C0 off pre) (hx : x < 18446744073709551616) (hf : off + pre.length + 8 ≤ C0.length) (hc : pre.length + 8 ≤ cap)
    (hK : ∀ W' pre', pre' = pre ++ be 8 x → pre'.length = pre.length + 8 → Row W' p T C0 off pre' → Mod (fun b => b = p) W W' → K (.slice (some ⟨p, off, none⟩) pre'.length cap) W') :
    Ca Try.prog 94 #[.slice (some ⟨p, off, none⟩) pre.length cap, .int .u64 x] W K := by
  refine ca_append64s h.at_ hc (by rw [Row.size (by omega)]; exact hf) hx fun W' hW' mW' => ?_
  have e : (pre ++ be 8 x).length = pre.length + 8 := by simp [be_length]
  rw [← e]
  exact hK _ _ rfl e (Row.next (by rw [be_length]; exact hf) hW') mW'
theorem row_append32s {W : World} {K : Kont} {p : Nat} {T : TypeId} {C0 : List Value} {off cap x : Nat} {pre : List UInt8} (h : Row W p T C0 off pre) (hx : x < 4294967296) (hf : off + pre.length + 4 ≤ C0.length) (hc : pre.length + 4 ≤ cap)
    (hK : ∀ W' pre', pre' = pre ++ be 4 x → pre'.length = pre.length + 4 → Row W' p T C0 off pre' → Mod (fun b => b = p) W W' → K (.slice (some ⟨p, off, none⟩) pre'.length cap) W') :
    Ca Try.prog 95 #[.slice (some ⟨p, off, none⟩) pre.length cap, .int .u32 x] W K := by
  refine ca_append32s h.at_ hc (by rw [Row.size (by omega)]; exact hf) hx fun W' hW' mW' => ?_
  have e : (pre ++ be 4 x).length = pre.length + 4 := by simp [be_length]
  rw [← e]
  exact hK _ _ rfl e (Row.next (by rw [be_length]; exact hf) hW') mW'

structure ShotM where
  idx : Nat
  term : Nat
  data : List UInt8
deriving DecidableEq
def shot0 : ShotM := ⟨0, 0, []⟩
def ShotM.ok (x : ShotM) : Prop := x.idx < 18446744073709551616 ∧ x.term < 18446744073709551616 ∧ x.data.length < 1099511627776
def shotC (x : ShotM) (sl : Value) : List Value := [.int .u64 (x.idx : Int), .int .u64 (x.term : Int), sl]
def ShotM.may (x : ShotM) : Bool := decide (x.idx ≠ 0 ∧ x.data.length ≤ 524288)
/-- The snapshot, in the cells of a value. -/
def ShR (w : World) (x : ShotM) (sl : Value) : Prop := Rd w 1 sl x.data.length (bv x.data)
theorem ShR.mod {F : Nat → Prop} {w w' : World} {x : ShotM} {sl : Value} (h : ShR w x sl) (hm : Mod F w w') (hf : ∀ b, inRd sl b → ¬ F b) : ShR w' x sl := Rd.mod h hm hf

theorem sfield {q o : Nat} : (∀ W, (Instr.fieldAt 83 (.pointer (some ⟨q, o, none⟩)) 0).run Try.prog W = .ok (.pointer (some ⟨q, o, none⟩)) W) ∧ (∀ W, (Instr.fieldAt 83 (.pointer (some ⟨q, o, none⟩)) 1).run Try.prog W = .ok (.pointer (some ⟨q, o + 1, none⟩)) W) ∧
    (∀ W, (Instr.fieldAt 83 (.pointer (some ⟨q, o, none⟩)) 2).run Try.prog W = .ok (.pointer (some ⟨q, o + 2, none⟩)) W) := by
  refine ⟨fun W => ?_, fun W => ?_, fun W => ?_⟩ <;> simp [go_sem, addr_add]
theorem sload {W : World} {q : Nat} {x : ShotM} {a : Option Addr} {n c : Nat} (h : hp W q = some (.cells (shotC x (.slice a n c)).toArray 83 (0, 0))) :
    (Instr.loadAt 27 (.pointer (some ⟨q, 0, none⟩))).run Try.prog W = .ok (.int .u64 (x.idx : Int)) W ∧ (Instr.loadAt 27 (.pointer (some ⟨q, 1, none⟩))).run Try.prog W = .ok (.int .u64 (x.term : Int)) W ∧
    (Instr.loadAt 23 (.pointer (some ⟨q, 2, none⟩))).run Try.prog W = .ok (.slice a n c) W ∧ (Instr.loadAt 83 (.pointer (some ⟨q, 0, none⟩))).run Try.prog W = .ok (.agg (shotC x (.slice a n c)).toArray) W := by
  unfold shotC at h
  refine ⟨?_, ?_, ?_, ?_⟩ <;> simp [go_sem, h, shotC]
theorem shot_alloc (W : World) : (Instr.alloc 83 true (.tuple #[])).run Try.prog W = .ok (.pointer (some ⟨W.heap.size, 0, none⟩)) (W.alloc (.cells (shotC shot0 (.slice none 0 0)).toArray 83)) := by simp [go_sem, shotC, shot0]
theorem shot_zero (W : World) : (Instr.build 83 #[]).run Try.prog W = .ok (.agg (shotC shot0 (.slice none 0 0)).toArray) W := by simp [go_sem, shotC, shot0]
/-- A snapshot is laid into a variable. -/
theorem ru_shot {W : World} {K : World → Prop} {q : Nat} {x0 x : ShotM} {sl0 sl : Value} (hm : hp W q = some (.cells (shotC x0 sl0).toArray 83 (0, 0))) (hs : ∃ a n c, sl = .slice a n c)
    (hK : ∀ W', Mod (fun b => b = q) W W' → hp W' q = some (.cells (shotC x sl).toArray 83 (0, 0)) → K W') : ru Try.prog (Instr.storeAt 83 (.pointer (some ⟨q, 0, none⟩)) (.agg (shotC x sl).toArray)) W K := by
  obtain ⟨a, n, c, rfl⟩ := hs
  unfold shotC at hm
  simp only [shotC] at hK ⊢
  simp [go_sem, hm]
  refine hK _ ((((Mod.refl (fun b => b = q) W).setCell (.inl rfl) _ _).setCell (.inl rfl) _ _).setCell (.inl rfl) _ _) ?_
  simp [go_sem, hm]

theorem ca_smay {w : World} {K : Kont} {x : ShotM} {sl : Value} (h : ShR w x sl) (hn : x.data.length < 9223372036854775807) (hK : ∀ w', Mod (fun _ => False) w w' → K (.bool x.may) w') : Ca Try.prog 76 #[.agg (shotC x sl).toArray] w K := by
  obtain ⟨a, c, rfl⟩ := h.isSl
  apply ca76
  unfold F76
  refine rv_box ?_
  have mA : Mod (fun _ => False) w (w.alloc (.cells (shotC x (.slice a x.data.length c)).toArray 83)) := (Mod.refl _ w).alloc _
  have hA : hp (w.alloc (.cells (shotC x (.slice a x.data.length c)).toArray 83)) w.heap.size = some (.cells (shotC x (.slice a x.data.length c)).toArray 83 (0, 0)) := by simp only [hp_alloc, if_pos]
  generalize (w.alloc (.cells (shotC x (.slice a x.data.length c)).toArray 83)) = W at mA hA
  obtain ⟨f0, f1, f2⟩ := sfield (q := w.heap.size) (o := 0)
  obtain ⟨l0, l1, l2, l3⟩ := sload hA
  refine rv_of (f0 _) (rv_of l0 ?_)
  refine rv_of (v := .bool (decide (x.idx ≠ 0))) (w' := W) ?_ ?_
  · simp [go_sem]
    rw [Bool.eq_iff_iff]
    simp
  by_cases h0 : x.idx = 0
  · have : x.may = false := by simp [ShotM.may, h0]
    rw [this] at hK
    rw [decide_eq_false (by simpa using h0), ifB_bool, if_neg (by simp)]
    exact hK _ mA
  · rw [decide_eq_true h0, ifB_bool, if_pos rfl]
    refine rv_of (f2 _) (rv_of l2 ?_)
    refine rn_len23 ?_
    refine rv_of (v := .bool x.may) (w' := W) ?_ (hK _ mA)
    simp [go_sem, ShotM.may, h0]
    omega

theorem ca_equal {w : World} {K : Kont} {u v : Value} {n m : Nat} {x y : List UInt8} (hu : Rd w 1 u n (bv x)) (hv : Rd w 1 v m (bv y)) (hK : K (.bool (decide (x = y))) w) : Ca Try.prog 91 #[u, v] w K := by
  apply ca91
  unfold F91
  refine rx_toStr Try.underlying23 Try.underlying5 Try.underlying9 hu ?_
  refine rx_toStr Try.underlying23 Try.underlying5 Try.underlying9 hv ?_
  exact rv_of (eql_str _ _ _) hK

theorem ca_bclone {w : World} {K : Kont} {v : Value} {l : List UInt8} (h : Rd w 1 v l.length (bv l)) (hn : l.length ≤ 1000000) (hK : ∀ v' w', Own w' 5 1 v' l.length (bv l) → Mod (fun _ => False) w w' → (∀ b, inSl v' b → w.heap.size ≤ b) → K v' w') : Ca Try.prog 92 #[v] w K := by
  obtain ⟨a, c, rfl⟩ := h.isSl
  apply ca92
  unfold F92
  refine rv_of (v := .bool a.isNone) (w' := w) (by simp [go_sem]) ?_
  cases a with
  | none =>
    rw [ifB_bool, if_pos (by rfl)]
    have hl : l = [] := by
      obtain ⟨hl, ⟨h0, _⟩ | ⟨b, off, cap, he, _⟩⟩ := h
      · exact List.length_eq_zero_iff.1 h0
      · cases he
    subst hl
    exact hK _ _ (Own.nil ..) (Mod.refl _ _) fun b hb => by cases hb
  | some a =>
    rw [ifB_bool, if_neg (by simp)]
    refine lit0 fun v0 W0 o0 m0 n0 => ?_
    refine rx_append (n := 0) (m := l.length) Try.underlying23 Try.underlying23 (elemT_of uT1) o0 (h.mod m0 fun _ _ h => h) (bv_one _) (by omega) fun v3 W3 o3 m3 n3 => ?_
    rw [← bv_append, Nat.zero_add, List.nil_append] at o3
    refine hK _ _ o3 (m0.on m3 fun b hb => .inr (n0 b hb)) fun b hb => ?_
    rcases n3 b hb with h' | h'
    · exact n0 b h'
    · have := m0.size; omega

theorem mk_zero {w : World} {K : Kont} {n c : Nat} (hnc : n ≤ c) (hn : c ≤ 10000000) (hK : ∀ w', hp w' w.heap.size = some (.cells (bv (List.replicate c 0)).toArray 5 (0, 0)) → Mod (fun _ => False) w w' → K (.slice (some ⟨w.heap.size, 0, none⟩) n c) w') :
    rx Try.prog (xMake 23 (.int .i64 (n : Int)) (.int .i64 (c : Int))) w K := by
  refine rx_make (z := .int .u8 0) Try.underlying23 (elemT_of uT1) (by omega) (by omega) (by omega) (by kernel_rfl) ?_
  rw [show (c : Int).toNat = c from rfl, show (n : Int).toNat = n from rfl]
  refine hK _ ?_ ((Mod.refl _ w).alloc _)
  rw [hp_alloc, if_pos rfl, bv_replicate]
  have : madeCells (Value.int .u8 0).cells (c * 1) = (List.replicate c (.int .u8 ((0 : UInt8).toNat : Int))).toArray := by
    apply Array.ext'
    rw [show (Value.int .u8 0).cells = #[.int .u8 0] from rfl, toList_madeCells_one, Nat.mul_one]
    rfl
  rw [this]
theorem own_zero {W : World} {b c : Nat} {l : List UInt8} (h : hp W b = some (.cells (bv l).toArray 5 (0, 0))) (hl : l.length = c) : Own W 5 1 (.slice (some ⟨b, 0, none⟩) c c) c (bv l) :=
  ⟨by simpa using hl, .inr ⟨b, c, [], rfl, Nat.le_refl _, by rw [List.append_nil]; exact h, by simp, by simp⟩⟩

theorem ca_noughts {w : World} {K : Kont} {v : Value} {l : List UInt8} (h : Rd w 1 v l.length (bv l)) (hn : l.length ≤ 1000000) (hK : ∀ w', Mod (fun _ => False) w w' → K (.bool (decide (l = List.replicate l.length 0))) w') : Ca Try.prog 72 #[v] w K := by
  obtain ⟨a, c, rfl⟩ := h.isSl
  apply ca72
  unfold F72
  refine rn_len23 ?_
  refine mk_zero (Nat.le_refl _) (by omega) fun w' hw' m' => ?_
  exact ca_equal (h.mod m' fun _ _ h => h) (own_zero hw' (by simp)).rd (hK _ m')

theorem ca_sectors {w : World} {K : Kont} {n : Nat} (hn : n ≤ 1000000) (hK : K (.int .i64 (((n + 126) / 127 : Nat) : Int)) w) : Ca Try.prog 102 #[.int .i64 (n : Int)] w K := by
  apply ca102
  unfold F102
  have e1 : IntKind.i64.wrap ((n : Int) + 127) = ((n + 127 : Nat) : Int) := by rw [IntKind.wrap_i64]; omega
  have e2 : IntKind.i64.wrap (((n + 127 : Nat) : Int) - 1) = ((n + 126 : Nat) : Int) := by rw [IntKind.wrap_i64]; omega
  have e3 : IntKind.i64.wrap (((n + 126 : Nat) : Int) / 127) = (((n + 126) / 127 : Nat) : Int) := by rw [IntKind.wrap_i64]; omega
  refine rv_of (v := .int .i64 ((n + 127 : Nat) : Int)) (w' := w) (by simp [-Int.natCast_add, go_sem, e1]) ?_
  refine rv_of (v := .int .i64 ((n + 126 : Nat) : Int)) (w' := w) (by simp [-Int.natCast_add, go_sem, e2]) ?_
  refine rv_of (v := .int .i64 (((n + 126) / 127 : Nat) : Int)) (w' := w) (by simp [-Int.natCast_add, -Int.natCast_ediv, go_sem, e3]) ?_
  exact hK

def hdrS (x : ShotM) : List UInt8 := be 8 x.idx ++ (be 8 x.term ++ (be 8 x.data.length ++ be 4 (crcOf x.data)))
theorem hdrS_length (x : ShotM) : (hdrS x).length = 28 := by simp [hdrS, be_length]
/-- One of a snapshot's marks. -/
def markS (i : Nat) (x : ShotM) : List UInt8 := (UInt8.ofNat (i + 1) :: hdrS x) ++ List.replicate 99 0
theorem markS_length (i : Nat) (x : ShotM) : (markS i x).length = 128 := by simp [markS, hdrS_length]

set_option maxRecDepth 10000 in
theorem ca_smark {w : World} {K : Kont} {i : Nat} {x : ShotM} {sl : Value} (hi : i < 3) (hx : x.ok) (h : ShR w x sl) (hK : ∀ w' b, Own w' 5 1 (.slice (some ⟨b, 0, none⟩) 128 128) 128 (bv (markS i x)) → Mod (fun _ => False) w w' → w.heap.size ≤ b → K (.slice (some ⟨b, 0, none⟩) 128 128) w') :
    Ca Try.prog 78 #[.int .i64 (i : Int), .agg (shotC x sl).toArray] w K := by
  obtain ⟨x1, x2, x3⟩ := hx
  obtain ⟨a, c, rfl⟩ := h.isSl
  apply ca78
  unfold F78
  refine rv_box ?_
  have mA : Mod (fun _ => False) w (w.alloc (.cells (shotC x (.slice a x.data.length c)).toArray 83)) := (Mod.refl _ w).alloc _
  have hA : hp (w.alloc (.cells (shotC x (.slice a x.data.length c)).toArray 83)) w.heap.size = some (.cells (shotC x (.slice a x.data.length c)).toArray 83 (0, 0)) := by simp only [hp_alloc, if_pos]
  generalize (w.alloc (.cells (shotC x (.slice a x.data.length c)).toArray 83)) = W at mA hA
  obtain ⟨q, hq⟩ : ∃ q, w.heap.size = q := ⟨_, rfl⟩
  rw [hq] at hA ⊢
  have hqW := lt_of_heap hA
  obtain ⟨f0, f1, f2⟩ := sfield (q := q) (o := 0)
  refine mk_zero (n := 0) (c := 128) (by omega) (by omega) fun W1 hp1 m1 => ?_
  obtain ⟨p, hpe⟩ : ∃ p, W.heap.size = p := ⟨_, rfl⟩
  rw [hpe] at hp1 ⊢
  have qp : ¬ q = p := by omega
  -- what lies aside
  have aside : ∀ W', Mod (fun b => b = p) W1 W' → hp W' q = some (.cells (shotC x (.slice a x.data.length c)).toArray 83 (0, 0)) ∧ ShR W' x (.slice a x.data.length c) ∧ Mod (fun _ => False) w W' := by
    intro W' m
    refine ⟨m.keep (m1.keep hA id) (by omega), (h.mod (mA.trans m1) fun _ _ h => h).mod m fun b hb e => ?_, (mA.trans m1).on m fun b e => .inr (by omega)⟩
    have := h.lt hb
    omega
  obtain ⟨Z, hZ⟩ : ∃ Z, bv (List.replicate 128 0) = Z := ⟨_, rfl⟩
  have hC : Z.length = 128 := by rw [← hZ, bv_length, List.length_replicate]
  rw [hZ] at hp1
  have r0 : Row W1 p 5 Z 0 [] := Row.zero hp1
  have e1 : IntKind.i64.wrap ((i : Int) + 1) = ((i + 1 : Nat) : Int) := by rw [IntKind.wrap_i64]; omega
  have e2 : IntKind.u8.wrap ((i + 1 : Nat) : Int) = ((UInt8.ofNat (i + 1)).toNat : Int) := by rw [IntKind.wrap_u8]; simp
  refine rv_of (v := .int .i64 ((i + 1 : Nat) : Int)) (w' := W1) (by simp [-Int.natCast_add, go_sem, e1]) ?_
  obtain ⟨u, hu⟩ : ∃ u, UInt8.ofNat (i + 1) = u := ⟨_, rfl⟩
  rw [hu] at e2
  refine rv_of (v := .int .u8 (u.toNat : Int)) (w' := W1) (by simp [-Int.natCast_add, go_sem]; exact e2) ?_
  refine litL [u] rfl rfl (by omega) fun v2 W2 o2 m2 n2 => ?_
  refine row_append (pre := []) (more := [u]) (cap := 128) (r0.mod m2) o2.rd (by rw [hC]; simp) (by simp) fun W3 l3 h3 g3 r3 m3 => ?_
  have t3 : Mod (fun b => b = p) W1 W3 := (m2.mono fun _ _ h => h.elim).trans m3
  obtain ⟨a3, -, -⟩ := aside W3 t3
  refine rv_of (f0 _) (rv_of (sload a3).1 ?_)
  simp only [List.length_nil, List.length_cons] at g3
  refine row_append64s r3 x1 (by rw [hC]; omega) (by omega) fun W4 l4 h4 g4 r4 m4 => ?_
  have t4 := t3.trans m4
  obtain ⟨a4, -, -⟩ := aside W4 t4
  refine rv_of (f1 _) (rv_of (sload a4).2.1 ?_)
  refine row_append64s r4 x2 (by rw [hC]; omega) (by omega) fun W5 l5 h5 g5 r5 m5 => ?_
  have t5 := t4.trans m5
  obtain ⟨a5, -, -⟩ := aside W5 t5
  refine rv_of (f2 _) (rv_of (sload a5).2.2.1 ?_)
  refine rn_len23 ?_
  have e3 : IntKind.u64.wrap (x.data.length : Int) = (x.data.length : Int) := by rw [IntKind.wrap_u64]; omega
  refine rv_of (v := .int .u64 (x.data.length : Int)) (w' := W5) (by simp [go_sem, e3]) ?_
  refine row_append64s r5 (by omega) (by rw [hC]; omega) (by omega) fun W6 l6 h6 g6 r6 m6 => ?_
  have t6 := t5.trans m6
  obtain ⟨a6, b6, -⟩ := aside W6 t6
  refine rv_of (f2 _) (rv_of (sload a6).2.2.1 ?_)
  refine rx_lit [.slice a x.data.length c] Try.underlying108 (elemT_of slE) rfl rfl (by simp [Value.cells]) (by omega) ?_
  have m7 : Mod (fun _ => False) W6 (W6.alloc (.cells ([Value.slice a x.data.length c].flatMap (·.cells.toList)).toArray 23)) := (Mod.refl _ W6).alloc _
  have h7 : hp (W6.alloc (.cells ([Value.slice a x.data.length c].flatMap (·.cells.toList)).toArray 23)) W6.heap.size = some (.cells [Value.slice a x.data.length c].toArray 23 (0, 0)) := by rw [hp_alloc, if_pos rfl]; rfl
  generalize (W6.alloc (.cells ([Value.slice a x.data.length c].flatMap (·.cells.toList)).toArray 23)) = W7 at m7 h7
  refine ca_crc (bs := x.data) ⟨rfl, .inr ⟨W6.heap.size, 0, 1, rfl, by omega, At.whole h7⟩⟩ (b6.mod m7 fun _ _ h => h) (by omega) fun W8 m8 => ?_
  refine row_append32s (r6.mod (m7.trans m8)) (crcOf_lt _) (by rw [hC]; omega) (by omega) fun W9 l9 h9 g9 r9 m9 => ?_
  have t9 : Mod (fun b => b = p) W1 W9 := (t6.trans ((m7.trans m8).mono fun _ _ h => h.elim)).trans m9
  obtain ⟨-, -, c9⟩ := aside W9 t9
  have el : l9 = UInt8.ofNat (i + 1) :: hdrS x := by rw [h9, h6, h5, h4, h3, hu]; simp [hdrS]
  have e9 : l9.length = 29 := by omega
  refine rv_of (v := .slice (some ⟨p, 0, none⟩) 128 128) (w' := W9) (by rw [e9]; simp [go_sem]) ?_
  have h10 := r9.at_
  have e10 : lay Z 0 (bv l9) = bv (markS i x) := by
    rw [← hZ, el]
    unfold lay markS
    rw [List.take_zero, List.nil_append, bv_drop, ← bv_append, Nat.zero_add, bv_length, List.drop_replicate, ← el, e9]
  rw [e10] at h10
  exact hK _ _ (own_zero h10 (markS_length i x)) c9 (by omega)
end Go.Proofs

namespace Go.Proofs
open Go Go.Vc

/-- A part's sector. -/
def partS (l : List UInt8) (i : Nat) : List UInt8 := 9 :: ((l.drop (127 * i)).take 127 ++ List.replicate (127 - ((l.drop (127 * i)).take 127).length) 0)
theorem partS_length (l : List UInt8) (i : Nat) : (partS l i).length = 128 := by
  simp [partS]
  omega
def secN (n : Nat) : Nat := (n + 126) / 127
theorem ca_parts {w : World} {K : Kont} {a : Option Addr} {n c : Nat} (hK : ∀ w', Mod (fun _ => False) w w' → hp w' w.heap.size = some (.cells #[.slice a n c] 23 (0, 0)) → w'.heap.size = w.heap.size + 1 → K (.func (.func 93) #[] #[ptr0 w.heap.size]) w') : Ca Try.prog 77 #[.slice a n c] w K := by
  apply ca77
  unfold F77
  simp [go_sem]
  exact hK _ ((Mod.refl _ w).alloc _) (by simp [go_sem]) (by simp [go_sem])

theorem min_run {k : Nat} {W : World} {K : Kont} (hK : K (.int .i64 ((min k 127 : Nat) : Int)) W) : rn Try.prog (builtin .min #[3, 3] 3 #[false, true] #[.int .i64 (k : Int), .int .i64 127]) W K := by
  by_cases h : k ≤ 127
  · have e : min k 127 = k := by omega
    rw [e] at hK
    have h1 : ¬ (127 : Int) < (k : Int) := by omega
    simp [go_sem, Builtin.min_, Builtin.min2, h1]
    exact hK
  · have e : min k 127 = 127 := by omega
    rw [e] at hK
    have h1 : (127 : Int) < (k : Int) := by omega
    simp [go_sem, Builtin.min_, Builtin.min2, h1]
    exact hK

def lenIn (o : Option Obj) : Nat := match o with | some (.cells c _ _) => (match c[0]? with | some (Value.slice _ k _) => k | _ => 0) | _ => 0
set_option maxRecDepth 10000 in
theorem iter_parts {q n cap : Nat} {a : Option Addr} {l : List UInt8} (hl : l.length = n) (hn : n ≤ 1000000) :
    IterG Try.prog (.func (.func 93) #[] #[ptr0 q]) (secN n) (fun i x W => ∃ v, x = [v] ∧ Own W 5 1 v 128 (bv (partS l i))) q (some (.cells #[.slice a n cap] 23 (0, 0)))
      (fun W => Rd W 1 (.slice a n cap) n (bv l)) := by
  refine ⟨_, _, _, rfl, fun y J Js W K hkeep hmod h0 hcell hstep hend => ?_⟩
  show Ca Try.prog 93 #[y, ptr0 q] W K
  apply ca93
  unfold F93 L93_0
  refine loopK (fun s W => ∃ (i : Nat) (a' : Option Addr) (c' : Nat), i ≤ secN n ∧ s = () ∧ J i W ∧ hp W q = some (.cells #[.slice a' (n - 127 * i) c'] 23 (0, 0)) ∧ (127 * i < n → ∃ b off, a = some ⟨b, off, none⟩ ∧ a' = some ⟨b, off + 127 * i, none⟩ ∧ c' = cap - 127 * i ∧ n ≤ cap)) (fun _ W => lenIn (hp W q)) ⟨0, a, cap, by omega, rfl, h0, hcell, fun hlt => ?_⟩ ?_
  · obtain ⟨b, off, c, hc, he⟩ := rd_block (hkeep 0 W h0) (by omega)
    injection he with e1 e2 e3
    subst e3
    exact ⟨b, off, e1, e1, by omega, hc⟩
  rintro ⟨⟩ W ⟨i, a', c', hi, -, hJ, hc1, hst⟩ KN hKN _
  obtain ⟨k, hk⟩ : ∃ k, n - 127 * i = k := ⟨_, rfl⟩
  rw [hk] at hc1
  have ld : ∀ W', hp W' q = some (.cells #[.slice a' k c'] 23 (0, 0)) → (Instr.loadAt 23 (ptr0 q)).run Try.prog W' = .ok (.slice a' k c') W' := fun W' h => by simp [go_sem, ptr0, h]
  refine rv_of (ld W hc1) ?_
  refine rn_len23 ?_
  refine rv_of (v := .bool (decide (0 < k))) (w' := W) (by simp [go_sem]) ?_
  by_cases hlt : 0 < k
  · have him : i < secN n := by unfold secN; omega
    rw [decide_eq_true hlt, ifB_bool, if_pos rfl]
    obtain ⟨b, off, rfl, rfl, rfl, hcap⟩ := hst (by omega)
    refine rv_of (ld W hc1) ?_
    refine rn_len23 ?_
    refine min_run ?_
    obtain ⟨m, hm⟩ : ∃ m, min k 127 = m := ⟨_, rfl⟩
    rw [hm]
    refine mk_zero (n := 128) (c := 128) (by omega) (by omega) fun W1 h1 m1 => ?_
    obtain ⟨g, hg⟩ : ∃ g, W.heap.size = g := ⟨_, rfl⟩
    rw [hg] at h1 ⊢
    have o1 := own_zero h1 (c := 128) (by simp)
    have hqW := lt_of_heap hc1
    have hqg : ¬ q = g := by omega
    refine rv_of (index8 (j := 0) (by omega) W1) ?_
    obtain ⟨g', c2, hv, -, hst2, o2, m2⟩ := own_put o1 (i := 0) (by omega) 9
    injection hv with e1 e2 e3
    injection e1 with e1
    injection e1 with e1 e4 e5
    subst e1
    have e9 : ((9 : UInt8).toNat : Int) = 9 := rfl
    rw [e9] at hst2 o2 m2
    refine ru_of (by simpa using hst2) ?_
    generalize (W1.setCell ⟨g, 0, none⟩ (.int .u8 9)) = W2 at hst2 o2 m2
    have t2 : Mod (fun _ => False) W W2 := m1.on m2 fun x hx => by
      have : x = g := by cases hx; rfl
      exact .inr (by omega)
    have td := t2.drew
    have hc2 := td.keep hc1 id
    refine rdP_of (slice_lo (lo := 1) (by omega) (by omega) (by omega)) ?_
    refine rdW_of (ld _ hc2) ?_
    have hmk : m ≤ k := by omega
    refine rdP_of (slice_lohi (lo := 0) (hi := m) (by omega) (by omega) (by omega)) ?_
    rw [Nat.sub_zero, Nat.sub_zero, Nat.add_zero]
    have hmp : 0 < m := by omega
    have rsrc : Rd W2.drew 1 (.slice (some ⟨b, off + 127 * i, none⟩) m (cap - 127 * i)) m (bv ((l.drop (127 * i)).take m)) :=
      rd_part (hkeep i _ (hmod i _ _ hJ (td.mono fun _ _ h => h.elim))) (127 * i) m (cap - 127 * i) (by omega) hmp (by omega)
    have hrow : W2.drew.heap[g]? = some (.cells (bv ((List.replicate 128 0).set 0 9)).toArray 5 (0, 0)) := by
      obtain ⟨_, ⟨h0, _⟩ | ⟨b2, cap2, rest, he, hc, hh, hr, -⟩⟩ := o2
      · cases h0
      · injection he with e1 e2 e3
        injection e1 with e1
        injection e1 with e1
        subst e1
        subst e3
        have : rest = [] := List.length_eq_zero_iff.1 (by simpa using hr)
        subst this
        rw [List.append_nil] at hh
        exact hh
    refine rx_copy (e := 5) (k := m) (cs := bv ((l.drop (127 * i)).take m)) (all := bv ((l.drop (127 * i)).take m)) Try.underlying23 cu8 hrow rsrc (by show m = min m (128 - 1); omega) (by rw [bv_take, List.take_take, Nat.min_self]) (by simp; omega) (bv_one _) ?_
    have erow : lay (bv ((List.replicate 128 0).set 0 9)).toArray.toList 1 (bv ((l.drop (127 * i)).take m)) = bv (partS l i) := by
      show lay (bv ((List.replicate 128 0).set 0 9)) 1 (bv ((l.drop (127 * i)).take m)) = _
      unfold lay
      rw [bv_take, bv_drop, ← bv_append, ← bv_append, bv_length]
      congr 1
      have hll : ((l.drop (127 * i)).take m).length = m := by simp; omega
      have e127 : (l.drop (127 * i)).take 127 = (l.drop (127 * i)).take m := by
        by_cases h127 : k ≤ 127
        · rw [List.take_of_length_le (by simp; omega), List.take_of_length_le (by simp; omega)]
        · rw [show m = 127 by omega]
      unfold partS
      rw [e127, hll]
      have e1 : (List.replicate 128 (0 : UInt8)).set 0 9 = 9 :: List.replicate 127 0 := rfl
      rw [e1]
      simp only [List.take_succ_cons, List.take_zero, Nat.add_comm 1 m, List.drop_succ_cons, List.drop_replicate, List.cons_append, List.nil_append]
    rw [erow]
    have o3 : Own (W2.drew.setRow g (bv (partS l i)).toArray) 5 1 (.slice (some ⟨g, 0, none⟩) 128 128) 128 (bv (partS l i)) :=
      own_zero (by rw [hp_setRow, if_pos rfl, hp_of hrow]) (partS_length l i)
    have t3 : Mod (fun _ => False) W (W2.drew.setRow g (bv (partS l i)).toArray) := td.setRow (.inr (by omega)) _
    generalize (W2.drew.setRow g (bv (partS l i)).toArray) = W3 at o3 t3
    have hc3 := t3.keep hc1 id
    refine hstep i _ W3 him ⟨_, rfl, o3⟩ (hmod i _ _ hJ (t3.mono fun _ _ h => h.elim)) _ (fun W4 hJ4 hq4 => ?_) (fun W4 hJs => ?_)
    · refine rv_of (v := .bool false) (w' := W4) (by simp [go_sem]) ?_
      rw [ifB_bool, if_neg (by simp)]
      have hc4 : hp W4 q = _ := hq4.trans hc3
      refine rv_of (ld _ hc4) ?_
      by_cases hend' : m < cap - 127 * i
      · refine rv_of (slice_lo (lo := m) hmk (by omega) hend' W4) ?_
        refine ru_of (w' := W4.setCell ⟨q, 0, none⟩ (.slice (some ⟨b, off + 127 * i + m, none⟩) (k - m) (cap - 127 * i - m))) (by simp [go_sem, ptr0, hc4]) ?_
        refine hKN _ _ ⟨i + 1, some ⟨b, off + 127 * i + m, none⟩, cap - 127 * i - m, him, rfl, hmod _ _ _ hJ4 ((Mod.refl (fun b => b = q) W4).setCell (.inl rfl) _ _), ?_, fun h => ⟨b, off, rfl, ?_, by omega, hcap⟩⟩ ?_
        · rw [hp_setCell, if_pos rfl, hc4, setObj1_cells, show n - 127 * (i + 1) = k - m by omega]
          rfl
        · rw [show off + 127 * i + m = off + 127 * (i + 1) by omega]
        · rw [hp_setCell, if_pos rfl, hc4, hc1]
          simp [lenIn]
          omega
      · have hmc : m = cap - 127 * i := by omega
        refine rv_of (v := .slice (some ⟨b, off + 127 * i, none⟩) (k - m) 0) (w' := W4) ?_ ?_
        · have h1 : k ≤ m := by omega
          rw [← hmc]
          have hkm : k = m := by omega
          subst hkm
          simp [go_sem]
        refine ru_of (w' := W4.setCell ⟨q, 0, none⟩ (.slice (some ⟨b, off + 127 * i, none⟩) (k - m) 0)) (by simp [go_sem, ptr0, hc4]) ?_
        refine hKN _ _ ⟨i + 1, some ⟨b, off + 127 * i, none⟩, 0, him, rfl, hmod _ _ _ hJ4 ((Mod.refl (fun b => b = q) W4).setCell (.inl rfl) _ _), ?_, fun h => by omega⟩ ?_
        · rw [hp_setCell, if_pos rfl, hc4, setObj1_cells, show n - 127 * (i + 1) = k - m by omega]
          rfl
        · rw [hp_setCell, if_pos rfl, hc4, hc1]
          simp [lenIn]
          omega
    · refine rv_of (v := .bool true) (w' := W4) (by simp [go_sem]) ?_
      rw [ifB_bool, if_pos rfl]
      exact hend W4 (.inr hJs)
  · rw [decide_eq_false hlt, ifB_bool, if_neg (by simp)]
    have : i = secN n := by unfold secN at *; omega
    rw [this] at hJ
    exact hend W (.inl hJ)
end Go.Proofs

namespace Go.Proofs
open Go Go.Vc

def hIdx (b : List UInt8) : Nat := ofB ((b.drop 1).take 8)
def hTerm (b : List UInt8) : Nat := ofB ((b.drop 9).take 8)
def hLen (b : List UInt8) : Nat := ofB ((b.drop 17).take 8)
def datF (C : Nat → Sec) (i : Nat) : List UInt8 := (List.range i).flatMap fun j => (C (3 + j)).drop 1
def datB (C : Nat → Sec) (n : Nat) : List UInt8 := (datF C (secN n)).take n
def partsB (C : Nat → Sec) (l : List UInt8) : Bool := (List.range (secN l.length)).all fun i => decide (C (3 + i) = partS l i)
def marksB (b : List UInt8) (x : ShotM) : Bool := (List.range 3).all fun i => decide ((b.drop (128 * i)).take 128 = markS i x)
def rawS (C : Nat → Sec) (b : List UInt8) : ShotM := ⟨hIdx b, hTerm b, datB C (hLen b)⟩
def counted (C : Nat → Sec) (b : List UInt8) : ShotM :=
  if 524288 < hLen b then shot0 else if partsB C (datB C (hLen b)) = false then shot0 else if (rawS C b).may = false then shot0 else if marksB b (rawS C b) = false then shot0 else rawS C b

theorem datF_length {C : Nat → Sec} (h : ∀ i, (C i).length = 128) : ∀ i, (datF C i).length = 127 * i
  | 0 => rfl
  | i + 1 => by
    unfold datF
    rw [List.range_succ, List.flatMap_append, List.length_append]
    have := datF_length h i
    unfold datF at this
    rw [this]
    simp [h]
    omega
theorem datF_succ (C : Nat → Sec) (i : Nat) : datF C (i + 1) = datF C i ++ (C (3 + i)).drop 1 := by
  unfold datF
  rw [List.range_succ, List.flatMap_append]
  simp
theorem datB_length {C : Nat → Sec} (h : ∀ i, (C i).length = 128) (n : Nat) : (datB C n).length = n := by
  unfold datB
  rw [List.length_take, datF_length h]
  unfold secN
  omega
theorem hNum_lt (b : List UInt8) : hIdx b < 18446744073709551616 ∧ hTerm b < 18446744073709551616 ∧ hLen b < 18446744073709551616 := ⟨ofB8_lt _, ofB8_lt _, ofB8_lt _⟩

/-- Behind the parts: may it be, and are the marks its own? -/
def tail90 (s4 : Value × Unit) (v0 v2 : Value) (K : Kont) (a2 : Value) (mk : List Nat) (w130 : World) : Prop :=
 rv Try.prog (Instr.loadAt 83 s4.1) w130 fun v131 w132 =>
 Ca Try.prog 76 #[v131] w132 fun v133 w134 =>
 rv Try.prog (Op.unary .not v133) w134 fun v135 w136 =>
 ifB v135
 (rv Try.prog (Instr.build 83 #[]) w136 fun v137 w138 =>
 ru Try.prog (Instr.storeAt 83 v0 v137) w138 fun w139 =>
 ru Try.prog (Instr.storeAt 28 v2 (.int .i64 0)) w139 fun w140 =>
 retD (mk ++ []) w140 fun w141 =>
 rdW Try.prog (Instr.loadAt 83 v0) w141 fun v142 =>
 rdW Try.prog (Instr.loadAt 28 v2) w141 fun v143 =>
 K (.tuple #[v142, v143]) w141)
 (LoopW (S := Value × Unit) (L90_0 a2 s4 v0 v2 mk K) ((.int .i64 0), ()) w136)

/-- What lies there in the tail. -/
structure T90 (W : World) (p0 p2 q : Nat) (mk : List Nat) (x : ShotM) (sl : Value) (b : List UInt8) (a2 : Value) : Prop where
  r0 : hp W p0 = some (.cells (shotC shot0 (.slice none 0 0)).toArray 83 (0, 0))
  r2 : hp W p2 = some (.cells #[.int .i64 0] 28 (0, 0))
  rx : hp W q = some (.cells (shotC x sl).toArray 83 (0, 0))
  sh : ShR W x sl
  rb : Rd W 1 a2 384 (bv b)
  dfr : ∀ D ∈ mk, hp W D = some (.deferred (some []))
theorem T90.mod {F : Nat → Prop} {W W' : World} {p0 p2 q : Nat} {mk : List Nat} {x : ShotM} {sl : Value} {b : List UInt8} {a2 : Value} (h : T90 W p0 p2 q mk x sl b a2) (m : Mod F W W') (h0 : ¬ F p0) (h2 : ¬ F p2) (hq : ¬ F q) (hs : ∀ b, inRd sl b → ¬ F b) (ha : ∀ b, inRd a2 b → ¬ F b) (hm : ∀ D ∈ mk, ¬ F D) : T90 W' p0 p2 q mk x sl b a2 :=
  ⟨m.keep h.r0 h0, m.keep h.r2 h2, m.keep h.rx hq, h.sh.mod m hs, h.rb.mod m ha, fun D hD => m.keep (h.dfr D hD) (hm D hD)⟩
theorem T90.mod0 {W W' : World} {p0 p2 q : Nat} {mk : List Nat} {x : ShotM} {sl : Value} {b : List UInt8} {a2 : Value} (h : T90 W p0 p2 q mk x sl b a2) (m : Mod (fun _ => False) W W') : T90 W' p0 p2 q mk x sl b a2 :=
  h.mod m id id id (fun _ _ h => h) (fun _ _ h => h) fun _ _ h => h

theorem retD_one {mk : List Nat} {W : World} {K : World → Prop} (hm : mk = [] ∨ ∃ D, mk = [D]) (h : ∀ D ∈ mk, hp W D = some (.deferred (some []))) (hK : ∀ W', Mod (fun b => b ∈ mk) W W' → K W') : retD (mk ++ []) W K := by
  rcases hm with rfl | ⟨D, rfl⟩
  · exact hK W (Mod.refl _ _)
  · refine retD_hp.2 ⟨h D (by simp), ?_⟩
    exact retD_nil.2 (hK _ ((Mod.refl (fun b => b ∈ [D]) W).putObj (b := D) (.inl (by simp)) _))
theorem ru_errno {W : World} {K : World → Prop} {q : Nat} {z : Value} {e : Int} (hm : hp W q = some (.cells #[z] 28 (0, 0))) (hK : ∀ W', Mod (fun b => b = q) W W' → hp W' q = some (.cells #[.int .i64 e] 28 (0, 0)) → K W') :
    ru Try.prog (Instr.storeAt 28 (.pointer (some ⟨q, 0, none⟩)) (.int .i64 e)) W K := by
  refine ru_of (w' := W.setCell ⟨q, 0, none⟩ (.int .i64 e)) (by simp [go_sem, hm]) (hK _ ((Mod.refl (fun b => b = q) W).setCell (.inl rfl) _ _) ?_)
  simp [go_sem, hm]
theorem ld_errno {W : World} {q : Nat} {z : Value} (hm : hp W q = some (.cells #[z] 28 (0, 0))) (hz : ∃ e, z = .int .i64 e) : (Instr.loadAt 28 (.pointer (some ⟨q, 0, none⟩))).run Try.prog W = .ok z W := by
  obtain ⟨e, rfl⟩ := hz
  simp [go_sem, hm]

/-- A result is laid, and handed back. -/
theorem ret90 {W : World} {K : Kont} {p0 p2 : Nat} {mk : List Nat} {x x0 : ShotM} {sl sl0 z : Value} (h0 : hp W p0 = some (.cells (shotC x0 sl0).toArray 83 (0, 0))) (h2 : hp W p2 = some (.cells #[z] 28 (0, 0))) (hs : ∃ a n c, sl = .slice a n c)
    (hm : mk = [] ∨ ∃ D, mk = [D]) (hmk : ∀ D ∈ mk, hp W D = some (.deferred (some []))) (p02 : p0 ≠ p2) (p0m : p0 ∉ mk) (p2m : p2 ∉ mk)
    (hK : ∀ W', Mod (fun b => b = p0 ∨ b = p2 ∨ b ∈ mk) W W' → K (.tuple #[.agg (shotC x sl).toArray, .int .i64 0]) W') :
    ru Try.prog (Instr.storeAt 83 (.pointer (some ⟨p0, 0, none⟩)) (.agg (shotC x sl).toArray)) W fun w139 =>
    ru Try.prog (Instr.storeAt 28 (.pointer (some ⟨p2, 0, none⟩)) (.int .i64 0)) w139 fun w140 =>
    retD (mk ++ []) w140 fun w141 =>
    rdW Try.prog (Instr.loadAt 83 (.pointer (some ⟨p0, 0, none⟩))) w141 fun v142 =>
    rdW Try.prog (Instr.loadAt 28 (.pointer (some ⟨p2, 0, none⟩))) w141 fun v143 =>
    K (.tuple #[v142, v143]) w141 := by
  refine ru_shot h0 hs fun W1 m1 k1 => ?_
  refine ru_errno (m1.keep h2 (fun e => p02 e.symm)) fun W2 m2 k2 => ?_
  refine retD_one hm (fun D hD => ?_) fun W3 m3 => ?_
  · refine m2.keep (m1.keep (hmk D hD) fun e => p0m (e ▸ hD)) fun e => p2m (e ▸ hD)
  obtain ⟨a, n, c, rfl⟩ := hs
  refine rdW_of (sload (m3.keep (m2.keep k1 p02) p0m)).2.2.2 ?_
  refine rdW_of (ld_errno (m3.keep k2 p2m) ⟨_, rfl⟩) ?_
  exact hK _ (((m1.mono fun _ _ h => .inl h).trans (m2.mono fun _ _ h => .inr (.inl h))).trans (m3.mono fun _ _ h => .inr (.inr h)))

set_option maxRecDepth 10000 in
theorem tail90_ok {w : World} {K : Kont} {p0 p2 q : Nat} {mk : List Nat} {x : ShotM} {sl a2 : Value} {b : List UInt8} (h : T90 w p0 p2 q mk x sl b a2) (hx : x.ok) (hm : mk = [] ∨ ∃ D, mk = [D]) (p02 : p0 ≠ p2) (p0m : p0 ∉ mk) (p2m : p2 ∉ mk)
    (hK : ∀ w' x' sl', x' = (if x.may = false then shot0 else if marksB b x = false then shot0 else x) → (x' = shot0 ∧ sl' = .slice none 0 0 ∨ x' = x ∧ sl' = sl) → Mod (fun b => b = p0 ∨ b = p2 ∨ b ∈ mk) w w' → K (.tuple #[.agg (shotC x' sl').toArray, .int .i64 0]) w') :
    tail90 (.pointer (some ⟨q, 0, none⟩), ()) (.pointer (some ⟨p0, 0, none⟩)) (.pointer (some ⟨p2, 0, none⟩)) K a2 mk w := by
  have hb384 : b.length = 384 := by simpa using h.rb.1
  obtain ⟨sa, sc, hsl⟩ := h.sh.isSl
  obtain ⟨bb, boff, bcap, hbc, hba⟩ := rd_block h.rb (by omega)
  unfold tail90
  have rx := h.rx
  rw [hsl] at rx
  refine rv_of (sload rx).2.2.2 ?_
  have hsh := h.sh
  rw [hsl] at hsh
  refine ca_smay hsh (by have := hx.2.2; omega) fun w1 m1 => ?_
  have h1 := h.mod0 m1
  refine rv_of (v := .bool (!x.may)) (w' := w1) (by simp [go_sem]) ?_
  have fin0 : ∀ W', Mod (fun _ => False) w W' → (x.may = false ∨ x.may = true ∧ marksB b x = false) → T90 W' p0 p2 q mk x sl b a2 →
      rv Try.prog (Instr.build 83 #[]) W' fun v137 w138 =>
      ru Try.prog (Instr.storeAt 83 (.pointer (some ⟨p0, 0, none⟩)) v137) w138 fun w139 =>
      ru Try.prog (Instr.storeAt 28 (.pointer (some ⟨p2, 0, none⟩)) (.int .i64 0)) w139 fun w140 =>
      retD (mk ++ []) w140 fun w141 =>
      rdW Try.prog (Instr.loadAt 83 (.pointer (some ⟨p0, 0, none⟩))) w141 fun v142 =>
      rdW Try.prog (Instr.loadAt 28 (.pointer (some ⟨p2, 0, none⟩))) w141 fun v143 =>
      K (.tuple #[v142, v143]) w141 := by
    intro W' m hz hT
    refine rv_of (shot_zero _) ?_
    refine ret90 hT.r0 hT.r2 ⟨_, _, _, rfl⟩ hm hT.dfr p02 p0m p2m fun W2 m2 => ?_
    refine hK _ _ _ ?_ (.inl ⟨rfl, rfl⟩) ((m.mono fun _ _ h => h.elim).trans m2)
    rcases hz with hz | ⟨hz1, hz2⟩
    · rw [if_pos hz]
    · rw [if_neg (by simp [hz1]), if_pos hz2]
  cases hmay : x.may
  · rw [show (!false) = true from rfl, ifB_bool, if_pos rfl]
    exact fin0 _ m1 (.inl hmay) h1
  · rw [show (!true) = false from rfl, ifB_bool, if_neg (by simp)]
    unfold L90_0
    refine loopK (fun s W => ∃ i : Nat, i ≤ 3 ∧ s = (.int .i64 (i : Int), ()) ∧ Mod (fun _ => False) w W ∧ T90 W p0 p2 q mk x sl b a2 ∧ ∀ j < i, (b.drop (128 * j)).take 128 = markS j x) (fun s _ => match s.1 with | .int _ i => 3 - i.toNat | _ => 0) ⟨0, by omega, rfl, m1, h1, fun j hj => by omega⟩ ?_
    rintro ⟨_, _⟩ W ⟨i, hi, ⟨⟩, mW, hT, hall⟩ KN hKN _
    by_cases hlt : i < 3
    · have hlt' : (i : Int) < 3 := by omega
      refine rv_of (v := .bool true) (w' := W) (by simp [go_sem, hlt']) ?_
      rw [ifB_bool, if_pos rfl]
      have e1 : IntKind.i64.wrap ((i : Int) * 128) = ((128 * i : Nat) : Int) := by rw [IntKind.wrap_i64]; omega
      have e2 : IntKind.i64.wrap ((i : Int) + 1) = ((i + 1 : Nat) : Int) := by rw [IntKind.wrap_i64]; omega
      have e3 : IntKind.i64.wrap (((i + 1 : Nat) : Int) * 128) = ((128 * i + 128 : Nat) : Int) := by rw [IntKind.wrap_i64]; omega
      refine rdP_of (v := .int .i64 ((128 * i : Nat) : Int)) (fun w => by simp [-Int.natCast_mul, go_sem, e1]) ?_
      refine rdP_of (v := .int .i64 ((i + 1 : Nat) : Int)) (fun w => by simp [-Int.natCast_add, go_sem, e2]) ?_
      refine rdP_of (v := .int .i64 ((128 * i + 128 : Nat) : Int)) (fun w => by simp [-Int.natCast_add, -Int.natCast_mul, go_sem, e3]) ?_
      rw [hba]
      refine rdP_of (slice_lohi (lo := 128 * i) (hi := 128 * i + 128) (by omega) (by omega) (by omega)) ?_
      have md : Mod (fun _ => False) W W.drew := (Mod.refl _ W).drew
      have hTd := hT.mod0 md
      have rxd := hTd.rx
      rw [hsl] at rxd
      refine rdW_of (sload rxd).2.2.2 ?_
      have hshd := hTd.sh
      rw [hsl] at hshd
      refine ca_smark hlt hx hshd fun W2 g o2 m2 n2 => ?_
      have hT2 := hTd.mod0 m2
      have rb2 := hT2.rb
      rw [hba] at rb2
      rw [show 128 * i + 128 - 128 * i = 128 by omega]
      refine ca_equal (rd_part rb2 (128 * i) 128 _ (by omega) (by omega) (by omega)) o2.rd ?_
      refine rdP_of (v := .bool (!decide ((b.drop (128 * i)).take 128 = markS i x))) (fun w => by simp [go_sem]) ?_
      have tW2 := mW.trans (md.trans m2)
      by_cases he : (b.drop (128 * i)).take 128 = markS i x
      · rw [decide_eq_true he, show (!true) = false from rfl, ifB_bool, if_neg (by simp)]
        refine rv_of (v := .int .i64 ((i + 1 : Nat) : Int)) (w' := W2) (by simp [-Int.natCast_add, go_sem, e2]) ?_
        refine hKN _ _ ⟨i + 1, hlt, rfl, tW2, hT2, fun j hj => ?_⟩ (by simp; omega)
        by_cases hji : j = i
        · subst hji; exact he
        · exact hall j (by omega)
      · rw [decide_eq_false he, show (!false) = true from rfl, ifB_bool, if_pos rfl]
        refine fin0 _ tW2 (.inr ⟨hmay, ?_⟩) hT2
        apply Bool.eq_false_iff.2
        intro hc
        exact he (by simpa using List.all_eq_true.1 hc i (List.mem_range.2 hlt))
    · have : i = 3 := by omega
      subst this
      refine rv_of (v := .bool false) (w' := W) (by simp [go_sem]) ?_
      rw [ifB_bool, if_neg (by simp)]
      have hmk : marksB b x = true := List.all_eq_true.2 fun j hj => by simpa using hall j (List.mem_range.1 hj)
      have rxW := hT.rx
      rw [hsl] at rxW
      refine rv_of (sload rxW).2.2.2 ?_
      refine ret90 hT.r0 hT.r2 ⟨_, _, _, rfl⟩ hm hT.dfr p02 p0m p2m fun W2 m2 => ?_
      rw [← hsl]
      exact hK _ x sl (by rw [if_neg (by simp [hmay]), if_neg (by simp [hmk])]) (.inr ⟨rfl, rfl⟩) ((mW.mono fun _ _ h => h.elim).trans m2)
end Go.Proofs

namespace Go.Proofs
open Go Go.Vc

theorem secAt_len {w : World} {d : Nat} {F : Nat → Prop} {D : DM} (h : DiskR w d F D) (f a : Int) : (D.secAt f a).length = 128 := by
  obtain ⟨s, hq⟩ := h
  exact lk_sec (putL_len hq.lasts fun p hp => (hq.waits p hp).1) _
theorem readB_len {D : DM} {f a : Int} (h : ∀ a, (D.secAt f a).length = 128) : ∀ n, (D.readB f a n).length = 128 * n
  | 0 => rfl
  | n + 1 => by
    have := readB_len (a := a) h n
    unfold DM.readB at *
    rw [List.range_succ, List.flatMap_append, List.length_append, this]
    simp [h]
    omega
theorem readB_sec {D : DM} {f a : Int} (h : ∀ a, (D.secAt f a).length = 128) : ∀ n i, i < n → ((D.readB f a n).drop (128 * i)).take 128 = D.secAt f (a + (i : Int))
  | 0, i, hi => by omega
  | n + 1, i, hi => by
    have hl := readB_len (a := a) h n
    have ih := readB_sec (a := a) h n
    have e : D.readB f a (n + 1) = D.readB f a n ++ D.secAt f (a + (n : Int)) := by
      unfold DM.readB
      rw [List.range_succ, List.flatMap_append]
      simp
    rw [e]
    by_cases hin : i < n
    · rw [List.drop_append_of_le_length (by omega), List.take_append_of_le_length (by simp; omega)]
      exact ih i hin
    · have : i = n := by omega
      subst this
      rw [← hl, List.drop_left]
      exact List.take_of_length_le (by rw [h]; exact Nat.le_refl _)
theorem drop_one {B : List UInt8} {i : Nat} {s : Sec} (h : (B.drop (128 * i)).take 128 = s) : (B.drop (128 * i + 1)).take 127 = s.drop 1 := by
  rw [← h, List.drop_take, List.drop_drop]

theorem errno_alloc (W : World) : (Instr.alloc 28 true (.tuple #[])).run Try.prog W = .ok (.pointer (some ⟨W.heap.size, 0, none⟩)) (W.alloc (.cells #[.int .i64 0] 28)) := by simp [go_sem]
theorem sl_alloc (W : World) : (Instr.alloc 23 true (.tuple #[])).run Try.prog W = .ok (.pointer (some ⟨W.heap.size, 0, none⟩)) (W.alloc (.cells #[.slice none 0 0] 23)) := by simp [go_sem]
theorem ru_sl {W : World} {K : World → Prop} {q : Nat} {z v : Value} (hm : hp W q = some (.cells #[z] 23 (0, 0))) (hv : ∃ a n c, v = .slice a n c) (hK : ∀ W', Mod (fun b => b = q) W W' → hp W' q = some (.cells #[v] 23 (0, 0)) → K W') :
    ru Try.prog (Instr.storeAt 23 (.pointer (some ⟨q, 0, none⟩)) v) W K := by
  obtain ⟨a, n, c, rfl⟩ := hv
  refine ru_of (w' := W.setCell ⟨q, 0, none⟩ (.slice a n c)) (by simp [go_sem, hm]) (hK _ ((Mod.refl (fun b => b = q) W).setCell (.inl rfl) _ _) ?_)
  simp [go_sem, hm]
theorem ld_sl {W : World} {q : Nat} {a : Option Addr} {n c : Nat} (hm : hp W q = some (.cells #[.slice a n c] 23 (0, 0))) : (Instr.loadAt 23 (.pointer (some ⟨q, 0, none⟩))).run Try.prog W = .ok (.slice a n c) W := by
  simp [go_sem, hm]
/-- The bytes of a snapshot's variable. -/
theorem ru_data {W : World} {K : World → Prop} {q : Nat} {i t : Nat} {l : List UInt8} {sl v : Value} (hm : hp W q = some (.cells (shotC ⟨i, t, l⟩ sl).toArray 83 (0, 0))) (hv : ∃ a n c, v = .slice a n c)
    (hK : ∀ W', Mod (fun b => b = q) W W' → (∀ l', hp W' q = some (.cells (shotC ⟨i, t, l'⟩ v).toArray 83 (0, 0))) → K W') :
    ru Try.prog (Instr.storeAt 23 (.pointer (some ⟨q, 2, none⟩)) v) W K := by
  obtain ⟨a, n, c, rfl⟩ := hv
  unfold shotC at hm
  refine ru_of (w' := W.setCell ⟨q, 2, none⟩ (.slice a n c)) (by simp [go_sem, hm]) (hK _ ((Mod.refl (fun b => b = q) W).setCell (.inl rfl) _ _) fun l' => ?_)
  simp [go_sem, hm, shotC]
theorem slice_hiU {b off n cap hi : Nat} (hn : hi ≤ cap) (hc : 0 < cap) (hb : hi < 9223372036854775808) (W : World) : (Instr.sliceAt 23 (.slice (some ⟨b, off, none⟩) n cap) none (some (.int .u64 (hi : Int))) none).run Try.prog W = .ok (.slice (some ⟨b, off, none⟩) hi cap) W := by
  have e2 : ¬ (cap = 0) := by omega
  have e3 : ¬ (0 = cap) := by omega
  simp [go_sem, hn, e2, e3, addr_add]
  try omega

set_option maxRecDepth 20000 in
theorem ca_counted {w : World} {K : Kont} {d : Nat} {F : Nat → Prop} {D : DM} {f : Int} {a2 : Value} {b : List UInt8} (h : DiskR w d F D) (ho : D.off = false) (hf : 0 ≤ f ∧ f < 5) (hD : D.waits.length < 9223372036854775807) (hb : Rd w 1 a2 384 (bv b))
    (hK : ∀ w' sl, ShR w' (counted (fun i => D.secAt f (i : Int)) b) sl → (∀ x, inRd sl x → w.heap.size ≤ x) → Mod (fun _ => False) w w' → K (.tuple #[.agg (shotC (counted (fun i => D.secAt f (i : Int)) b) sl).toArray, .int .i64 0]) w') :
    Ca Try.prog 90 #[dptr d, .int .i64 f, a2] w K := by
  have hb384 : b.length = 384 := by simpa using hb.1
  obtain ⟨C, hC⟩ : ∃ C : Nat → Sec, (fun i : Nat => D.secAt f (i : Int)) = C := ⟨_, rfl⟩
  have hCl : ∀ i, (C i).length = 128 := fun i => by rw [← hC]; exact secAt_len h _ _
  rw [hC] at hK
  obtain ⟨bb, boff, bcap, hbc, rfl⟩ := rd_block hb (by omega)
  obtain ⟨hn1, hn2, hn3⟩ := hNum_lt b
  apply ca90
  unfold F90
  refine rv_of (shot_alloc w) ?_
  have mA : Mod (fun _ => False) w (w.alloc (.cells (shotC shot0 (.slice none 0 0)).toArray 83)) := (Mod.refl _ w).alloc _
  have r0 : hp (w.alloc (.cells (shotC shot0 (.slice none 0 0)).toArray 83)) w.heap.size = some (.cells (shotC shot0 (.slice none 0 0)).toArray 83 (0, 0)) := by simp only [hp_alloc, if_pos]
  generalize (w.alloc (.cells (shotC shot0 (.slice none 0 0)).toArray 83)) = w1 at mA r0
  obtain ⟨p0, hp0⟩ : ∃ p0, w.heap.size = p0 := ⟨_, rfl⟩
  rw [hp0] at r0 ⊢
  have lp0 := lt_of_heap r0
  refine rv_of (errno_alloc w1) ?_
  have mB : Mod (fun _ => False) w1 (w1.alloc (.cells #[.int .i64 0] 28)) := (Mod.refl _ w1).alloc _
  have r2 : hp (w1.alloc (.cells #[.int .i64 0] 28)) w1.heap.size = some (.cells #[.int .i64 0] 28 (0, 0)) := by simp only [hp_alloc, if_pos]
  generalize (w1.alloc (.cells #[.int .i64 0] 28)) = w2 at mB r2
  have r0 := mB.keep r0 id
  have m2 := mA.trans mB
  obtain ⟨p2, hp2⟩ : ∃ p2, w1.heap.size = p2 := ⟨_, rfl⟩
  rw [hp2] at r2 lp0 ⊢
  have lp2 := lt_of_heap r2
  have hb2 := hb.mod m2 fun _ _ h => h
  have tk : ∀ i : Nat, i + 8 ≤ 384 → ((b.drop i).take (384 - i)).take 8 = (b.drop i).take 8 := fun i h => by rw [List.take_take, Nat.min_eq_left (by omega)]
  have g : ∀ i : Nat, i + 8 ≤ 384 → ∀ W', Mod (fun _ => False) w2 W' → ∀ K : Kont, K (.int .u64 (ofB ((b.drop i).take 8))) W' → Ca Try.prog 101 #[.slice (some ⟨bb, boff + i, none⟩) (384 - i) (bcap - i)] W' K :=
    fun i hi W' m K h => ca_get64s (rd_part (hb2.mod m fun _ _ h => h) i (384 - i) _ (by omega) (by omega) (by omega)) (by omega) (by rw [tk i hi]; exact h)
  refine joinK (fun s W => ∃ q, s = (.pointer (some ⟨q, 0, none⟩), ()) ∧ Mod (fun _ => False) w2 W ∧ w2.heap.size ≤ q ∧ hp W q = some (.cells (shotC ⟨hIdx b, hTerm b, []⟩ (.slice none 0 0)).toArray 83 (0, 0))) (fun JJ hJJ => ?_) ?_
  · refine rdP_of (slice_lo (lo := 1) (by omega) hbc (by omega)) ?_
    refine rdP_of (slice_lo (lo := 9) (by omega) hbc (by omega)) ?_
    have md : Mod (fun _ => False) w2 w2.drew := (Mod.refl _ w2).drew
    have bld : ∀ w, (Instr.build 83 #[(0, .int .u64 (ofB ((b.drop 1).take 8))), (1, .int .u64 (ofB ((b.drop 9).take 8)))]).run Try.prog w = .ok (.agg (shotC ⟨hIdx b, hTerm b, []⟩ (.slice none 0 0)).toArray) w := fun w => by simp [go_sem, shotC, hIdx, hTerm]
    have al : ∀ W', Mod (fun _ => False) w2 W' → Mod (fun _ => False) w2 (W'.alloc (.cells (shotC shot0 (.slice none 0 0)).toArray 83)) ∧ hp (W'.alloc (.cells (shotC shot0 (.slice none 0 0)).toArray 83)) W'.heap.size = some (.cells (shotC shot0 (.slice none 0 0)).toArray 83 (0, 0)) := fun W' m => ⟨m.alloc _, by simp only [hp_alloc, if_pos]⟩
    have fin : ∀ W' q, Mod (fun _ => False) w2 W' → hp W' q = some (.cells (shotC shot0 (.slice none 0 0)).toArray 83 (0, 0)) → w2.heap.size ≤ q → ru Try.prog (Instr.storeAt 83 (.pointer (some ⟨q, 0, none⟩)) (.agg (shotC ⟨hIdx b, hTerm b, []⟩ (.slice none 0 0)).toArray)) W' fun w => JJ (.pointer (some ⟨q, 0, none⟩), ()) w :=
      fun W' q m hm hq => ru_shot hm ⟨_, _, _, rfl⟩ fun W2 m2 h2 => hJJ _ _ ⟨q, rfl, m.on m2 fun x hx => .inr (by omega), hq, h2⟩
    refine ⟨g 1 (by omega) _ md _ ⟨?_, ?_⟩, ?_⟩
    · refine g 9 (by omega) _ md _ (rdP_of bld ?_)
      obtain ⟨m1, h1⟩ := al _ md
      exact rv_of (shot_alloc _) (fin _ _ m1 h1 md.size)
    · obtain ⟨m1, h1⟩ := al _ md
      exact rv_of (shot_alloc _) (g 9 (by omega) _ m1 _ (rdP_of bld (fin _ _ m1 h1 md.size)))
    · obtain ⟨m1, h1⟩ := al _ md
      exact rv_of (shot_alloc _) (g 1 (by omega) _ m1 _ (g 9 (by omega) _ m1 _ (rdP_of bld (fin _ _ m1 h1 md.size))))
  rintro _ W ⟨q, rfl, mW, lq, rq⟩
  unfold J90_6
  intro _
  have lqW := lt_of_heap rq
  have p02 : p0 ≠ p2 := by omega
  refine rv_of (slice_lo (lo := 17) (by omega) hbc (by omega) W) ?_
  refine g 17 (by omega) W mW _ ?_
  rw [show ofB ((b.drop 17).take 8) = hLen b from rfl]
  obtain ⟨n, hn⟩ : ∃ n, hLen b = n := ⟨_, rfl⟩
  have r0W := mW.keep r0 id
  have r2W := mW.keep r2 id
  have tW := m2.trans mW
  rw [hn] at hn3 ⊢
  refine rv_of (v := .bool (decide (524288 < n))) (w' := W) (by simp [go_sem]; omega) ?_
  by_cases hbig : 524288 < n
  · rw [decide_eq_true hbig, ifB_bool, if_pos rfl]
    refine rv_of (shot_zero W) ?_
    refine ret90 (mk := []) r0W r2W ⟨_, _, _, rfl⟩ (.inl rfl) (fun _ h => by cases h) p02 (by simp) (by simp) fun W2 m2' => ?_
    have e : counted C b = shot0 := by unfold counted; rw [hn, if_pos hbig]
    rw [e] at hK
    refine hK _ _ ⟨rfl, .inl ⟨rfl, _, _, rfl⟩⟩ (fun x hx => by obtain ⟨a, _, _, he, _⟩ := hx; cases he) (tW.on m2' fun x hx => .inr ?_)
    rcases hx with rfl | rfl | hx
    · omega
    · have := mA.size; omega
    · cases hx
  rw [decide_eq_false hbig, ifB_bool, if_neg (by simp)]
  have hraw : rawS C b = ⟨hIdx b, hTerm b, datB C n⟩ := by unfold rawS; rw [hn]
  have hdl := datB_length hCl n
  have hxok : (rawS C b).ok := by rw [hraw]; exact ⟨hn1, hn2, by show (datB C n).length < _; omega⟩
  have hcnt : counted C b = if partsB C (datB C n) = false then shot0 else if (rawS C b).may = false then shot0 else if marksB b (rawS C b) = false then shot0 else rawS C b := by
    unfold counted; rw [hn, if_neg hbig]
  refine rv_of (v := .bool (decide (0 < n))) (w' := W) (by simp [go_sem]) ?_
  by_cases h0 : 0 < n
  · rw [decide_eq_true h0, ifB_bool, if_pos rfl]
    have en : IntKind.i64.wrap (n : Int) = (n : Int) := by rw [IntKind.wrap_i64]; omega
    refine rv_of (v := .int .i64 (n : Int)) (w' := W) (by simp [go_sem, en]) ?_
    refine ca_sectors (by omega) ?_
    obtain ⟨N, hN⟩ : ∃ N, (n + 126) / 127 = N := ⟨_, rfl⟩
    have hNs : secN n = N := hN
    have hNb : N ≤ 4129 ∧ 127 * N < n + 127 ∧ n ≤ 127 * N := by omega
    rw [hN]
    have dW := h.mod tW fun _ _ h => h
    refine ca_read (n := (N : Int)) dW hD (fun hh => by rw [ho] at hh; cases hh) (fun _ hh => ?_) fun _ _ W1 cv oc m1 nc => ?_
    · exfalso
      have : mayB f 3 (N : Int) = true := by simp [mayB]; omega
      rw [this] at hh
      cases hh
    rw [Int.toNat_natCast] at oc
    obtain ⟨ca, cc, rfl, hcc⟩ := oc.isSl
    have hBl : (D.readB f 3 N).length = N * 128 := by simpa using oc.1
    refine rv_of (v := .slice ca (N * 128) cc) (w' := W1) (by simp [go_sem]) ?_
    refine rv_of (v := .int .i64 0) (w' := W1) (by simp [go_sem]) ?_
    refine rv_of (sl_alloc W1) ?_
    have mC : Mod (fun _ => False) W1 (W1.alloc (.cells #[.slice none 0 0] 23)) := (Mod.refl _ W1).alloc _
    have re : hp (W1.alloc (.cells #[.slice none 0 0] 23)) W1.heap.size = some (.cells #[.slice none 0 0] 23 (0, 0)) := by simp only [hp_alloc, if_pos]
    generalize (W1.alloc (.cells #[.slice none 0 0] 23)) = W2 at mC re
    obtain ⟨e, he⟩ : ∃ e, W1.heap.size = e := ⟨_, rfl⟩
    rw [he] at re ⊢
    have leW := lt_of_heap re
    have zW1 := m1.size
    refine ru_sl re ⟨_, _, _, rfl⟩ fun W3 m3 re3 => ?_
    have t3 : Mod (fun _ => False) W W3 := (m1.trans mC).on m3 fun x hx => .inr (by omega)
    have oc3 : Own W3 5 1 (.slice ca (N * 128) cc) (N * 128) (bv (D.readB f 3 N)) := (oc.mod mC fun _ _ h => h).mod m3 fun x hx hxe => by have := oc.lt hx; omega
    have le3 := lt_of_heap re3
    refine rv_of (v := .bool false) (w' := W3) (by simp [go_sem]) ?_
    rw [ifB_bool, if_neg (by simp)]
    refine rv_of (v := .int .i64 (n : Int)) (w' := W3) (by simp [go_sem, en]) ?_
    refine ca_sectors (by omega) ?_
    rw [hN]
    have cblk : ∃ cb, ca = some ⟨cb, 0, none⟩ ∧ N * 128 ≤ cc ∧ cb < W3.heap.size ∧ w2.heap.size ≤ cb ∧ W.heap.size ≤ cb ∧ cb < W1.heap.size := by
      obtain ⟨_, ⟨he, h0⟩ | ⟨cb, cap, rest, he, hc, hh, _⟩⟩ := oc3
      · omega
      · injection he with e1 e2 e3
        subst e3
        subst e1
        have h1 : W.heap.size ≤ cb := nc cb rfl
        have h2 : cb < W1.heap.size := oc.lt (b := cb) rfl
        have := mW.size
        exact ⟨cb, rfl, hc, lt_of_heap hh, by omega, h1, h2⟩
    obtain ⟨cb, rfl, hcc', lcb, lcb2, lcb3, lcb4⟩ := cblk
    unfold L90_4
    refine loopK (fun s W' => ∃ (i : Nat) (sl : Value), i ≤ N ∧ s = (.int .i64 (i : Int), ()) ∧ Mod (fun _ => False) w2 W' ∧ W3.heap.size ≤ W'.heap.size ∧ hp W' p0 = some (.cells (shotC shot0 (.slice none 0 0)).toArray 83 (0, 0)) ∧ hp W' p2 = some (.cells #[.int .i64 0] 28 (0, 0)) ∧
        (∀ l', hp W' q = some (.cells (shotC ⟨hIdx b, hTerm b, l'⟩ sl).toArray 83 (0, 0))) ∧ hp W' e = some (.cells #[.slice (some ⟨cb, 0, none⟩) (N * 128) cc] 23 (0, 0)) ∧ Own W' 5 1 (.slice (some ⟨cb, 0, none⟩) (N * 128) cc) (N * 128) (bv (D.readB f 3 N)) ∧
        Own W' 5 1 sl (127 * i) (bv (datF C i)) ∧ (∀ x, inSl sl x → W3.heap.size ≤ x))
      (fun s _ => match s.1 with | .int _ i => N - i.toNat | _ => 0) ⟨0, _, by omega, rfl, mW.trans t3, Nat.le_refl _, t3.keep r0W id, t3.keep r2W id, fun l' => t3.keep rq id, re3, oc3, Own.nil .., fun x hx => by cases hx⟩ ?_
    rintro ⟨_, _⟩ W4 ⟨i, sl, hi, ⟨⟩, m4, z4, r04, r24, rq4, re4, oc4, os4, ns4⟩ KN hKN _
    obtain ⟨f0, f1, f2⟩ := sfield (q := q) (o := 0)
    rw [Nat.zero_add] at f1 f2
    obtain ⟨sa, sc, rfl, hsc⟩ := os4.isSl
    by_cases hlt : i < N
    · have hlt' : (i : Int) < (N : Int) := by omega
      refine rv_of (v := .bool true) (w' := W4) (by simp [go_sem]; omega) ?_
      rw [ifB_bool, if_pos rfl]
      refine rdP_of f2 ?_
      have md : Mod (fun _ => False) W4 W4.drew := (Mod.refl _ W4).drew
      refine rdW_of (sload (md.keep (rq4 []) id)).2.2.1 ?_
      refine rdW_of (ld_sl (md.keep re4 id)) ?_
      have e1 : IntKind.i64.wrap ((i : Int) * 128) = ((128 * i : Nat) : Int) := by rw [IntKind.wrap_i64]; omega
      have e2 : IntKind.i64.wrap (((128 * i : Nat) : Int) + 1) = ((128 * i + 1 : Nat) : Int) := by rw [IntKind.wrap_i64]; omega
      have e3 : IntKind.i64.wrap ((i : Int) + 1) = ((i + 1 : Nat) : Int) := by rw [IntKind.wrap_i64]; omega
      have e4 : IntKind.i64.wrap (((i + 1 : Nat) : Int) * 128) = ((128 * i + 128 : Nat) : Int) := by rw [IntKind.wrap_i64]; omega
      refine rdP_of (v := .int .i64 ((128 * i : Nat) : Int)) (fun w => by simp [-Int.natCast_mul, go_sem, e1]) ?_
      refine rdP_of (v := .int .i64 ((128 * i + 1 : Nat) : Int)) (fun w => by simp [-Int.natCast_add, -Int.natCast_mul, go_sem, e2]) ?_
      refine rdP_of (v := .int .i64 ((i + 1 : Nat) : Int)) (fun w => by simp [-Int.natCast_add, go_sem, e3]) ?_
      refine rdP_of (v := .int .i64 ((128 * i + 128 : Nat) : Int)) (fun w => by simp [-Int.natCast_add, -Int.natCast_mul, go_sem, e4]) ?_
      refine rdP_of (slice_lohi (lo := 128 * i + 1) (hi := 128 * i + 128) (by omega) (by omega) (by omega)) ?_
      rw [show 128 * i + 128 - (128 * i + 1) = 127 by omega]
      have hsec := readB_sec (D := D) (f := f) (a := 3) (fun a => secAt_len h f a) N i hlt
      have hpart := rd_part (oc4.mod md fun _ _ h => h).rd (128 * i + 1) 127 (cc - (128 * i + 1)) (by omega) (by omega) (by omega)
      rw [drop_one hsec] at hpart
      have eC : D.secAt f (3 + (i : Int)) = C (3 + i) := by rw [← hC]; simp
      rw [eC] at hpart
      refine rx_append (n := 127 * i) (m := 127) Try.underlying23 Try.underlying23 (elemT_of uT1) (os4.mod md fun _ _ h => h) hpart (bv_one _) (by omega) fun s5 W5 o5 m5 n5 => ?_
      rw [← bv_append, ← datF_succ, show 127 * i + 127 = 127 * (i + 1) by omega] at o5
      have hns : ∀ x, x < W3.heap.size → ¬ inSl (.slice sa (127 * i) sc) x := fun x hx hh => by have := ns4 x hh; omega
      refine rdP_of f2 ?_
      have k0 := m5.keep (md.keep r04 id) (hns _ (by have := mW.size; have := t3.size; omega))
      have k2 := m5.keep (md.keep r24 id) (hns _ (by have := mW.size; have := t3.size; omega))
      have kq := m5.keep (md.keep (rq4 []) id) (hns _ (by have := t3.size; omega))
      have ke := m5.keep (md.keep re4 id) (hns _ (by omega))
      have kc := (oc4.mod md fun _ _ h => h).mod m5 fun x hx => hns x (by cases hx; exact lcb)
      obtain ⟨s5a, s5c, rfl, -⟩ := o5.isSl
      refine ru_data kq ⟨_, _, _, rfl⟩ fun W6 m6 kq6 => ?_
      refine rv_of (v := .int .i64 ((i + 1 : Nat) : Int)) (w' := W6) (by simp [-Int.natCast_add, go_sem, e3]) ?_
      have n5' : ∀ x, inSl (.slice s5a (127 * (i + 1)) s5c) x → W3.heap.size ≤ x := fun x hx => by
        rcases n5 x hx with h' | h'
        · exact ns4 x h'
        · have := z4
          rw [size_drew] at h'
          omega
      refine hKN _ _ ⟨i + 1, _, hlt, rfl, (m4.trans md |>.on m5 fun x hx => .inr (by have := ns4 x hx; have := (mW.trans t3).size; omega)).on m6 fun x hx => .inr (by omega), ?_, m6.keep k0 (by show ¬ p0 = q; omega), m6.keep k2 (by show ¬ p2 = q; omega), kq6, m6.keep ke (by show ¬ e = q; omega),
        kc.mod m6 fun x hx hxq => by cases hx; show False; simp only at hxq; omega, o5.mod m6 fun x hx hxq => by have := n5' x hx; have := t3.size; omega, n5'⟩ (by simp; omega)
      have := m5.size
      have := m6.size
      rw [size_drew] at *
      omega
    · have : i = N := by omega
      subst this
      refine rv_of (v := .bool false) (w' := W4) (by simp [go_sem]) ?_
      rw [ifB_bool, if_neg (by simp)]
      refine rv_of (f2 _) (rv_of (sload (rq4 [])).2.2.1 ?_)
      obtain ⟨sb, soff, scap, hsc2, hsv⟩ := rd_block os4.rd (by omega)
      injection hsv with e1 e2 e3
      subst e1
      subst e3
      have hso : soff = 0 := by
        obtain ⟨_, ⟨he, h0⟩ | ⟨b', cap, rest, he, hc, hh, _⟩⟩ := os4
        · cases he
        · injection he with e1 e2 e3
          injection e1 with e1
          injection e1 with e1 e4 e5
      subst hso
      refine rv_of (slice_hiU (hi := n) (by omega) (by omega) (by omega) W4) ?_
      refine rv_of (f2 _) ?_
      refine ru_data (rq4 []) ⟨_, _, _, rfl⟩ fun W5 m5 kq5 => ?_
      have lsb := ns4 sb rfl
      have sh5 : ShR W5 (rawS C b) (.slice (some ⟨sb, 0, none⟩) n sc) := by
        have r4 : Rd W4 1 (.slice (some ⟨sb, 0, none⟩) n sc) n (bv (datB C n)) := by
          have := rd_part os4.rd 0 n sc (by omega) h0 (by omega)
          rw [List.drop_zero] at this
          have e : (datF C i).take n = datB C n := by unfold datB; rw [hNs]
          rw [e] at this
          exact this
        unfold ShR
        rw [hraw]
        show Rd W5 1 _ (datB C n).length (bv (datB C n))
        rw [hdl]
        exact r4.mod m5 fun x hx hxq => by obtain ⟨a, _, _, he, -, rfl⟩ := hx; injection he with he; injection he with he; subst he; have := t3.size; simp only at hxq; omega
      have kq5' : hp W5 q = some (.cells (shotC (rawS C b) (.slice (some ⟨sb, 0, none⟩) n sc)).toArray 83 (0, 0)) := by rw [hraw]; exact kq5 _
      have k05 := m5.keep r04 (by show ¬ p0 = q; omega)
      have k25 := m5.keep r24 (by show ¬ p2 = q; omega)
      have ke5 := m5.keep re4 (by show ¬ e = q; omega)
      have kc5 := oc4.mod m5 fun x hx hxq => by cases hx; show False; simp only at hxq; omega
      have tm5 : Mod (fun _ => False) w2 W5 := m4.on m5 fun x hx => .inr (by omega)
      refine rv_of (f2 _) (rv_of (sload kq5').2.2.1 ?_)
      refine ca_parts fun W6 m6 hq6 z6 => ?_
      obtain ⟨qq, hqq⟩ : ∃ qq, W5.heap.size = qq := ⟨_, rfl⟩
      rw [hqq] at hq6 z6 ⊢
      have z5 : W3.heap.size ≤ W5.heap.size := by have := m5.size; omega
      have lsb5 : sb < W5.heap.size := by
        have := os4.lt (b := sb) rfl
        have := m5.size
        omega
      have hbW6 : Rd W6 1 (.slice (some ⟨bb, boff, none⟩) 384 bcap) 384 (bv b) := hb2.mod (tm5.trans m6) fun _ _ h => h
      have q1 : p0 < W5.heap.size ∧ p2 < W5.heap.size ∧ q < W5.heap.size ∧ e < W5.heap.size ∧ cb < W5.heap.size := by
        have := t3.size; have := mW.size
        exact ⟨by omega, by omega, by omega, by omega, by omega⟩
      have bbl : bb < w.heap.size := hb.lt ⟨_, _, _, rfl, by omega, rfl⟩
      have bq : bb < W5.heap.size := by have := tm5.size; have := m2.size; omega
      have secs : ∀ j, j < i → ((D.readB f 3 i).drop (128 * j)).take 128 = C (3 + j) := fun j hj => by
        rw [readB_sec (D := D) (f := f) (a := 3) (fun a => secAt_len h f a) i j hj, ← hC]
        simp
      -- what holds between two rounds, but for the rounds' own state
      let Fix : World → Prop := fun W' => T90 W' p0 p2 q [W6.heap.size] (rawS C b) (.slice (some ⟨sb, 0, none⟩) n sc) b (.slice (some ⟨bb, boff, none⟩) 384 bcap) ∧ Own W' 5 1 (.slice (some ⟨cb, 0, none⟩) (i * 128) cc) (i * 128) (bv (D.readB f 3 i)) ∧ Mod (fun _ => False) w2 W' 
      have fixMod : ∀ {G : Nat → Prop} {W' W'' : World}, Fix W' → Mod G W' W'' → (∀ x, G x → x = e ∨ x = qq ∨ W6.heap.size < x) → Fix W'' := by
        rintro G W' W'' ⟨hT, ho, hm⟩ m hG
        have no : ∀ x, x < W5.heap.size → x ≠ e → ¬ G x := fun x hx hxe hg => by
          rcases hG x hg with h' | h' | h'
          · exact hxe h'
          · omega
          · omega
        refine ⟨hT.mod m (no _ q1.1 (by omega)) (no _ q1.2.1 (by omega)) (no _ q1.2.2.1 (by omega)) (fun x hx => ?_) (fun x hx => ?_) (fun D' hD' hg => ?_), ho.mod m fun x hx => ?_, hm.on m fun x hx => .inr ?_⟩
        · obtain ⟨a, _, _, he', -, rfl⟩ := hx
          injection he' with he'
          injection he' with he'
          subst he'
          exact no _ lsb5 (by simp only; omega)
        · obtain ⟨a, _, _, he', -, rfl⟩ := hx
          injection he' with he'
          injection he' with he'
          subst he'
          exact no _ bq (by simp only; omega)
        · simp only [List.mem_singleton] at hD'
          subst hD'
          rcases hG _ hg with h' | h' | h' <;> omega
        · cases hx
          exact no _ q1.2.2.2.2 (by show ¬ cb = e; omega)
        · have := tm5.size
          rcases hG x hx with h' | h' | h' <;> omega
      refine RFW_topG (n := secN n) (np := 1) (iter_parts (q := qq) (a := some ⟨sb, 0, none⟩) (cap := sc) (l := datB C n) (n := n) hdl (by omega)) (by omega) hq6
        (fun j x W' r o hg hl => by obtain ⟨v, rfl, hov⟩ := hg; exact ⟨v, rfl, hov.putLoop hl _⟩) (fun j x W' hg => by obtain ⟨v, rfl, _⟩ := hg; rfl)
        (fun j W' => j ≤ i ∧ Fix W' ∧ (∃ a' c', hp W' e = some (.cells #[.slice a' ((i - j) * 128) c'] 23 (0, 0)) ∧ (j < i → a' = some ⟨cb, 128 * j, none⟩ ∧ c' = cc - 128 * j)) ∧ ∀ k < j, C (3 + k) = partS (datB C n) k)
        (fun c W' => c = .ret ∧ partsB C (datB C n) = false ∧ hp W' p0 = some (.cells (shotC shot0 (.slice none 0 0)).toArray 83 (0, 0)) ∧ hp W' p2 = some (.cells #[.int .i64 0] 28 (0, 0)) ∧ hp W' W6.heap.size = some (.deferred (some [])) ∧ Mod (fun _ => False) w W')
        ?_ ?_ ?_ ?_ ?_ ?_
      · rintro j W' ⟨-, ⟨hT, -, -⟩, -, -⟩
        have h2 : Rd W' 1 (.slice (some ⟨sb, 0, none⟩) n sc) (datB C n).length (bv (datB C n)) := by
          have := hT.sh
          unfold ShR at this
          rw [hraw] at this
          exact this
        rw [hdl] at h2
        exact h2
      · rintro j W' W'' ⟨hj, hF, ⟨a', c', he', hc'⟩, hall⟩ m
        refine ⟨hj, fixMod hF m (fun x hx => ?_), ⟨a', c', m.keep he' (fun hx => ?_), hc'⟩, hall⟩
        · rcases hx with rfl | rfl
          · right; right; omega
          · right; left; rfl
        · rcases hx with hx | hx <;> omega
      · intro o
        have m9 : Mod (fun _ => False) W6 ((W6.alloc (.deferred (some []))).alloc (.loop o)) := ((Mod.refl _ W6).alloc _).alloc _
        have e9 : hp ((W6.alloc (.deferred (some []))).alloc (.loop o)) W6.heap.size = some (.deferred (some [])) := by simp [go_sem]
        generalize (W6.alloc (.deferred (some []))).alloc (.loop o) = W9 at m9 e9
        have t9 := m6.trans m9
        refine ⟨by omega, ⟨⟨t9.keep k05 id, t9.keep k25 id, t9.keep kq5' id, sh5.mod t9 fun _ _ h => h, hbW6.mod m9 fun _ _ h => h, fun D' hD' => ?_⟩, kc5.mod t9 fun _ _ h => h, tm5.trans t9⟩, ⟨_, _, t9.keep ke5 id, fun _ => ⟨by rw [Nat.mul_zero], by omega⟩⟩, fun k hk => by omega⟩
        simp only [List.mem_singleton] at hD'
        subst hD'
        exact e9
      · rintro j x W' rb hj ⟨v, rfl, hov⟩ ⟨hji, hF, ⟨a', c', he', hc'⟩, hall⟩ hrb hst KN KJ hKN hKJ W0 hbeg
        rw [hNs] at hj
        obtain ⟨rfl, rfl⟩ := hc' hj
        unfold R90_2
        refine hbeg _ ?_
        refine rv_of (ld_sl he') ?_
        refine rv_of (slice_lohi (lo := 0) (hi := 128) (by omega) (by omega) (by omega) W') ?_
        have hpart := rd_part hF.2.1.rd (128 * j) 128 (cc - 128 * j) (by omega) (by omega) (by omega)
        rw [secs j hj] at hpart
        rw [Nat.add_zero, Nat.sub_zero, Nat.sub_zero]
        rw [Nat.zero_add] at hpart
        refine ca_equal (u := v) hov.rd hpart ?_
        refine rv_of (v := .bool (!decide (partS (datB C n) j = C (3 + j)))) (w' := W') (by simp [go_sem]) ?_
        by_cases heq : partS (datB C n) j = C (3 + j)
        · rw [decide_eq_true heq, show (!true) = false from rfl, ifB_bool, if_neg (by simp)]
          refine rv_of (ld_sl he') ?_
          obtain ⟨a'', c'', hsl, hst2⟩ : ∃ a'' c'', (Instr.sliceAt 23 (.slice (some ⟨cb, 128 * j, none⟩) ((i - j) * 128) (cc - 128 * j)) (some (.int .i64 128)) none none).run Try.prog W' = .ok (.slice a'' ((i - (j + 1)) * 128) c'') W' ∧ (j + 1 < i → a'' = some ⟨cb, 128 * (j + 1), none⟩ ∧ c'' = cc - 128 * (j + 1)) := by
            by_cases hend' : 128 < cc - 128 * j
            · refine ⟨some ⟨cb, 128 * (j + 1), none⟩, cc - 128 * (j + 1), ?_, fun _ => ⟨rfl, rfl⟩⟩
              have := slice_lo (b := cb) (off := 128 * j) (n := (i - j) * 128) (cap := cc - 128 * j) (lo := 128) (by omega) (by omega) hend' W'
              rw [show 128 * j + 128 = 128 * (j + 1) by omega, show (i - j) * 128 - 128 = (i - (j + 1)) * 128 by omega, show cc - 128 * j - 128 = cc - 128 * (j + 1) by omega] at this
              exact this
            · refine ⟨some ⟨cb, 128 * j, none⟩, 0, ?_, fun h => by omega⟩
              have e1 : cc - 128 * j = 128 := by omega
              have e2 : (i - j) * 128 = 128 := by omega
              have e3 : (i - (j + 1)) * 128 = 0 := by omega
              rw [e1, e2, e3]
              simp [go_sem]
          refine rv_of hsl ?_
          refine ru_sl he' ⟨_, _, _, rfl⟩ fun W2' m2' he2 => ?_
          refine hKN _ ⟨hj, fixMod hF m2' (fun x hx => .inl hx), ⟨_, _, he2, hst2⟩, fun k hk => ?_⟩ (m2'.keep hrb (by show ¬ _ = _; omega)) (m2'.blk qq ?_ (by show ¬ _ = _; omega))
          · by_cases hkj : k = j
            · subst hkj; exact heq.symm
            · exact hall k (by omega)
          · have := lt_of_heap hrb
            omega
        · rw [decide_eq_false heq, show (!false) = true from rfl, ifB_bool, if_pos rfl]
          refine rv_of (shot_zero W') ?_
          refine ru_shot hF.1.r0 ⟨_, _, _, rfl⟩ fun W2' m2' k2' => ?_
          refine ru_errno (m2'.keep hF.1.r2 (fun hh => p02 hh.symm)) fun W3' m3' k3' => ?_
          have hD6 := hF.1.dfr W6.heap.size (by simp)
          refine hKJ _ _ ⟨rfl, ?_, m3'.keep k2' p02, k3', m3'.keep (m2'.keep hD6 (by show ¬ _ = _; omega)) (by show ¬ _ = _; omega), ((m2.trans hF.2.2).on m2' fun x hx => .inr ?_).on m3' fun x hx => .inr ?_⟩ (m3'.keep (m2'.keep hrb (by show ¬ _ = _; omega)) (by show ¬ _ = _; omega))
          · apply Bool.eq_false_iff.2
            intro hc
            refine heq (Eq.symm ?_)
            have := List.all_eq_true.1 hc j (List.mem_range.2 (by rw [hdl, hNs]; exact hj))
            simpa using this
          · omega
          · have := mA.size
            omega
      · rintro W' o ⟨-, hF, -, hall⟩
        show tail90 (.pointer (some ⟨q, 0, none⟩), ()) (.pointer (some ⟨p0, 0, none⟩)) (.pointer (some ⟨p2, 0, none⟩)) K (.slice (some ⟨bb, boff, none⟩) 384 bcap) [W6.heap.size] (W'.putObj (W6.heap.size + 1) (.loop o))
        have hF' := fixMod hF ((Mod.refl (fun b => b = W6.heap.size + 1) W').putObj (b := W6.heap.size + 1) (.inl rfl) (.loop o)) (fun x hx => .inr (.inr (by omega)))
        refine tail90_ok hF'.1 hxok (.inr ⟨_, rfl⟩) p02 (by simp; omega) (by simp; omega) fun w' x' sl' hx' hsl' m' => ?_
        have hpb : partsB C (datB C n) = true := List.all_eq_true.2 fun j hj => by
          rw [hdl] at hj
          simpa using hall j (List.mem_range.1 hj)
        have ex : counted C b = x' := by rw [hcnt, if_neg (by simp [hpb]), ← hx']
        rw [ex] at hK
        have tW' : Mod (fun _ => False) w w' := (m2.trans hF'.2.2).on m' fun x hx => .inr (by
          have := mA.size
          rcases hx with hx | hx | hx
          · omega
          · omega
          · simp only [List.mem_singleton] at hx
            have := tm5.size
            have := m2.size
            omega)
        rcases hsl' with ⟨rfl, rfl⟩ | ⟨rfl, rfl⟩
        · exact hK _ _ ⟨rfl, .inl ⟨rfl, _, _, rfl⟩⟩ (fun x hx => by obtain ⟨a, _, _, he, _⟩ := hx; cases he) tW'
        · refine hK _ _ (hF'.1.sh.mod m' fun x hx hh => ?_) (fun x hx => ?_) tW'
          · obtain ⟨a, _, _, he, -, rfl⟩ := hx
            injection he with he
            injection he with he
            subst he
            simp only [List.mem_singleton] at hh
            have := t3.size
            have := mW.size
            rcases hh with hh | hh | hh <;> omega
          · obtain ⟨a, _, _, he, -, rfl⟩ := hx
            injection he with he
            injection he with he
            subst he
            have := t3.size
            have := tW.size
            show w.heap.size ≤ sb
            omega
      · rintro c W' o ⟨rfl, hpb, h0', h2', hD', hm'⟩
        show retD ([W6.heap.size] ++ []) (W'.putObj (W6.heap.size + 1) (.loop o)) fun w176 =>
          rdW Try.prog (Instr.loadAt 83 (.pointer (some ⟨p0, 0, none⟩))) w176 fun v177 =>
          rdW Try.prog (Instr.loadAt 28 (.pointer (some ⟨p2, 0, none⟩))) w176 fun v178 => K (.tuple #[v177, v178]) w176
        have mp : Mod (fun b => b = W6.heap.size + 1) W' (W'.putObj (W6.heap.size + 1) (.loop o)) := (Mod.refl (fun b => b = W6.heap.size + 1) W').putObj (b := W6.heap.size + 1) (.inl rfl) (.loop o)
        refine retD_one (.inr ⟨_, rfl⟩) (fun D' hD2 => ?_) fun W2' m2' => ?_
        · simp only [List.mem_singleton] at hD2
          subst hD2
          exact mp.keep hD' (by show ¬ _ = _; omega)
        have no : ∀ x, x < W6.heap.size → ¬ x ∈ [W6.heap.size] := fun x hx hh => by simp only [List.mem_singleton] at hh; omega
        refine rdW_of (sload (m2'.keep (mp.keep h0' (by show ¬ _ = _; omega)) (no _ (by omega)))).2.2.2 ?_
        refine rdW_of (ld_errno (m2'.keep (mp.keep h2' (by show ¬ _ = _; omega)) (no _ (by omega))) ⟨_, rfl⟩) ?_
        have ex : counted C b = shot0 := by rw [hcnt, if_pos hpb]
        rw [ex] at hK
        refine hK _ _ ⟨rfl, .inl ⟨rfl, _, _, rfl⟩⟩ (fun x hx => by obtain ⟨a, _, _, he, _⟩ := hx; cases he) ((hm'.on mp fun x hx => .inr ?_).on m2' fun x hx => .inr ?_)
        · have := tm5.size
          have := m2.size
          omega
        · simp only [List.mem_singleton] at hx
          have := tm5.size
          have := m2.size
          omega
  · have hn0 : n = 0 := by omega
    subst hn0
    rw [decide_eq_false h0, ifB_bool, if_neg (by simp)]
    show tail90 (.pointer (some ⟨q, 0, none⟩), ()) (.pointer (some ⟨p0, 0, none⟩)) (.pointer (some ⟨p2, 0, none⟩)) K (.slice (some ⟨bb, boff, none⟩) 384 bcap) [] W
    have hd0 : datB C 0 = [] := List.length_eq_zero_iff.1 hdl
    refine tail90_ok (x := rawS C b) (sl := .slice none 0 0) ⟨r0W, r2W, by rw [hraw]; exact rq, ?_, hb2.mod mW fun _ _ h => h, fun _ h => by cases h⟩ hxok (.inl rfl) p02 (by simp) (by simp) fun w' x' sl' hx' hsl' m' => ?_
    · unfold ShR
      rw [hraw, hd0]
      exact ⟨rfl, .inl ⟨rfl, _, _, rfl⟩⟩
    have hpb : partsB C (datB C 0) = true := by rw [hd0]; rfl
    have ex : counted C b = x' := by rw [hcnt, if_neg (by simp [hpb]), ← hx']
    rw [ex] at hK
    refine hK _ _ ?_ (fun x hx => ?_) (tW.on m' fun x hx => .inr ?_)
    · rcases hsl' with ⟨rfl, rfl⟩ | ⟨rfl, rfl⟩
      · exact ⟨rfl, .inl ⟨rfl, _, _, rfl⟩⟩
      · unfold ShR
        rw [hraw, hd0]
        exact ⟨rfl, .inl ⟨rfl, _, _, rfl⟩⟩
    · have : sl' = .slice none 0 0 := by rcases hsl' with ⟨-, h⟩ | ⟨-, h⟩ <;> exact h
      subst this
      obtain ⟨a, _, _, he, _⟩ := hx
      cases he
    · have := mA.size
      rcases hx with hx | hx | hx
      · omega
      · omega
      · cases hx

def marks3 (C : Nat → Sec) : List UInt8 := C 0 ++ (C 1 ++ C 2)
theorem marks3_length {C : Nat → Sec} (h : ∀ i, (C i).length = 128) : (marks3 C).length = 384 := by simp [marks3, h]
theorem readB_marks (D : DM) (f : Int) : D.readB f 0 3 = marks3 (fun i => D.secAt f (i : Int)) := by
  unfold DM.readB marks3
  simp [List.range_succ]
/-- What is read of a file. -/
def fileS (D : DM) (f : Int) : ShotM := counted (fun i => D.secAt f (i : Int)) (marks3 fun i => D.secAt f (i : Int))
def DM.smay (D : DM) (f : Int) : Int := if D.off then 180 else if mayB f 0 3 then 0 else 2

set_option maxRecDepth 20000 in
theorem ca_sread {w : World} {K : Kont} {d : Nat} {F : Nat → Prop} {D : DM} {f : Int} (h : DiskR w d F D) (hD : D.waits.length < 9223372036854775807)
    (hK1 : D.smay f ≠ 0 → ∀ w', Mod (fun _ => False) w w' → K (.tuple #[.agg (shotC shot0 (.slice none 0 0)).toArray, .slice none 0 0, .int .i64 (D.smay f)]) w')
    (hK2 : D.smay f = 0 → ∀ w' sl mv, ShR w' (fileS D f) sl → (∀ x, inRd sl x → w.heap.size ≤ x) → Own w' 5 1 mv 384 (bv (marks3 fun i => D.secAt f (i : Int))) → (∀ x, inSl mv x → w.heap.size ≤ x) → (∀ x, inRd sl x → ¬ inSl mv x) → Mod (fun _ => False) w w' → K (.tuple #[.agg (shotC (fileS D f) sl).toArray, mv, .int .i64 0]) w') :
    Ca Try.prog 71 #[dptr d, .int .i64 f] w K := by
  apply ca71
  unfold F71
  refine rv_of (shot_alloc w) ?_
  have mA : Mod (fun _ => False) w (w.alloc (.cells (shotC shot0 (.slice none 0 0)).toArray 83)) := (Mod.refl _ w).alloc _
  have r0 : hp (w.alloc (.cells (shotC shot0 (.slice none 0 0)).toArray 83)) w.heap.size = some (.cells (shotC shot0 (.slice none 0 0)).toArray 83 (0, 0)) := by simp only [hp_alloc, if_pos]
  generalize (w.alloc (.cells (shotC shot0 (.slice none 0 0)).toArray 83)) = w1 at mA r0
  obtain ⟨p0, hp0⟩ : ∃ p0, w.heap.size = p0 := ⟨_, rfl⟩
  rw [hp0] at r0 ⊢
  have lp0 := lt_of_heap r0
  have bad : ∀ (e : Int) (W' : World), D.smay f = e → e ≠ 0 → Mod (fun _ => False) w1 W' → hp W' p0 = some (.cells (shotC shot0 (.slice none 0 0)).toArray 83 (0, 0)) →
      rv Try.prog (Instr.build 83 #[]) W' fun v10 w11 => ru Try.prog (Instr.storeAt 83 (.pointer (some ⟨p0, 0, none⟩)) v10) w11 fun w12 =>
      rdW Try.prog (Instr.loadAt 83 (.pointer (some ⟨p0, 0, none⟩))) w12 fun v13 => K (.tuple #[v13, (.slice none 0 0), .int .i64 e]) w12 := by
    intro e W' he h0 m hr
    refine rv_of (shot_zero W') ?_
    refine ru_shot hr ⟨_, _, _, rfl⟩ fun W2 m2 k2 => ?_
    refine rdW_of (sload k2).2.2.2 ?_
    rw [← he]
    exact hK1 (by rw [he]; exact h0) _ ((mA.trans m).on m2 fun x hx => .inr (by omega))
  have h1 := h.mod mA fun _ _ h => h
  refine ca_read (n := 3) h1 hD (fun ho => ?_) (fun ho hm => ?_) fun ho hm W1 mv om m1 nm => ?_
  · have e : D.smay f = 180 := by unfold DM.smay; rw [if_pos ho]
    refine rv_of (v := .slice none 0 0) (w' := w1) (by simp [go_sem]) ?_
    refine rv_of (v := .int .i64 180) (w' := w1) (by simp [go_sem]) ?_
    refine rv_of (v := .bool true) (w' := w1) (by simp [go_sem]) ?_
    rw [ifB_bool, if_pos rfl]
    exact bad 180 w1 e (by decide) (Mod.refl _ _) r0
  · have e : D.smay f = 2 := by unfold DM.smay; rw [if_neg (by simp [ho]), if_neg (by simp [hm])]
    refine rv_of (v := .slice none 0 0) (w' := w1) (by simp [go_sem]) ?_
    refine rv_of (v := .int .i64 2) (w' := w1) (by simp [go_sem]) ?_
    refine rv_of (v := .bool true) (w' := w1) (by simp [go_sem]) ?_
    rw [ifB_bool, if_pos rfl]
    exact bad 2 w1 e (by decide) (Mod.refl _ _) r0
  · have e : D.smay f = 0 := by unfold DM.smay; rw [if_neg (by simp [ho]), if_pos hm]
    rw [show (3 : Int).toNat = 3 from rfl, readB_marks] at om
    obtain ⟨ma, mc, rfl, -⟩ := om.isSl
    refine rv_of (v := .slice ma (3 * 128) mc) (w' := W1) (by simp [go_sem]) ?_
    refine rv_of (v := .int .i64 0) (w' := W1) (by simp [go_sem]) ?_
    refine rv_of (v := .bool false) (w' := W1) (by simp [go_sem]) ?_
    rw [ifB_bool, if_neg (by simp)]
    have d1 := h1.mod m1 fun _ _ h => h
    refine ca_counted (b := marks3 fun i => D.secAt f (i : Int)) d1 ho (by simp [mayB] at hm; omega) hD om.rd fun W2 sl hs ns m2 => ?_
    refine rv_of (v := .agg (shotC (fileS D f) sl).toArray) (w' := W2) (by simp [go_sem]; rfl) ?_
    refine rv_of (v := .int .i64 0) (w' := W2) (by simp [go_sem]) ?_
    refine rv_of (shot_alloc W2) ?_
    have mC : Mod (fun _ => False) W2 (W2.alloc (.cells (shotC shot0 (.slice none 0 0)).toArray 83)) := (Mod.refl _ W2).alloc _
    have rC : hp (W2.alloc (.cells (shotC shot0 (.slice none 0 0)).toArray 83)) W2.heap.size = some (.cells (shotC shot0 (.slice none 0 0)).toArray 83 (0, 0)) := by simp only [hp_alloc, if_pos]
    generalize (W2.alloc (.cells (shotC shot0 (.slice none 0 0)).toArray 83)) = W3 at mC rC
    obtain ⟨q, hq⟩ : ∃ q, W2.heap.size = q := ⟨_, rfl⟩
    rw [hq] at rC ⊢
    obtain ⟨sa, sc, rfl⟩ := hs.isSl
    refine ru_shot rC ⟨_, _, _, rfl⟩ fun W4 m4 r4 => ?_
    refine rv_of (sload r4).2.2.2 ?_
    have z1 := m1.size
    have z2 := m2.size
    have z3 := mA.size
    have t4 : Mod (fun b => b = q) W2 W4 := (mC.mono fun _ _ h => h.elim).trans m4
    have r04 := t4.keep (m2.keep (m1.keep r0 id) id) (by show ¬ _ = _; omega)
    refine ru_shot r04 ⟨_, _, _, rfl⟩ fun W5 m5 r5 => ?_
    refine rdW_of (sload r5).2.2.2 ?_
    have t5 : Mod (fun b => b = q ∨ b = p0) W2 W5 := (t4.mono fun _ _ h => .inl h).trans (m5.mono fun _ _ h => .inr h)
    refine hK2 e _ _ _ (hs.mod t5 fun x hx hh => ?_) (fun x hx => ?_) ((om.mod m2 fun _ _ h => h).mod t5 fun x hx hh => ?_) (fun x hx => ?_) (fun x hx hx2 => ?_) (((mA.trans m1).trans m2).on t5 fun x hx => .inr ?_)
    · have := ns x hx
      have := hs.lt hx
      rcases hh with hh | hh <;> omega
    · have := ns x hx; omega
    · have := nm x hx
      have := om.lt hx
      rcases hh with hh | hh <;> omega
    · have := nm x hx; omega
    · have := ns x hx
      have := om.lt hx2
      omega
    · rcases hx with hx | hx <;> omega
end Go.Proofs
