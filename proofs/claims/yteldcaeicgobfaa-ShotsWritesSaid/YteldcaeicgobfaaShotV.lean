/-
  The contracts of the document's May, number, of, Mark and Form of snapshots.
  Conditions: where they ask for any, each theorem names them.
-/
import Derived.Test.YteldcaeicgobfaaShotP4
import Derived.Test.YteldcaeicgobfaaG8
set_option linter.unusedVariables false
set_option linter.unusedSimpArgs false
namespace Go.Proofs
open Go Go.Vc

set_option maxRecDepth 10000 in
theorem ca_number21 {w : World} {K : Kont} {x : Nat} (hx : x < 18446744073709551616)
    (hK : ∀ v w', Own w' 5 1 v 8 (bv (be 8 x)) → Mod (fun _ => False) w w' → (∀ b, inSl v b → w.heap.size ≤ b) → K v w') : Ca Try.prog 97 #[.int .u64 (x : Int)] w K := by
  apply ca97
  unfold F97
  unfold L97_0
  refine loopK (fun s W => ∃ (j : Nat) (v : Value), j ≤ 8 ∧ s = (v, .int .i64 (7 - (j : Int)), ()) ∧ Own W 5 1 v j (bv ((be 8 x).take j)) ∧ Mod (fun _ => False) w W ∧ ∀ b, inSl v b → w.heap.size ≤ b)
    (fun s _ => match s.2.1 with | .int _ i => (i + 1).toNat | _ => 0) ⟨0, _, by omega, rfl, Own.nil .., Mod.refl _ _, fun b hb => by cases hb⟩ ?_
  rintro ⟨_, _⟩ W ⟨j, v, hj, ⟨⟩, oW, mW, nW⟩ KN hKN _
  by_cases hlt : j < 8
  · have h1 : (0 : Int) ≤ 7 - (j : Int) := by omega
    refine rv_of (v := .bool true) (w' := W) (by simp [go_sem]; omega) ?_
    rw [ifB_bool, if_pos rfl]
    have h8 : IntKind.i64.wrap (8 * (7 - (j : Int))) = ((8 * (7 - j) : Nat) : Int) := by rw [IntKind.wrap_i64]; omega
    refine rv_of (v := .int .i64 ((8 * (7 - j) : Nat) : Int)) (w' := W) (by simp [-Int.natCast_mul, go_sem, h8]) ?_
    have h9 : IntKind.u64.wrap (((8 * (7 - j) : Nat) : Int)) = ((8 * (7 - j) : Nat) : Int) := by rw [IntKind.wrap_u64]; omega
    refine rv_of (v := .int .u64 ((8 * (7 - j) : Nat) : Int)) (w' := W) (by simp [-Int.natCast_mul, go_sem, h9]) ?_
    have e1 : (2 : Int) ^ (8 * (7 - j)) = ((256 ^ (7 - j) : Nat) : Int) := by
      rw [Int.pow_mul]
      simp
    refine rv_of (v := .int .u64 ((x / 256 ^ (7 - j) : Nat) : Int)) (w' := W) (by
      simp [-Int.natCast_mul, -Int.natCast_ediv, go_sem]
      rw [Int.natCast_ediv, ← e1]) ?_
    have h6 : IntKind.u8.wrap ((x / 256 ^ (7 - j) : Nat) : Int) = ((UInt8.ofNat (x / 256 ^ (8 - 1 - j))).toNat : Int) := by
      rw [IntKind.wrap_u8]
      simp
    refine rv_of (v := .int .u8 ((UInt8.ofNat (x / 256 ^ (8 - 1 - j))).toNat : Int)) (w' := W) (by simp [-Int.natCast_ediv, -UInt8.toNat_ofNat', go_sem]; exact h6) ?_
    refine litL [UInt8.ofNat (x / 256 ^ (8 - 1 - j))] rfl rfl (by omega) fun v1 W2 o2 m2 n2 => ?_
    refine rx_append Try.underlying23 Try.underlying23 (elemT_of uT1) (oW.mod m2 fun _ _ h => h) o2.rd (bv_one _) (by omega) fun v3 W3 o3 m3 n3 => ?_
    rw [← bv_append, ← be_take hlt] at o3
    have h5 : IntKind.i64.wrap (7 - (j : Int) - 1) = 7 - ((j + 1 : Nat) : Int) := by rw [IntKind.wrap_i64]; omega
    refine rv_of (v := .int .i64 (7 - ((j + 1 : Nat) : Int))) (w' := W3) (by simp [-Int.natCast_add, go_sem, h5]) ?_
    have lW := mW.size
    refine hKN _ _ ⟨j + 1, v3, hlt, rfl, o3, (mW.trans m2).on m3 fun b hb => .inr (nW b hb), fun b hb => ?_⟩ (by simp; omega)
    rcases n3 b hb with h | h
    · exact nW b h
    · have := m2.size; omega
  · have : j = 8 := by omega
    subst this
    refine rv_of (v := .bool false) (w' := W) (by simp [go_sem]) ?_
    rw [ifB_bool, if_neg (by simp)]
    rw [List.take_of_length_le (by rw [be_length]; exact Nat.le_refl _)] at oW
    exact hK _ _ oW mW nW

set_option maxRecDepth 10000 in
theorem ca_of21 {w : World} {K : Kont} {v : Value} {n : Nat} {bs : List UInt8} (h : Rd w 1 v n (bv bs)) (hn : 8 ≤ n) (hK : K (.int .u64 (ofB (bs.take 8))) w) : Ca Try.prog 96 #[v] w K := by
  have hl : bs.length = n := by simpa using h.1
  apply ca96
  unfold F96
  unfold L96_0
  refine loopK (fun s W => W = w ∧ ∃ j : Nat, j ≤ 8 ∧ s = (.int .u64 (ofB (bs.take j)), .int .i64 j, ())) (fun s _ => match s.2.1 with | .int _ i => 8 - i.toNat | _ => 0) ⟨rfl, 0, by omega, rfl⟩ ?_
  rintro ⟨_, _⟩ W ⟨rfl, j, hj, ⟨⟩⟩ KN hKN _
  have hw1 : IntKind.i64.wrap ((j : Int) + 1) = ((j + 1 : Nat) : Int) := by rw [IntKind.wrap_i64]; omega
  by_cases hlt : j < 8
  · obtain ⟨b, off, cap, C, e, fz, rfl, hC, hCj⟩ := rd_at h (i := j) (by omega)
    have hjl : j < bs.length := by omega
    have hcj : C[off + j]? = some (.int .u8 (bs[j].toNat : Int)) := by
      rw [hCj, bv, List.getElem?_map, List.getElem?_eq_getElem hjl]
      rfl
    have hlt' : (j : Int) < 8 := by omega
    have hlt2 : ofB (bs.take j) < 72057594037927936 := by
      have h1 := ofB_lt (bs.take j)
      have h2 : (bs.take j).length ≤ 7 := by simp; omega
      have h3 : 256 ^ (bs.take j).length ≤ 256 ^ 7 := Nat.pow_le_pow_right (by omega) h2
      omega
    have hc := (bs[j]).toNat_lt
    have e1 : IntKind.u64.wrap ((ofB (bs.take j) : Int) * 256) = ((ofB (bs.take j) * 256 : Nat) : Int) := by rw [IntKind.wrap_u64]; omega
    have e2 : IntKind.u64.wrap ((bs[j].toNat : Nat) : Int) = ((bs[j].toNat : Nat) : Int) := by rw [IntKind.wrap_u64]; omega
    have e3 : IntKind.u64.wrap (((ofB (bs.take j) * 256 : Nat) : Int) + ((bs[j].toNat : Nat) : Int)) = ((ofB (bs.take (j + 1)) : Nat) : Int) := by
      rw [ofB_take _ _ hjl, IntKind.wrap_u64]; omega
    have hjn : j < n := by omega
    refine rv_of (v := .bool true) (w' := W) (by simp [go_sem, hlt']) ?_
    rw [ifB_bool, if_pos rfl]
    refine rv_of (v := .int .u64 ((ofB (bs.take j) * 256 : Nat) : Int)) (w' := W) (by simp [-Int.natCast_mul, go_sem, e1]) ?_
    refine rv_of (v := .pointer (some ⟨b, off + j, none⟩)) (w' := W) (by simp [go_sem, hjn]) ?_
    refine rv_of (v := .int .u8 (bs[j].toNat : Int)) (w' := W) (by simp [go_sem, hC, hcj]) ?_
    refine rv_of (v := .int .u64 (bs[j].toNat : Int)) (w' := W) (by simp [go_sem, e2]) ?_
    refine rv_of (v := .int .u64 ((ofB (bs.take (j + 1)) : Nat) : Int)) (w' := W) (by simp [-Int.natCast_mul, go_sem, e3]) ?_
    refine rv_of (v := .int .i64 ((j + 1 : Nat) : Int)) (w' := W) (by simp [-Int.natCast_add, go_sem, hw1]) ?_
    exact hKN _ _ ⟨rfl, j + 1, hlt, rfl⟩ (by simp; omega)
  · have : j = 8 := by omega
    subst this
    refine rv_of (v := .bool false) (w' := W) (by simp [go_sem]) ?_
    rw [ifB_bool, if_neg (by simp)]
    exact hK
theorem ca_may21 {w : World} {K : Kont} {x : ShotM} {sl : Value} (h : ShR w x sl) (hn : x.data.length < 9223372036854775807) (hK : ∀ w', Mod (fun _ => False) w w' → K (.bool x.may) w') : Ca Try.prog 52 #[.agg (shotC x sl).toArray] w K := by
  obtain ⟨a, c, rfl⟩ := h.isSl
  apply ca52
  unfold F52
  refine rv_box ?_
  have mA : Mod (fun _ => False) w (w.alloc (.cells (shotC x (.slice a x.data.length c)).toArray 83)) := (Mod.refl _ w).alloc _
  have hA : hp (w.alloc (.cells (shotC x (.slice a x.data.length c)).toArray 83)) w.heap.size = some (.cells (shotC x (.slice a x.data.length c)).toArray 83 (0, 0)) := by simp only [hp_alloc, if_pos]
  generalize (w.alloc (.cells (shotC x (.slice a x.data.length c)).toArray 83)) = W at mA hA
  obtain ⟨f0, f1, f2⟩ := sfield (q := w.heap.size) (o := 0)
  obtain ⟨l0, l1, l2, l3⟩ := sload hA
  refine rv_of (f0 _) (rv_of l0 ?_)
  refine rv_of (v := .bool (decide (x.idx ≠ 0))) (w' := W) ?_ ?_
  · simp [go_sem]
    rw [Bool.eq_iff_iff]
    simp
  by_cases h0 : x.idx = 0
  · have : x.may = false := by simp [ShotM.may, h0]
    rw [this] at hK
    rw [decide_eq_false (by simpa using h0), ifB_bool, if_neg (by simp)]
    exact hK _ mA
  · rw [decide_eq_true h0, ifB_bool, if_pos rfl]
    refine rv_of (f2 _) (rv_of l2 ?_)
    refine rn_len23 ?_
    refine rv_of (v := .bool x.may) (w' := W) ?_ (hK _ mA)
    simp [go_sem, ShotM.may, h0]
    omega


set_option maxRecDepth 10000 in
theorem ca_mark21 {w : World} {K : Kont} {k : Nat} {x : ShotM} {sl : Value} (hk : k < 3) (hx : x.ok) (h : ShR w x sl)
    (hK : ∀ v w', Nw w w' v 128 (markS k x) → K v w') : Ca Try.prog 80 #[.int .u8 ((k + 1 : Nat) : Int), .agg (shotC x sl).toArray] w K := by
  obtain ⟨x1, x2, x3⟩ := hx
  obtain ⟨a, c, rfl⟩ := h.isSl
  apply ca80
  unfold F80
  refine rv_shbox fun W q mA hq hA zA => ?_
  obtain ⟨f0, f1, f2⟩ := sfield (q := q) (o := 0)
  have ek : ((k + 1 : Nat) : Int) = ((UInt8.ofNat (k + 1)).toNat : Int) := by simp; omega
  rw [ek]
  refine litL [UInt8.ofNat (k + 1)] rfl rfl (by omega) fun v2 W2 o2 m2 n2 => ?_
  have A2 : Nw W W2 v2 1 [UInt8.ofNat (k + 1)] := ⟨o2, m2, n2⟩
  have h2 := m2.keep hA id
  refine rv_of (f0 _) (rv_of (sload h2).1 ?_)
  refine ca_number21 x1 fun v3 W3 o3 m3 n3 => ?_
  refine nw_append (A2.on m3) o3.rd (by omega) fun v4 W4 A4 m4 => ?_
  have h4 := A4.mod.keep hA id
  refine rv_of (f1 _) (rv_of (sload h4).2.1 ?_)
  refine ca_number21 x2 fun v5 W5 o5 m5 n5 => ?_
  refine nw_append (A4.on m5) o5.rd (by omega) fun v6 W6 A6 m6 => ?_
  have h6 := A6.mod.keep hA id
  refine rv_of (f2 _) (rv_of (sload h6).2.2.1 ?_)
  refine rn_len23 ?_
  have eL : IntKind.u64.wrap (x.data.length : Int) = (x.data.length : Int) := by rw [IntKind.wrap_u64]; omega
  refine rv_of (v := .int .u64 (x.data.length : Int)) (w' := W6) (by simp [go_sem, eL]) ?_
  refine ca_number21 (x := x.data.length) (by omega) fun v7 W7 o7 m7 n7 => ?_
  refine nw_append (A6.on m7) o7.rd (by omega) fun v8 W8 A8 m8 => ?_
  have h8 := A8.mod.keep hA id
  refine rv_of (f2 _) (rv_of (sload h8).2.2.1 ?_)
  have r8 : ShR W8 x (.slice a x.data.length c) := (h.mod mA fun _ _ h => h).mod A8.mod fun _ _ h => h
  refine ca_refSum r8 x3 ?_
  have hc := crcOf_lt x.data
  obtain ⟨y, hy⟩ : ∃ y, crcOf x.data = y := ⟨_, rfl⟩
  rw [hy] at hc ⊢
  have hu : ∀ k : Nat, IntKind.u8.wrap ((y / 256 ^ k : Nat) : Int) = ((UInt8.ofNat (y / 256 ^ k)).toNat : Int) := by
    intro k
    rw [IntKind.wrap_u8]
    simp
  refine rv_of (v := .int .u32 ((y / 256 ^ 3 : Nat) : Int)) (w' := W8) (by simp [go_sem]) ?_
  refine rv_of (v := .int .u8 ((UInt8.ofNat (y / 256 ^ 3)).toNat : Int)) (w' := W8) (by simp [-Int.natCast_ediv, -UInt8.toNat_ofNat', go_sem]; exact hu 3) ?_
  refine rv_of (v := .int .u32 ((y / 256 ^ 2 : Nat) : Int)) (w' := W8) (by simp [go_sem]) ?_
  refine rv_of (v := .int .u8 ((UInt8.ofNat (y / 256 ^ 2)).toNat : Int)) (w' := W8) (by simp [-Int.natCast_ediv, -UInt8.toNat_ofNat', go_sem]; exact hu 2) ?_
  refine rv_of (v := .int .u32 ((y / 256 ^ 1 : Nat) : Int)) (w' := W8) (by simp [go_sem]) ?_
  refine rv_of (v := .int .u8 ((UInt8.ofNat (y / 256 ^ 1)).toNat : Int)) (w' := W8) (by simp [-Int.natCast_ediv, -UInt8.toNat_ofNat', go_sem]; exact hu 1) ?_
  have h0 := hu 0
  rw [Nat.pow_zero, Nat.div_one] at h0
  refine rv_of (v := .int .u8 ((UInt8.ofNat y).toNat : Int)) (w' := W8) (by simp [-Int.natCast_ediv, -UInt8.toNat_ofNat', go_sem]; exact h0) ?_
  refine litL (be 4 y) (by simp [be]) (be_length 4 y) (by omega) fun v12 W12 o12 m12 n12 => ?_
  refine nw_append (A8.on m12) o12.rd (by omega) fun v13 W13 A13 m13 => ?_
  have eb : ((([UInt8.ofNat (k + 1)] ++ be 8 x.idx) ++ be 8 x.term) ++ be 8 x.data.length) ++ be 4 y = UInt8.ofNat (k + 1) :: hdrS x := by rw [← hy]; simp [hdrS]
  rw [eb] at A13
  obtain ⟨p13, c13, rfl, -⟩ := A13.own.isSl
  refine rn_len23 ?_
  refine rv_of (v := .int .i64 ((99 : Nat) : Int)) (w' := W13) (by simp [go_sem]; rfl) ?_
  refine rx_appendZ (m := 99) (z := .int .u8 0) Try.underlying23 Try.underlying3 (elemT_of uT1) uT2 rfl rfl A13.own (by omega) fun v14 W14 o14 m14 n14 => ?_
  refine hK v14 W14 ⟨?_, (mA.trans A13.mod).on m14 fun b hb => .inr (by have := A13.new b hb; have := mA.size; omega), fun b hb => ?_⟩
  · have e : bv (UInt8.ofNat (k + 1) :: hdrS x) ++ List.replicate 99 (.int .u8 0) = bv (markS k x) := by
      rw [markS, bv_append, bv_replicate]
      rfl
    rw [← e]
    exact o14
  · rcases n14 b hb with h | h
    · have := A13.new b h; have := mA.size; omega
    · have := A13.mod.size; have := mA.size; omega

/-- A part, filled to somewhere. -/
def pf (l : List UInt8) (a k : Nat) : List UInt8 := 9 :: ((l.drop a).take k ++ List.replicate (127 - k) 0)
theorem pf_set {l : List UInt8} {a k : Nat} (h : a + k < l.length) (hk : k < 127) : (pf l a k).set (1 + k) l[a + k] = pf l a (k + 1) := by
  have hd : k < (l.drop a).length := by simp; omega
  have e1 : ((l.drop a).take k).length = k := by simp; omega
  unfold pf
  rw [show 1 + k = k + 1 by omega, List.set_cons_succ, List.set_append_right _ _ (by omega), e1, Nat.sub_self, List.take_succ_eq_append_getElem hd, List.append_assoc, show 127 - k = (127 - (k + 1)) + 1 by omega, List.replicate_succ]
  simp
theorem pf_end {l : List UInt8} {i k : Nat} (hk : k ≤ 127) (h : k = 127 ∨ l.length ≤ 127 * i + k) (hl : 127 * i + k ≤ l.length) : pf l (127 * i) k = partS l i := by
  unfold pf partS
  have e : (l.drop (127 * i)).take k = (l.drop (127 * i)).take 127 := by
    rcases h with rfl | h
    · rfl
    · rw [List.take_of_length_le (by simp; omega), List.take_of_length_le (by simp; omega)]
  have e1 : ((l.drop (127 * i)).take 127).length = k := by rw [← e]; simp; omega
  rw [e, e1]
def formP (x : ShotM) (i : Nat) : List UInt8 := ((markS 0 x ++ markS 1 x) ++ markS 2 x) ++ (List.range i).flatMap fun j => partS x.data j
def formS (x : ShotM) : List UInt8 := formP x (secN x.data.length)
theorem formP_succ (x : ShotM) (i : Nat) : formP x (i + 1) = formP x i ++ partS x.data i := by
  unfold formP
  rw [List.range_succ, List.flatMap_append, List.append_assoc]
  simp

set_option maxRecDepth 10000 in
theorem ca_form21 {w : World} {K : Kont} {x : ShotM} {sl : Value} (hx : x.ok) (hn : x.data.length ≤ 60000) (h : ShR w x sl)
    (hK : ∀ v w', Nw w w' v (384 + 128 * secN x.data.length) (formS x) → K v w') : Ca Try.prog 53 #[.agg (shotC x sl).toArray] w K := by
  obtain ⟨sa, sc, rfl⟩ := h.isSl
  apply ca53
  unfold F53
  refine rv_shbox fun W q mA hq hA zA => ?_
  obtain ⟨f0, f1, f2⟩ := sfield (q := q) (o := 0)
  have md : Mod (fun _ => False) W W.drew := (Mod.refl _ W).drew
  have ld : ∀ W', Mod (fun _ => False) W W' → (Instr.loadAt 83 (.pointer (some ⟨q, 0, none⟩))).run Try.prog W' = .ok (.agg (shotC x (.slice sa x.data.length sc)).toArray) W' := fun W' h => (sload (h.keep hA id)).2.2.2
  have hW : ∀ W', Mod (fun _ => False) W W' → ShR W' x (.slice sa x.data.length sc) := fun W' m => (h.mod mA fun _ _ h => h).mod m fun _ _ h => h
  refine rdW_of (ld _ md) ?_
  refine rdW_of (ld _ md) ?_
  refine rdW_of (ld _ md) ?_
  refine ca_mark21 (k := 0) (by omega) hx (hW _ md) fun v1 W1 A1 => ?_
  have t1 := md.trans A1.mod
  refine ⟨ld _ t1, ld _ t1, ?_⟩
  refine ca_mark21 (k := 1) (by omega) hx (hW _ t1) fun v2 W2 A2 => ?_
  have t2 := t1.trans A2.mod
  refine ⟨ld _ t2, ?_⟩
  have B1 : Nw W W2 v1 128 (markS 0 x) := ⟨(A1.on A2.mod).own, t2, fun b hb => by have := A1.new b hb; rw [size_drew] at this; omega⟩
  refine nw_append B1 A2.own.rd (by omega) fun v3 W3 A3 m3 => ?_
  have t3 : Mod (fun _ => False) W W3 := A3.mod
  refine ⟨ld _ t3, ?_⟩
  refine ca_mark21 (k := 2) (by omega) hx (hW _ t3) fun v4 W4 A4 => ?_
  refine nw_append (A3.on A4.mod) A4.own.rd (by omega) fun v5 W5 A5 m5 => ?_
  have A5' : Nw W W5 v5 (384 + 128 * 0) (formP x 0) := by
    have e : formP x 0 = (markS 0 x ++ markS 1 x) ++ markS 2 x := by simp [formP]
    rw [e]
    exact A5
  have hsn : secN x.data.length ≤ 500 := by unfold secN; omega
  unfold L53_2
  refine loopK (fun s W' => ∃ (i : Nat) (v : Value), i ≤ secN x.data.length ∧ s = (v, .int .i64 ((127 * i : Nat) : Int), ()) ∧ Nw W W' v (384 + 128 * i) (formP x i)) (fun s _ => match s.2.1 with | .int _ i => 127 * 1000 - i.toNat | _ => 0) ⟨0, v5, by omega, rfl, A5'⟩ ?_
  rintro ⟨_, _⟩ W6 ⟨i, v, hi, ⟨⟩, A6⟩ KN hKN _
  have h6 := A6.mod.keep hA id
  refine rv_of (f2 _) (rv_of (sload h6).2.2.1 ?_)
  refine rn_len23 ?_
  refine rv_of (v := .bool (decide (127 * i < x.data.length))) (w' := W6) (by simp [-Int.natCast_mul, go_sem]) ?_
  by_cases hlt : 127 * i < x.data.length
  · rw [decide_eq_true hlt, ifB_bool, if_pos rfl]
    have him : i < secN x.data.length := by unfold secN; omega
    refine mk_zero (n := 128) (c := 128) (by omega) (by omega) fun W7 h7 m7 => ?_
    obtain ⟨g, hg⟩ : ∃ g, W6.heap.size = g := ⟨_, rfl⟩
    rw [hg] at h7 ⊢
    have o7 := own_zero h7 (c := 128) (by simp)
    refine rv_of (index8 (j := 0) (by omega) W7) ?_
    obtain ⟨g', c2, hv, -, hst2, o8, m8⟩ := own_put o7 (i := 0) (by omega) 9
    injection hv with e1 e2 e3
    injection e1 with e1
    injection e1 with e1 e4 e5
    subst e1
    refine ru_of hst2 ?_
    generalize (W7.setCell ⟨g, 0, none⟩ (.int .u8 ((9 : UInt8).toNat : Int))) = W8 at o8 m8
    have e9 : (List.replicate 128 (0 : UInt8)).set 0 9 = pf x.data (127 * i) 0 := by simp [pf, List.replicate_succ]
    rw [e9] at o8
    have g6 : ∀ b, inSl (.slice (some ⟨g, 0, none⟩) 128 128) b → W6.heap.size ≤ b := fun b hb => by
      have : b = g := by cases hb; rfl
      omega
    have N8 : Nw W6 W8 (.slice (some ⟨g, 0, none⟩) 128 128) 128 (pf x.data (127 * i) 0) := ⟨o8, m7.on m8 fun b hb => .inr (g6 b hb), g6⟩
    unfold L53_1
    refine loopK (fun s W' => ∃ k : Nat, k ≤ 127 ∧ 127 * i + k ≤ x.data.length ∧ s = (.int .i64 (k : Int), ()) ∧ Nw W6 W' (.slice (some ⟨g, 0, none⟩) 128 128) 128 (pf x.data (127 * i) k)) (fun s _ => match s.1 with | .int _ i => 128 - i.toNat | _ => 0) ⟨0, by omega, by omega, rfl, N8⟩ ?_
    rintro ⟨_, _⟩ W9 ⟨k, hk, hkl, ⟨⟩, A9⟩ KN2 hKN2 _
    have t9 : Mod (fun _ => False) W W9 := A6.mod.trans A9.mod
    have h9 := t9.keep hA id
    have e10 : IntKind.i64.wrap (((127 * i : Nat) : Int) + (k : Int)) = ((127 * i + k : Nat) : Int) := by rw [IntKind.wrap_i64]; omega
    refine joinK (fun s W' => W' = W9 ∧ s = (.bool (decide (k < 127 ∧ 127 * i + k < x.data.length)), ())) (fun JJ hJJ => ?_) ?_
    · refine rv_of (v := .bool (decide (k < 127))) (w' := W9) (by simp [go_sem]; omega) ?_
      by_cases h1 : k < 127
      · rw [decide_eq_true h1, ifB_bool, if_pos rfl]
        refine rv_of (v := .int .i64 ((127 * i + k : Nat) : Int)) (w' := W9) (by simp [-Int.natCast_mul, -Int.natCast_add, go_sem, e10]) ?_
        refine rv_of (f2 _) (rv_of (sload h9).2.2.1 ?_)
        refine rn_len23 ?_
        refine rv_of (v := .bool (decide (127 * i + k < x.data.length))) (w' := W9) (by simp [-Int.natCast_mul, -Int.natCast_add, go_sem]) ?_
        exact hJJ _ _ ⟨rfl, by simp [h1]⟩
      · rw [decide_eq_false h1, ifB_bool, if_neg (by simp)]
        exact hJJ _ _ ⟨rfl, by simp [h1]⟩
    rintro _ W10 ⟨hW10, rfl⟩
    subst hW10
    unfold J53_0
    intro _
    by_cases hc : k < 127 ∧ 127 * i + k < x.data.length
    · rw [decide_eq_true hc, ifB_bool, if_pos rfl]
      have e11 : IntKind.i64.wrap (1 + (k : Int)) = ((1 + k : Nat) : Int) := by rw [IntKind.wrap_i64]; omega
      have e12 : IntKind.i64.wrap ((k : Int) + 1) = ((k + 1 : Nat) : Int) := by rw [IntKind.wrap_i64]; omega
      refine rv_of (v := .int .i64 ((1 + k : Nat) : Int)) (w' := W10) (by simp [-Int.natCast_add, go_sem, e11]) ?_
      refine rv_of (f2 _) (rv_of (sload h9).2.2.1 ?_)
      refine rv_of (v := .int .i64 ((127 * i + k : Nat) : Int)) (w' := W10) (by simp [-Int.natCast_mul, -Int.natCast_add, go_sem, e10]) ?_
      obtain ⟨b, off, cap, C, e, fz, hv2, hC, hCj⟩ := rd_at (hW _ t9) (i := 127 * i + k) hc.2
      injection hv2 with d1 d2 d3
      subst d1 d3
      have hcj : C[off + (127 * i + k)]? = some (.int .u8 (x.data[127 * i + k].toNat : Int)) := by
        rw [hCj, bv, List.getElem?_map, List.getElem?_eq_getElem hc.2]
        rfl
      refine rv_of (index8 hc.2 W10) ?_
      refine rv_of (v := .int .u8 (x.data[127 * i + k].toNat : Int)) (w' := W10) (by simp [go_sem, hC, hcj]) ?_
      have k128 : 1 + k < 128 := by omega
      refine rv_of (index8 k128 W10) ?_
      obtain ⟨g', c3, hv, -, hst3, o11, m11⟩ := own_put A9.own k128 x.data[127 * i + k]
      injection hv with e1 e2 e3
      injection e1 with e1
      injection e1 with e1 e4 e5
      subst e1
      rw [Nat.zero_add]
      refine ru_of hst3 ?_
      refine rv_of (v := .int .i64 ((k + 1 : Nat) : Int)) (w' := W10.setCell ⟨g, 1 + k, none⟩ (.int .u8 (x.data[127 * i + k].toNat : Int))) (by simp [-Int.natCast_add, go_sem, e12]) ?_
      rw [pf_set hc.2 hc.1] at o11
      exact hKN2 _ _ ⟨k + 1, by omega, by omega, rfl, o11, A9.mod.on m11 fun y hy => .inr (g6 y hy), g6⟩ (by simp; omega)
    · rw [decide_eq_false hc, ifB_bool, if_neg (by simp)]
      rw [pf_end hk (by omega) hkl] at A9
      refine nw_append (A6.on A9.mod) A9.own.rd (by omega) fun v12 W12 A12 m12 => ?_
      rw [← formP_succ] at A12
      have e13 : IntKind.i64.wrap (((127 * i : Nat) : Int) + 127) = ((127 * (i + 1) : Nat) : Int) := by rw [IntKind.wrap_i64]; omega
      refine rv_of (v := .int .i64 ((127 * (i + 1) : Nat) : Int)) (w' := W12) (by simp [-Int.natCast_mul, -Int.natCast_add, go_sem, e13]) ?_
      exact hKN _ _ ⟨i + 1, v12, him, rfl, by rw [show 384 + 128 * (i + 1) = 384 + 128 * i + 128 by omega]; exact A12⟩ (by simp; omega)
  · rw [decide_eq_false hlt, ifB_bool, if_neg (by simp)]
    have : i = secN x.data.length := by unfold secN at *; omega
    subst this
    exact hK _ _ ⟨A6.own, mA.trans A6.mod, fun b hb => by have := A6.new b hb; have := mA.size; omega⟩
end Go.Proofs
