/-
  More rules: an append where there is room, a part of an aggregate, aggregates compared.
  Conditions: none; nothing here speaks of a program.
-/
import Derived.Test.YteldcaeicgobfaaVcIter
import Derived.ChangeKeysEq
set_option linter.unusedSimpArgs false
set_option linter.unusedVariables false
namespace Go.Vc
open Go

theorem lay_lay {C xs ys : List Value} {o : Nat} (h : o + xs.length + ys.length ≤ C.length) : lay (lay C o xs) (o + xs.length) ys = lay C o (xs ++ ys) := by
  unfold lay
  have h1 : (C.take o ++ xs ++ C.drop (o + xs.length)).take (o + xs.length) = C.take o ++ xs := by
    rw [List.take_append_of_le_length (by simp; omega), List.take_of_length_le (by simp; omega)]
  have h2 : (C.take o ++ xs ++ C.drop (o + xs.length)).drop (o + xs.length + ys.length) = C.drop (o + (xs ++ ys).length) := by
    rw [List.drop_append, List.drop_eq_nil_of_le (by simp; omega), List.nil_append, List.drop_drop]
    congr 1
    simp
    omega
  rw [h1, h2]
  simp [List.append_assoc]
theorem lay_nil' {C : List Value} {o : Nat} : lay C o [] = C := by simp [lay]

theorem rx_appendIn {P : Program} {t u ty e e' : TypeId} {w : World} {K : Kont} {b off n m cap : Nat} {C : Array Value} {T : TypeId} {x : Value} {news : List Value}
    (ht : P.underlying t = some (.slice e)) (hu : P.underlying u = some (.slice e')) (hc : P.cellsOf e = 1) (hb : w.heap[b]? = some (.cells C T (0, 0))) (hroom : n + m ≤ cap)
    (hx : Rd w 1 x m news) (h1 : news.all (·.oneCell') = true) (hfit : off + n + m ≤ C.size)
    (hK : K (.slice (some ⟨b, off, none⟩) (n + m) cap) (w.setRow b (lay C.toList (off + n) news).toArray)) : rx P (xAppend #[t, u] ty [.slice (some ⟨b, off, none⟩) n cap, x]) w K := by
  obtain ⟨i, hi, hsz⟩ := info_of_cells (n := 0) hc
  have hlen : news.length = m := by simpa using hx.1
  have hfx := hx.first (P := P) (Nat.le_refl 1)
  have hst := run_storeCells_at P b (off + n) T news 0 C w hb (by simp [hlen]; omega) (oneAll_mem h1)
  simp only [Nat.add_zero] at hst
  refine rx_of (v := .slice (some ⟨b, off, none⟩) (n + m) cap) (w' := w.setRow b (lay C.toList (off + n) news).toArray) ?_ hK
  have e0 : (⟨b, off, none⟩ : Addr).add (n * 1) = ⟨b, off + n, none⟩ := by rw [addr_add]; simp
  unfold lay
  simp [xAppend, Builtin.append_, run_underlying ht, sizeOf, typeInfo, hi, hsz, run_underlying hu, hx.lenOf, Result.andThen, hfx, hroom]
  rw [Nat.mul_one] at e0
  rw [e0, hst]
  simp [List.append_assoc]

/-! ### A part of an aggregate -/
theorem run_index_agg {P : Program} {w : World} {xt e : TypeId} {len n : Nat} {cs : Array Value} {k : IntKind} {i : Nat} (hx : P.underlying xt = some (.array len e)) (ha : isAggT P e = true) (hn : P.cellsOf e = n + 1) (hi : i < len) :
    (Instr.index xt (.agg cs) (.int k i)).run P w = .ok (.agg (cs.extract (i * (n + 1)) (i * (n + 1) + (n + 1)))) w := by
  have hi' : (i : Int) < len := by omega
  simp [Instr.index, run_underlying hx, Result.andThen, hi', hi, run_sizeOf hn, part, run_isAgg ha, asIntOf]

/-! ### Arrays of bytes compared -/
theorem eqItems_bytes {P : Program} {w : World} {e : TypeId} (he : P.underlying e = some (.int .u8)) (hc : P.cellsOf e = 1) (d : Nat) (x y : List UInt8) (hl : x.length = y.length) : ∀ (k i : Nat), i + k = x.length →
    (Op.eqItems (d + 1) e 1 (bv x).toArray (bv y).toArray (List.range' i k)).run P w = .ok (decide (x.drop i = y.drop i)) w
  | 0, i, h => by
    have h1 : x.drop i = [] := List.drop_of_length_le (by omega)
    have h2 : y.drop i = [] := List.drop_of_length_le (by omega)
    simp [Op.eqItems, h1, h2]
  | k + 1, i, h => by
    have hx : i < x.length := by omega
    have hy : i < y.length := by omega
    have hag : isAggT P e = false := by unfold isAggT; simp [he]
    have hpart : ∀ (z : List UInt8) (hz : i < z.length), (part e (bv z).toArray (i * 1)).run P w = .ok (.int .u8 z[i].toNat) w := by
      intro z hz
      have h1 : (bv z).toArray[i]? = some (.int .u8 z[i].toNat) := by
        rw [List.getElem?_toArray, bv, List.getElem?_map, List.getElem?_eq_getElem hz]
        rfl
      have h2 : (isAgg e).run P w = .ok false w := by
        unfold isAgg
        simp [run_underlying he, Result.andThen]
      simp [part, h2, Result.andThen, h1]
    rw [List.range'_succ]
    unfold Op.eqItems
    simp only [Sem.run_bind, hpart x hx, hpart y hy, Result.andThen]
    rw [run_equalIn_int w d e .u8 .u8 _ _ he]
    rw [List.drop_eq_getElem_cons hx, List.drop_eq_getElem_cons hy]
    by_cases hxy : x[i] = y[i]
    · have e1 : ((x[i].toNat : Int) == (y[i].toNat : Int)) = true := by simp [hxy]
      simp only [e1, hxy, List.cons.injEq, true_and]
      have := eqItems_bytes (w := w) he hc d x y hl k (i + 1) (by omega)
      simpa using this
    · have e1 : ((x[i].toNat : Int) == (y[i].toNat : Int)) = false := by
        simp only [beq_eq_false_iff_ne, ne_eq]
        intro h
        exact hxy (UInt8.toNat_inj.1 (by omega))
      simp only [e1, List.cons.injEq, hxy, false_and, decide_false]
      simp
theorem eq_bytes {P : Program} {t e : TypeId} {n : Nat} {inf : TypeInfo} (ht : P.underlying t = some (.array n e)) (hi : P.info? e = some inf) (he : P.underlying e = some (.int .u8)) (hc : P.cellsOf e = 1) (d : Nat) (x y : List UInt8) (hx : x.length = n) (hy : y.length = n) (w : World) :
    (Op.equalIn (d + 2) t (.agg (bv x).toArray) (.agg (bv y).toArray)).run P w = .ok (decide (x = y)) w := by
  rw [run_equalIn_array w (d + 1) _ _ ht hi, hc]
  have := eqItems_bytes (w := w) he hc d x y (by omega) n 0 (by omega)
  rw [List.range_eq_range']
  simpa using this

theorem eqItems_rows {P : Program} {w : World} {s e : TypeId} {m : Nat} {inf : TypeInfo} (hs : P.underlying s = some (.array (m + 1) e)) (hi : P.info? e = some inf) (he : P.underlying e = some (.int .u8)) (hc : P.cellsOf e = 1) (hcs : P.cellsOf s = m + 1) (d : Nat) (x y : List UInt8) (hl : x.length = y.length) :
    ∀ (k i : Nat), (i + k) * (m + 1) = x.length → (Op.eqItems (d + 2) s (m + 1) (bv x).toArray (bv y).toArray (List.range' i k)).run P w = .ok (decide (x.drop (i * (m + 1)) = y.drop (i * (m + 1)))) w
  | 0, i, h => by
    have h1 : x.drop (i * (m + 1)) = [] := List.drop_of_length_le (by rw [← h]; exact Nat.le_refl _)
    have h2 : y.drop (i * (m + 1)) = [] := List.drop_of_length_le (by rw [← hl, ← h]; exact Nat.le_refl _)
    simp [Op.eqItems, h1, h2]
  | k + 1, i, h => by
    have hx : i * (m + 1) + (m + 1) ≤ x.length := by
      rw [← h, Nat.add_mul, Nat.add_mul]
      omega
    have hpart : ∀ (z : List UInt8), (part s (bv z).toArray (i * (m + 1))).run P w = .ok (.agg (bv ((z.drop (i * (m + 1))).take (m + 1))).toArray) w := by
      intro z
      have h2 : (isAgg s).run P w = .ok true w := by
        unfold isAgg
        simp [run_underlying hs, Result.andThen]
      have h3 : (sizeOf s).run P w = .ok (m + 1) w := run_sizeOf hcs w
      have h4 : (bv z).toArray.extract (i * (m + 1)) (i * (m + 1) + (m + 1)) = (bv ((z.drop (i * (m + 1))).take (m + 1))).toArray := by
        apply Array.ext'
        rw [Array.toList_extract]
        show ((bv z).drop _).take _ = bv _
        rw [bv_drop, bv_take]
        congr 2
        omega
      simp [part, h2, h3, Result.andThen, h4]
      rw [bv_drop, bv_take]
    rw [List.range'_succ]
    unfold Op.eqItems
    simp only [Sem.run_bind, hpart x, hpart y, Result.andThen]
    have hlx : ((x.drop (i * (m + 1))).take (m + 1)).length = m + 1 := by simp; omega
    have hly : ((y.drop (i * (m + 1))).take (m + 1)).length = m + 1 := by simp; omega
    rw [eq_bytes hs hi he hc d _ _ hlx hly]
    have hih := eqItems_rows (w := w) hs hi he hc hcs d x y hl k (i + 1) (by rw [← h]; congr 1; omega)
    have e1 : x.drop (i * (m + 1)) = (x.drop (i * (m + 1))).take (m + 1) ++ x.drop ((i + 1) * (m + 1)) := by
      conv => lhs; rw [← List.take_append_drop (m + 1) (x.drop (i * (m + 1)))]
      rw [List.drop_drop]
      congr 2
      rw [Nat.add_mul]; omega
    have e2 : y.drop (i * (m + 1)) = (y.drop (i * (m + 1))).take (m + 1) ++ y.drop ((i + 1) * (m + 1)) := by
      conv => lhs; rw [← List.take_append_drop (m + 1) (y.drop (i * (m + 1)))]
      rw [List.drop_drop]
      congr 2
      rw [Nat.add_mul]; omega
    have e3 : (x.drop (i * (m + 1)) = y.drop (i * (m + 1))) = ((x.drop (i * (m + 1))).take (m + 1) = (y.drop (i * (m + 1))).take (m + 1) ∧ x.drop ((i + 1) * (m + 1)) = y.drop ((i + 1) * (m + 1))) := by
      apply propext
      constructor
      · intro h
        rw [h]
        refine ⟨rfl, ?_⟩
        have := congrArg (List.drop (m + 1)) h
        rw [List.drop_drop, List.drop_drop] at this
        rw [Nat.add_mul, Nat.one_mul]
        exact this
      · rintro ⟨h1, h2⟩
        rw [e1, e2, h1, h2]
    by_cases hxy : (x.drop (i * (m + 1))).take (m + 1) = (y.drop (i * (m + 1))).take (m + 1)
    · simp only [e3, hxy, decide_true, Bool.not_true, true_and]
      simpa using hih
    · simp only [e3, hxy, decide_false, false_and]
      simp
theorem eq_rows {P : Program} {t s e : TypeId} {n m : Nat} {inf inf' : TypeInfo} (ht : P.underlying t = some (.array n s)) (his : P.info? s = some inf') (hs : P.underlying s = some (.array (m + 1) e)) (hi : P.info? e = some inf) (he : P.underlying e = some (.int .u8)) (hc : P.cellsOf e = 1) (hcs : P.cellsOf s = m + 1)
    (d : Nat) (x y : List UInt8) (hx : x.length = n * (m + 1)) (hy : y.length = n * (m + 1)) (w : World) : (Op.equalIn (d + 3) t (.agg (bv x).toArray) (.agg (bv y).toArray)).run P w = .ok (decide (x = y)) w := by
  rw [run_equalIn_array w (d + 2) _ _ ht his, hcs]
  have := eqItems_rows (w := w) hs hi he hc hcs d x y (by omega) n 0 (by rw [hx]; simp)
  rw [List.range_eq_range']
  simpa using this
end Go.Vc
