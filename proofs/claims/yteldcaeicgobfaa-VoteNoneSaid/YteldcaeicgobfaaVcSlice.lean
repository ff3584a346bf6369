/-
  Rules of append, copy, make, literals of slices, and conversions between bytes and strings.
  Conditions: none; nothing here speaks of a program.
-/
import Derived.Test.YteldcaeicgobfaaVcRun
import Derived.Laws.IdiomStrings
import Derived.Laws.BytesString
set_option linter.unusedSimpArgs false
set_option linter.unusedVariables false
namespace Go.Vc
open Go

/-- A type whose zero value has just its cells, each one cell. -/
structure ElemT (P : Program) (e : TypeId) (sz by_ : Nat) : Prop where
  ok : ∃ i z, P.info? e = some i ∧ i.zero = some z ∧ i.size = sz ∧ i.bytes = by_ ∧ z.cells.size = sz ∧ z.cells.toList.all (·.oneCell') = true
  pos : 0 < sz
  bpos : 0 < by_

def elemOk (P : Program) (e : TypeId) (sz by_ : Nat) : Bool :=
  Nat.blt 0 sz && Nat.blt 0 by_ && match P.info? e with
  | none => false
  | some i => match i.zero with
    | none => false
    | some z => Nat.beq i.size sz && Nat.beq i.bytes by_ && Nat.beq z.cells.size sz && z.cells.toList.all (·.oneCell')
theorem elemT_of {P : Program} {e : TypeId} {sz by_ : Nat} (h : elemOk P e sz by_ = true) : ElemT P e sz by_ := by
  unfold elemOk at h
  simp only [Bool.and_eq_true] at h
  obtain ⟨⟨h1, h2⟩, h⟩ := h
  cases hi : P.info? e with
  | none => rw [hi] at h; cases h
  | some i =>
    rw [hi] at h
    simp only at h
    cases hz : i.zero with
    | none => rw [hz] at h; cases h
    | some z =>
      rw [hz] at h
      simp only [Bool.and_eq_true] at h
      obtain ⟨⟨⟨h3, h4⟩, h5⟩, h6⟩ := h
      exact ⟨⟨i, z, hi, hz, Nat.eq_of_beq_eq_true h3, Nat.eq_of_beq_eq_true h4, Nat.eq_of_beq_eq_true h5, h6⟩, by simpa [Nat.blt_eq] using h1, by simpa [Nat.blt_eq] using h2⟩


theorem zeroCells_all {z : Array Value} (h : z.toList.all (·.oneCell') = true) (hp : 0 < z.size) (n : Nat) : (Builtin.zeroCells z n).toList.all (·.oneCell') = true := by
  unfold Builtin.zeroCells
  simp only [Array.toList_map, List.all_map, List.all_eq_true]
  intro i _
  have hlt : i % z.size < z.size := Nat.mod_lt _ hp
  simp only [Function.comp_apply]
  rw [getElem!_pos z _ hlt]
  exact List.all_eq_true.1 h _ (by simp)
theorem zeroCells_len (z : Array Value) (n : Nat) : (Builtin.zeroCells z n).toList.length = n * z.size := by simp [Builtin.zeroCells]

theorem rx_append {P : Program} {t u ty e : TypeId} {sz by_ : Nat} {w : World} {K : Kont} {s x : Value} {n m : Nat} {cs news : List Value}
    (ht : P.underlying t = some (.slice e)) {e' : TypeId} (hu : P.underlying u = some (.slice e')) (hE : ElemT P e sz by_)
    (hs : Own w e sz s n cs) (hx : Rd w sz x m news) (h1 : news.all (·.oneCell') = true) (hb : (n + m) * by_ ≤ 140737488355328)
    (hK : ∀ s' w', Own w' e sz s' (n + m) (cs ++ news) → Mod (inSl s) w w' → (∀ b, inSl s' b → inSl s b ∨ w.heap.size ≤ b) → K s' w') :
    rx P (xAppend #[t, u] ty [s, x]) w K := by
  obtain ⟨⟨i, z, hi, hz, hsz, hby, hzs, hz1⟩, hpos, hbpos⟩ := hE
  have hneed : n + m ≤ 140737488355328 := Nat.le_trans (Nat.le_mul_of_pos_right _ hbpos) hb
  have hlen : cs.length = n * sz := hs.1
  have hlenx : news.length = m * sz := hx.1
  have hfx := fun w1 (h : Rd w1 sz x m news) => h.first (P := P) hpos
  -- the slice
  obtain ⟨base, cap, hsv, hcap, hrow⟩ : ∃ base cap, s = .slice base n cap ∧ n ≤ cap ∧ ((base = none ∧ n = 0 ∧ cap = 0 ∧ cs = []) ∨ ∃ b rest, base = some ⟨b, 0, none⟩ ∧ w.heap[b]? = some (.cells (cs ++ rest).toArray e (0, 0)) ∧ rest.length = (cap - n) * sz ∧ rest.all (·.oneCell') = true) := by
    rcases hs.2 with ⟨rfl, rfl⟩ | ⟨b, cap, rest, rfl, hc, hh, hr⟩
    · exact ⟨none, 0, rfl, Nat.le_refl _, .inl ⟨rfl, rfl, rfl, by simpa using hlen⟩⟩
    · exact ⟨_, cap, rfl, hc, .inr ⟨b, rest, rfl, hh, hr⟩⟩
  subst hsv
  by_cases hroom : n + m ≤ cap
  · rcases hrow with ⟨rfl, rfl, rfl, rfl⟩ | ⟨b, rest, rfl, hh, hrl, hr1⟩
    · have hm : m = 0 := by omega
      subst hm
      have hnews : news = [] := by simpa using hlenx
      subst hnews
      refine rx_of (v := .slice none 0 0) (w' := w) ?_ (hK _ _ hs (Mod.refl _ _) (fun b hb => .inl hb))
      have := hfx w hx
      simp [xAppend, Builtin.append_, run_underlying ht, sizeOf, typeInfo, hi, hsz, run_underlying hu, hx.lenOf, Result.andThen, this]
    · have hst := run_storeCells_at P b (n * sz) e news 0 (cs ++ rest).toArray w hh (by simp [hlen, hrl, hlenx]; exact Nat.mul_le_mul_right _ (by omega)) (oneAll_mem h1)
      simp only [Nat.add_zero] at hst
      have hrow2 : (cs ++ rest).take (n * sz) ++ news ++ (cs ++ rest).drop (n * sz + news.length) = (cs ++ news) ++ rest.drop news.length := by
        rw [← hlen]
        simp [List.append_assoc]
      refine rx_of (v := .slice (some ⟨b, 0, none⟩) (n + m) cap) (w' := w.setRow b ((cs ++ news) ++ rest.drop news.length).toArray) ?_ (hK _ _ ⟨?_, .inr ⟨b, cap, rest.drop news.length, rfl, hroom, ?_, ?_, ?_⟩⟩ ?_ ?_)
      · have := hfx w hx
        simp only [hrow2] at hst
        have e0 : (⟨b, 0, none⟩ : Addr).add (n * sz) = ⟨b, n * sz, none⟩ := by rw [addr_add]; simp
        simp [xAppend, Builtin.append_, run_underlying ht, sizeOf, typeInfo, hi, hsz, run_underlying hu, hx.lenOf, Result.andThen, this, hroom, e0, hst]
      · simp [hlen, hlenx, Nat.add_mul]
      · rw [heap_setRow, if_pos rfl, hh]
      · simp [hrl, hlenx]; rw [← Nat.sub_mul]; congr 1; omega
      · exact List.all_eq_true.2 fun v hv => List.all_eq_true.1 hr1 v (List.mem_of_mem_drop hv)
      · exact (Mod.refl (inSl (.slice (some ⟨b, 0, none⟩) n cap)) w).setRow (.inl (show inSl _ b from rfl)) _
      · intro b' hb'; exact .inl hb'
  · have hfit := growslice_fits (old := cap) (need := n + m) (bytes := by_) (by omega) hb
    have h48 : ¬ (281474976710656 < Builtin.nextslicecap (n + m) cap * i.bytes) := by rw [hby]; omega
    have h63 : ¬ (9223372036854775807 < ((n : Int) + (m : Int))) := by omega
    have hcapge : n + m ≤ grownCap w (n + m) cap e := by simp [grownCap, Question.cut]
    have hrs : Rd w.drew sz (.slice base n cap) n cs := hs.rd.keep fun _ _ => rfl
    have hf1 := hrs.first (P := P) hpos
    have hf2 := hfx w.drew (hx.keep fun _ _ => rfl)
    refine rx_of (v := .slice (some ⟨w.heap.size, 0, none⟩) (n + m) (grownCap w (n + m) cap e))
      (w' := w.drew.alloc (.cells (cs.toArray ++ news.toArray ++ Builtin.zeroCells z.cells (grownCap w (n + m) cap e - (n + m))) e)) ?_ (hK _ _ ⟨?_, .inr ⟨w.heap.size, _, (Builtin.zeroCells z.cells (grownCap w (n + m) cap e - (n + m))).toList, rfl, hcapge, ?_, ?_, ?_⟩⟩ ?_ ?_)
    · simp [xAppend, Builtin.append_, run_underlying ht, sizeOf, typeInfo, zeroValue, hi, hz, hsz, run_underlying hu, hx.lenOf, Result.andThen, hroom, h63, h48, Question.forced, hf1, hf2, newRow, grownCap]
      rw [← Array.append_assoc]
      congr 2
      simp
    · simp [hlen, hlenx, Nat.add_mul]
    · rw [heap_alloc, if_pos (show w.heap.size = w.drew.heap.size from rfl)]
      simp
    · rw [zeroCells_len, hzs]
    · exact zeroCells_all hz1 (by rw [hzs]; exact hpos) _
    · exact ((Mod.refl _ w).drew).alloc _
    · rintro b' hb'
      cases hb'
      exact .inr (Nat.le_refl _)

/-! ### A variable of many cells -/

theorem alloc_setRow (w : World) (c : Array Value) (t : TypeId) (cs : Array Value) : (w.alloc (.cells c t)).setRow w.heap.size cs = w.alloc (.cells cs t) := by
  unfold World.setRow World.alloc
  simp only
  congr 1
  apply Array.ext
  · simp
  · intro i h1 h2
    simp only [Array.getElem_modify, Array.getElem_push]
    by_cases h : w.heap.size = i
    · subst h; simp
    · have hi : i < w.heap.size := by simp at h1; omega
      simp [h, hi]
/-- A new variable, and what is laid into it. -/
theorem rx_bigVar {P : Program} {t : TypeId} {w : World} {K : Kont} {cs : List Value} (n : Nat) (hz : hasZero P t = true) (hn : P.cellsOf t = n + 1) (hl : cs.length = n + 1) (hzl : (zeroC P t).length = n + 1) (h1 : cs.all (·.oneCell') = true)
    (hK : K (.pointer (some ⟨w.heap.size, 0, none⟩)) (w.alloc (.cells cs.toArray t))) : rx P (bigA t) w fun v w1 => rux P (bigU t v (.agg cs.toArray)) w1 fun w2 => K v w2 := by
  refine rx_bigA hz ?_
  refine rux_bigU (c := (zeroC P t).toArray) (e := t) hn hl (by rw [heap_alloc, if_pos rfl]) (by simp [hl, hzl]) h1 ?_
  rw [lay_all (by simp [hl, hzl]), alloc_setRow]
  exact hK

/-! ### Elements of slices -/

theorem flat_get {α : Type} (f : α → List Value) (sz : Nat) : ∀ (ws : List α) (i : Nat) (hw : ∀ x ∈ ws, (f x).length = sz) (h : i < ws.length), ((ws.flatMap f).drop (i * sz)).take sz = f ws[i]
  | x :: ws, 0, hw, h => by simp [List.take_append_of_le_length (Nat.le_of_eq (hw x (by simp)).symm), List.take_of_length_le (Nat.le_of_eq (hw x (by simp)))]
  | x :: ws, i + 1, hw, h => by
    have e : (i + 1) * sz = (f x).length + i * sz := by rw [hw x (by simp), Nat.add_mul]; omega
    simp only [List.flatMap_cons, List.getElem_cons_succ]
    rw [e, ← List.drop_drop, List.drop_left]
    exact flat_get f sz ws i (fun y hy => hw y (by simp [hy])) (by simpa using h)
theorem flat_len {α : Type} (f : α → List Value) (sz : Nat) : ∀ (ws : List α) (hw : ∀ x ∈ ws, (f x).length = sz), (ws.flatMap f).length = ws.length * sz
  | [], _ => by simp
  | x :: ws, hw => by simp [hw x (by simp), flat_len f sz ws fun y hy => hw y (by simp [hy]), Nat.add_mul]; omega

theorem Own.isSl {w : World} {e : TypeId} {sz : Nat} {s : Value} {n : Nat} {cs : List Value} (h : Own w e sz s n cs) : ∃ a c, s = .slice a n c ∧ n ≤ c := by
  obtain ⟨_, ⟨rfl, rfl⟩ | ⟨b, cap, _, rfl, hc, _⟩⟩ := h
  · exact ⟨none, 0, rfl, Nat.le_refl _⟩
  · exact ⟨_, _, rfl, hc⟩
theorem Own.elem {w : World} {e : TypeId} {sz : Nat} {s : Value} {n : Nat} {cs : List Value} (h : Own w e sz s n cs) {i : Nat} (hi : i < n) :
    ∃ b cap, s = .slice (some ⟨b, 0, none⟩) n cap ∧ At w b (i * sz) ((cs.drop (i * sz)).take sz) := by
  obtain ⟨hl, ⟨rfl, rfl⟩ | ⟨b, cap, rest, rfl, hc, hh, hr⟩⟩ := h
  · omega
  · have hle : i * sz + sz ≤ cs.length := by
      rw [hl]
      have : (i + 1) * sz ≤ n * sz := Nat.mul_le_mul_right _ hi
      rw [Nat.add_mul] at this; omega
    have hA : At w b 0 cs := ⟨_, _, _, hh, by simp, by simp⟩
    have := hA.sub (i * sz) sz hle
    exact ⟨b, cap, rfl, by simpa using this⟩

/-! ### copy -/

theorem rx_copy {P : Program} {dT sT ty e : TypeId} {w : World} {K : Kont} {g o dLen dCap sLen k : Nat} {src : Value} {cs all : List Value} {cur : Array Value} {t : TypeId}
    (hu : P.underlying dT = some (.slice e)) (hs : P.cellsOf e = 1) (hg : w.heap[g]? = some (.cells cur t (0, 0))) (hsrc : Rd w 1 src sLen all) (hk : k = Nat.min sLen dLen) (hcs : cs = all.take k)
    (hfit : o + k ≤ cur.size) (h1 : all.all (·.oneCell') = true) (hK : K (.int .i64 k) (w.setRow g (lay cur.toList o cs).toArray)) :
    rx P (xCopy #[dT, sT] ty [.slice (some ⟨g, o, none⟩) dLen dCap, src]) w K := by
  obtain ⟨i, hi, hsz⟩ := info_of_cells (n := 0) hs
  subst hcs
  have hl : all.length = sLen := by simpa using hsrc.1
  have hkl : (all.take k).length = k := by
    rw [List.length_take, hl, hk]
    have : Nat.min sLen dLen ≤ sLen := Nat.min_le_left _ _
    omega
  have h1' : ∀ v ∈ all.take k, v.oneCell' = true := fun v hv => oneAll_mem h1 v (List.mem_of_mem_take hv)
  have hst := run_storeCells_at P g o t (all.take k) 0 cur w hg (by rw [hkl]; simpa using hfit) h1'
  simp only [Nat.add_zero] at hst
  obtain ⟨_, ⟨rfl, a, c, rfl⟩ | ⟨b, off, cap, rfl, hc, hh⟩⟩ := hsrc
  · have hk0 : k = 0 := by rw [hk]; exact Nat.zero_min _
    have : all = [] := by simpa using hl
    subst this
    simp only [List.take_nil, List.length_nil] at *
    refine rx_of (v := goInt (Nat.min 0 dLen)) (w' := w.setRow g (lay cur.toList o []).toArray) ?_ (by rw [← hk]; exact hK)
    cases a <;> simp [xCopy, Builtin.copy_, run_underlying hu, Builtin.lenOf, Builtin.firstCells, sizeOf, typeInfo, hi, hsz, Result.andThen, lay, setRow_self w g cur t (0, 0) hg, storeCells, loadCells, loadCellsFrom]
  · have hload : (loadCells ⟨b, off, none⟩ k).run P w = .ok (all.take k).toArray w := by
      · by_cases hk0 : k = 0
        · subst hk0; simp [loadCells, loadCellsFrom]
        · have := (hh.sub 0 k (by have : Nat.min sLen dLen ≤ sLen := Nat.min_le_left _ _; omega)).loads (P := P)
          simp only [List.drop_zero, Nat.add_zero, hkl] at this
          exact this
    refine rx_of (v := goInt (Nat.min sLen dLen)) (w' := w.setRow g (lay cur.toList o (all.take k)).toArray) ?_ (by rw [← hk]; exact hK)
    rw [hk] at hload hst ⊢
    simp [xCopy, Builtin.copy_, run_underlying hu, Builtin.lenOf, Builtin.firstCells, sizeOf, typeInfo, hi, hsz, Result.andThen, hload, hst, lay]

/-! ### make -/

theorem rx_make {P : Program} {t e : TypeId} {sz by_ : Nat} {w : World} {K : Kont} {kl kc : IntKind} {l c : Int} {z : Value} (ht : P.underlying t = some (.slice e)) (hE : ElemT P e sz by_) (h0 : 0 ≤ l) (hlc : l ≤ c) (hb : (by_ : Int) * c ≤ 281474976710656)
    (hz : (P.info? e).bind (·.zero) = some z)
    (hK : K (.slice (some ⟨w.heap.size, 0, none⟩) l.toNat c.toNat) (w.alloc (.cells (madeCells z.cells (c.toNat * sz)) e))) :
    rx P (xMake t (.int kl l) (.int kc c)) w K := by
  obtain ⟨⟨i, z', hi, hz', hsz, hby, hzs, hz1⟩, hpos, hbpos⟩ := hE
  have : z = z' := by rw [hi] at hz; simpa [hz'] using hz.symm
  subst this
  have h63 : c ≤ 9223372036854775807 := by
    have h1 : (1 : Int) * c ≤ (by_ : Int) * c := Int.mul_le_mul_of_nonneg_right (by omega) (by omega)
    omega
  exact rx_of (by unfold xMake; exact run_make w t e i z ht hi hz' kl kc l c h0 hlc (by rw [hby]; exact hb) h63) (by rw [hsz]; exact hK)

/-! ### Literals of slices -/

theorem fill_all (sz : Nat) : ∀ (vs : List Value) (i : Nat) (pre rest : List Value), (∀ v ∈ vs, v.cells.size = sz) → pre.length = i * sz → rest.length = vs.length * sz →
    Instr.fill (fun i => some (i * sz, sz)) (pre ++ rest).toArray ((vs.zipIdx i).map fun p => (p.2, p.1)) = some (pre ++ vs.flatMap (·.cells.toList)).toArray
  | [], i, pre, rest, _, _, hr => by
    have : rest = [] := by simpa using hr
    subst this
    simp [fill_nil]
  | v :: vs, i, pre, rest, hv, hp, hr => by
    have hv0 := hv v (by simp)
    have hrl : sz ≤ rest.length := by rw [hr, List.length_cons, Nat.add_mul]; omega
    simp only [List.zipIdx_cons, List.map_cons]
    rw [fill_part (off := i * sz) (size := sz) rfl hv0 (by simp; omega)]
    have e : lay (pre ++ rest) (i * sz) v.cells.toList = (pre ++ v.cells.toList) ++ rest.drop sz := by
      have hvl : v.cells.toList.length = sz := by simpa using hv0
      simp only [lay, hvl]
      rw [← hp, List.take_left, ← List.drop_drop, List.drop_left]
    rw [e, fill_all sz vs (i + 1) _ _ (fun u hu => hv u (by simp [hu])) (by simp [hv0, hp, Nat.add_mul]) (by simp [hr, Nat.add_mul])]
    simp
theorem rx_lit {P : Program} {t e : TypeId} {sz by_ n : Nat} {w : World} {K : Kont} {parts : List (Nat × Value)} (vs : List Value) (ht : P.underlying t = some (.slice e)) (hE : ElemT P e sz by_)
    (hp : parts = vs.zipIdx.map fun p => (p.2, p.1)) (hn : vs.length = n) (hv : ∀ v ∈ vs, v.cells.size = sz) (hb : n * sz ≤ 16777216)
    (hK : K (.slice (some ⟨w.heap.size, 0, none⟩) n n) (w.alloc (.cells (vs.flatMap (·.cells.toList)).toArray e))) : rx P (xLit t n parts) w K := by
  obtain ⟨⟨i, z, hi, hz, hsz, hby, hzs, hz1⟩, hpos, hbpos⟩ := hE
  subst hp
  have hb' : ¬ (2 ^ 24 < n * sz) := by omega
  refine rx_of ?_ hK
  have hrun : ∀ zs : Array Value, (zs.toList.length = n * sz) → Instr.fill (fun i => some (i * sz, sz)) zs (vs.zipIdx.map fun p => (p.2, p.1)) = some (vs.flatMap (·.cells.toList)).toArray := fun zs hzl => by
    have := fill_all sz vs 0 [] zs.toList hv (by simp) (by rw [hn]; exact hzl)
    simpa using this
  by_cases h0 : n * sz = 0
  · have h := hrun (Array.map (fun _ => default) (Array.range 0)) (by simp [h0])
    simp [xLit, Instr.buildSlice, run_underlying ht, sizeOf, typeInfo, hi, hsz, h0, h, newRow, Result.andThen]
  · have h := hrun ((Array.range (n * sz)).map (z.cells[· % z.cells.size]!)) (by simp)
    have h' : Instr.fill (fun i => some (i * sz, sz)) ((Array.range (n * sz)).map (z.cells[· % sz]!)) (vs.zipIdx.map fun p => (p.2, p.1)) = some (vs.flatMap (·.cells.toList)).toArray := by rw [← hzs] at h ⊢; exact h
    simp [xLit, Instr.buildSlice, run_underlying ht, sizeOf, typeInfo, zeroValue, hi, hz, hsz, h0, hb', h, h', newRow, Result.andThen]

/-! ### Bytes and strings -/

/-- Bytes as cells. -/
def bv (l : List UInt8) : List Value := l.map fun u => .int .u8 (u.toNat : Int)
@[simp] theorem bv_length (l : List UInt8) : (bv l).length = l.length := by simp [bv]
@[simp] theorem bv_nil : bv [] = [] := rfl
@[simp] theorem bv_append (l l' : List UInt8) : bv (l ++ l') = bv l ++ bv l' := by simp [bv]
theorem bv_take (l : List UInt8) (n : Nat) : (bv l).take n = bv (l.take n) := by simp [bv]
theorem bv_drop (l : List UInt8) (n : Nat) : (bv l).drop n = bv (l.drop n) := by simp [bv]
theorem bv_one (l : List UInt8) : (bv l).all (·.oneCell') = true := by simp [bv, Value.oneCell']
theorem bv_replicate (n : Nat) (u : UInt8) : bv (List.replicate n u) = List.replicate n (.int .u8 (u.toNat : Int)) := by simp [bv]
theorem bv_inj {l l' : List UInt8} (h : bv l = bv l') : l = l' := by
  have : ∀ a b : UInt8, (Value.int .u8 (a.toNat : Int)) = .int .u8 (b.toNat : Int) → a = b := fun a b h => by
    have h1 : (a.toNat : Int) = b.toNat := by injection h
    exact UInt8.toNat_inj.1 (by omega)
  exact (List.map_inj_right this).1 h

theorem fold_push (ns : List UInt8) : ∀ s : ByteArray, ((ns.map fun u => (u.toNat : Int)).foldl (fun r n => r.push (UInt8.ofNat n.toNat)) s) = ⟨s.data ++ ns.toArray⟩ := by
  induction ns with
  | nil => intro s; simp
  | cons n ns ih =>
    intro s
    simp only [List.map_cons, List.foldl_cons]
    rw [ih]
    simp [ByteArray.push]

/-- The string of bytes. -/
def strOf (l : List UInt8) : ByteArray := ⟨l.toArray⟩

theorem run_toStr {P : Program} {s d e : TypeId} {w : World} {v : Value} {n : Nat} {l : List UInt8}
    (hs : P.underlying s = some (.slice e)) (he : P.underlying e = some (.int .u8)) (hd : P.underlying d = some .string) (h : Rd w 1 v n (bv l)) :
    (xConv s d v).run P w = .ok (.string (strOf l)) w := by
  have hl : l.length = n := by simpa using h.1
  obtain ⟨_, ⟨rfl, a, c, rfl⟩ | ⟨b, off, cap, rfl, hc, hh⟩⟩ := h
  · have : l = [] := by simpa using hl
    subst this
    unfold xConv
    rw [run_convert_bytes_string w s d e _ _ _ hs he hd]
    cases a <;> rfl
  · have hload : (loadCells ⟨b, off, none⟩ n).run P w = .ok (bv l).toArray w := by
      have := hh.loads (P := P)
      simpa [hl] using this
    unfold xConv
    rw [run_convert_bytes_string w s d e _ _ _ hs he hd, run_bytesToString w _ _ _ (l.map fun u => (u.toNat : Int)) (by rw [hload]; simp [bv]), fold_push]
    simp [strOf, ByteArray.empty, ByteArray.emptyWithCapacity]
    rfl

theorem rx_toStr {P : Program} {s d e : TypeId} {w : World} {K : Kont} {v : Value} {n : Nat} {l : List UInt8}
    (hs : P.underlying s = some (.slice e)) (he : P.underlying e = some (.int .u8)) (hd : P.underlying d = some .string) (h : Rd w 1 v n (bv l)) (hK : K (.string (strOf l)) w) :
    rx P (xConv s d v) w K := rx_of (run_toStr hs he hd h) hK
theorem rdX_toStr {P : Program} {s d e : TypeId} {w : World} {K : Value → Prop} {v : Value} {n : Nat} {l : List UInt8}
    (hs : P.underlying s = some (.slice e)) (he : P.underlying e = some (.int .u8)) (hd : P.underlying d = some .string) (h : Rd w 1 v n (bv l)) (hK : K (.string (strOf l))) :
    rdX P (xConv s d v) w K := rdX_of (run_toStr hs he hd h) hK
@[simp] theorem strOf_append (l l' : List UInt8) : strOf l ++ strOf l' = strOf (l ++ l') := by
  apply ByteArray.ext
  simp [strOf]
@[simp] theorem strOf_size (l : List UInt8) : (strOf l).size = l.length := by simp [strOf, ByteArray.size]
@[simp] theorem strOf_toList (l : List UInt8) : (strOf l).toList = l := ByteArray.toList_mk l
@[simp] theorem strOf_inj {l l' : List UInt8} : strOf l = strOf l' ↔ l = l' := by
  refine ⟨fun h => ?_, fun h => by rw [h]⟩
  have := congrArg (fun b : ByteArray => b.data.toList) h
  simpa [strOf] using this

/-- What is frozen behind a mark. -/
def markFz (fz : Nat × Nat) (n : Nat) : Nat × Nat := if fz.1 == fz.2 then (n, n + 1) else (min fz.1 n, max fz.2 (n + 1))
theorem heap_freeze1 (w : World) (b n b' : Nat) : (w.freeze ⟨b, n, none⟩ 1).heap[b']? = if b' = b then (match w.heap[b]? with | some (.cells c e fz) => some (.cells c e (markFz fz n)) | o => o) else w.heap[b']? := by
  unfold World.freeze
  rw [if_neg (by decide)]
  simp only
  rw [Array.getElem?_modify]
  by_cases h : b = b'
  · subst h
    simp only [if_true]
    cases hh : w.heap[b]? with
    | none => rfl
    | some o => cases o <;> rfl
  · rw [if_neg h, if_neg (fun e => h e.symm)]
theorem size_freeze1 (w : World) (a : Addr) : (w.freeze a 1).heap.size = w.heap.size := by simp [World.freeze]
theorem Mod.freeze {F : Nat → Prop} {w w' : World} (h : Mod F w w') {b : Nat} (hb : F b ∨ w.heap.size ≤ b) (n : Nat) : Mod F w (w'.freeze ⟨b, n, none⟩ 1) :=
  ⟨by rw [size_freeze1]; exact h.size, h.out, h.os, fun b' hb' hf => by
    rw [heap_freeze1, if_neg (fun e => by subst e; rcases hb with hb | hb; exact hf hb; omega)]; exact h.blk b' hb' hf⟩

/-- The mark of a constant's bytes. -/
theorem rx_mark {P : Program} {t e e' : TypeId} {w : World} {K : Kont} {b n c : Nat} {C : Array Value} {fz : Nat × Nat} (ht : P.underlying t = some (.slice e)) (he : P.underlying e = some (.int .u8))
    (hb : w.heap[b]? = some (.cells C e' fz)) (hK : K (.slice (some ⟨b, 0, none⟩) n c) (w.freeze ⟨b, C.size, none⟩ 1)) :
    rx P (xConv t t (.slice (some ⟨b, 0, none⟩) n c)) w K := by
  refine rx_of (v := .slice (some ⟨b, 0, none⟩) n c) ?_ hK
  have hsh : w.shape? b = some (e', C.size) := by simp [World.shape?, hb]
  unfold xConv
  simp [convert, run_underlying ht, run_underlying he, markStringish, hsh]

/-- Bytes of a string. -/
theorem rx_toBytes {P : Program} {s d e : TypeId} {w : World} {K : Kont} {l : List UInt8} (hs : P.underlying s = some .string) (hd : P.underlying d = some (.slice e)) (he : P.underlying e = some (.int .u8))
    (hK : ∀ v w', Rd w' 1 v l.length (bv l) → Mod (fun _ => False) w w' → (∀ b, inSl v b → w.heap.size ≤ b ∧ b < w'.heap.size) → K v w') :
    rx P (xConv s d (.string (strOf l))) w K := by
  have h := run_bytes_of_string (P := P) w s d e (strOf l) hs hd he
  refine rx_of (by unfold xConv; exact h) (hK _ _ ⟨by simp, .inr ⟨_, 0, _, rfl, ?_, ⟨_, _, _, by rw [heap_alloc, if_pos (show w.heap.size = w.drew.heap.size from rfl)], ?_, ?_⟩⟩⟩ (((Mod.refl _ w).drew).alloc _) ?_)
  · simp [grownCap, Question.cut, strOf, ByteArray.size]
  · simp [bytesRow, strOf]
  · simp [bytesRow, strOf, bv]
  · rintro b hb
    cases hb
    exact ⟨Nat.le_refl _, by rw [World.size_alloc]; exact Nat.lt_succ_self _⟩
end Go.Vc
