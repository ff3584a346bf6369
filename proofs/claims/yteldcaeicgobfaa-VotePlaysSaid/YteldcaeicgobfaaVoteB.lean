/-
  The contracts of the vote's write and clean.
  The contract of the vote's clean.
  The contract of vote.Open.
  The contract of vote.Set, and of calls on no vote.
  Conditions: where they ask for any, each theorem names them.
-/
import Derived.Test.YteldcaeicgobfaaVoteA
import Derived.Test.YteldcaeicgobfaaPlays3
set_option linter.unusedSimpArgs false
set_option linter.unusedVariables false
namespace Go.Proofs
open Go Go.Vc

/-- Sectors, one after the other, as long as the power stays. -/
def DM.writes (D : DM) (f : Int) : List (Int × Sec) → Int × DM
  | [] => (0, D)
  | (a, s) :: r => if (D.write f a s).1 = 0 then DM.writes (D.write f a s).2 f r else D.write f a s
def secI (p : List UInt8) (i : Nat) : Sec := (p.drop (128 * i)).take 128
theorem secI_length {p : List UInt8} (hp : p.length = 384) {i : Nat} (hi : i < 3) : (secI p i).length = 128 := by simp [secI]; omega
def placeW (at_ : Nat) (p : List UInt8) : List (Int × Sec) := (List.range 3).map fun i : Nat => ((3 * (at_ : Int) + (i : Int)), secI p i)
def cleanFrom (at_ : Nat) (p : List UInt8) (i : Nat) : List (Int × Sec) := ((List.range 3).drop i).filterMap fun i : Nat => if secI p i = zsec then none else some ((3 * (at_ : Int) + (i : Int)), zsec)
theorem placeW_drop (at_ : Nat) (p : List UInt8) (i : Nat) (hi : i < 3) : (placeW at_ p).drop i = ((3 * (at_ : Int) + (i : Int)), secI p i) :: (placeW at_ p).drop (i + 1) := by
  rw [List.drop_eq_getElem_cons (by simp [placeW]; exact hi)]
  simp [placeW]
theorem cleanFrom_yes (at_ : Nat) (p : List UInt8) (i : Nat) (hi : i < 3) (h : secI p i = zsec) : cleanFrom at_ p i = cleanFrom at_ p (i + 1) := by
  unfold cleanFrom
  rw [List.drop_eq_getElem_cons (by simpa using hi)]
  simp [h]
theorem cleanFrom_no (at_ : Nat) (p : List UInt8) (i : Nat) (hi : i < 3) (h : secI p i ≠ zsec) : cleanFrom at_ p i = ((3 * (at_ : Int) + (i : Int)), zsec) :: cleanFrom at_ p (i + 1) := by
  unfold cleanFrom
  rw [List.drop_eq_getElem_cons (by simpa using hi)]
  simp [h]

set_option maxRecDepth 10000 in
theorem ca_vwrite {w : World} {K : Kont} {v d : Nat} {F : Nat → Prop} {D : DM} {file : Int} {m : MarkM} {n at_ k : Nat} {p : List UInt8} (hv : VoteAt w v d file m n at_) (hvF : ¬ F v) (h : DiskR w d F D) (hD : D.waits.length < 274877906944) (hp384 : p.length = 384) (hk : k ≤ 1)
    (hK : ∀ w' F', DiskR w' d F' (D.writes file (placeW k p)).2 → Stp F w w' F' → K (.int .i64 (D.writes file (placeW k p)).1) w') : Ca Try.prog 68 #[dptr v, .int .i64 (k : Int), .agg (bv p).toArray] w K := by
  apply ca68
  unfold F68
  refine rv_box ?_
  have mA : Mod (fun _ => False) w (w.alloc (.cells (bv p).toArray 127)) := (Mod.refl _ w).alloc _
  have hA : hp (w.alloc (.cells (bv p).toArray 127)) w.heap.size = some (.cells (bv p).toArray 127 (0, 0)) := by simp only [hp_alloc, if_pos]
  generalize (w.alloc (.cells (bv p).toArray 127)) = W0 at mA hA
  obtain ⟨q, hq⟩ : ∃ q, w.heap.size = q := ⟨_, rfl⟩
  rw [hq] at hA ⊢
  unfold L68_0
  refine loopK (fun s W => ∃ (i : Nat) (x : Value) (Di : DM) (F' : Nat → Prop), i ≤ 3 ∧ s = (x, .int .i64 i, ()) ∧ DiskR W d F' Di ∧ Stp F w W F' ∧ D.writes file (placeW k p) = Di.writes file ((placeW k p).drop i) ∧ Di.waits.length ≤ D.waits.length + 128 * i ∧ ¬ F' q ∧ ¬ F' v ∧
      hp W q = some (.cells (bv p).toArray 127 (0, 0)) ∧ VoteAt W v d file m n at_)
    (fun s _ => match s.2.1 with | .int _ i => 3 - i.toNat | _ => 0) ⟨0, _, D, F, by omega, rfl, h.mod mA fun _ _ h => h, ⟨mA.mono fun _ _ h => h.elim, fun b hb => .inl hb⟩, rfl, by omega, fun hb => by have := h.lt hb; omega, hvF, hA, mA.keep hv id⟩ ?_
  rintro ⟨_, _⟩ W ⟨i, x, Di, F', hi, ⟨⟩, dW, sW, eW, lW, qF, vF, hQ, hV⟩ KN hKN _
  have hw1 : IntKind.i64.wrap ((i : Int) + 1) = ((i + 1 : Nat) : Int) := by rw [IntKind.wrap_i64]; omega
  by_cases hlt : i < 3
  · have hlt' : (i : Int) < 3 := by omega
    have hw2 : IntKind.i64.wrap (3 * (k : Int)) = 3 * (k : Int) := by rw [IntKind.wrap_i64]; omega
    have hw3 : IntKind.i64.wrap (3 * (k : Int) + (i : Int)) = 3 * (k : Int) + i := by rw [IntKind.wrap_i64]; omega
    have hVd := hV
    unfold VoteAt dptr at hVd
    simp [-Int.natCast_add, go_sem, dptr, hlt', hlt, hVd, hw2, hw3]
    have hsl := secI_length hp384 hlt
    refine ca_write (n := 128) (bs := secI p i) (dW.mod ((Mod.refl (fun _ => False) W).drew) fun _ _ h => h) ?_ (fun b hb => ?_) (by rw [hsl]; decide) (by omega) fun W2 F2 d2 s2 => ?_
    · have := rd_sub (W := W.drew) hQ (i * 128) 128 128 (by omega) (by omega)
      rw [Nat.mul_comm i 128] at this ⊢
      exact this
    · rw [inRd_at hb]
      exact ⟨qF, lt_of_heap hQ⟩
    have s2' : Stp F' W W2 F2 := ⟨((Mod.refl _ W).drew).trans s2.mod, s2.sub⟩
    rw [placeW_drop k p i hlt] at eW
    simp only [DM.writes] at eW
    by_cases he : (Di.write file (3 * (k : Int) + (i : Int)) (secI p i)).1 = 0
    · rw [if_pos he] at eW
      simp [-Int.natCast_add, go_sem, he, hw1]
      have hl := (write_len Di file (3 * (k : Int) + (i : Int)) (secI p i)).1
      have hno : ∀ b, b < W.heap.size → ¬ F' b → ¬ F2 b := fun b hb hf h => by
        rcases s2.sub b h with h | h
        · exact hf h
        · rw [size_drew] at h; omega
      exact hKN _ _ ⟨i + 1, _, _, F2, hlt, rfl, d2, sW.trans s2', eW, by omega, hno q (lt_of_heap hQ) qF, hno v (lt_of_heap hV) vF, s2'.mod.keep hQ qF, s2'.mod.keep hV vF⟩ (by simp; omega)
    · rw [if_neg he] at eW
      rw [eW] at hK
      simp [go_sem, he]
      exact hK _ F2 d2 (sW.trans s2')
  · have : i = 3 := by omega
    subst this
    have hnil : (placeW k p).drop 3 = [] := List.drop_of_length_le (by simp [placeW])
    rw [hnil] at eW
    have eW' : D.writes file (placeW k p) = (0, Di) := eW
    rw [eW'] at hK
    simp [go_sem]
    exact hK _ F' dW sW
end Go.Proofs

namespace Go.Proofs
open Go Go.Vc

theorem secT1 : isAggT Try.prog 125 = true := by kernel_rfl
theorem secT2 : Try.prog.cellsOf 125 = 127 + 1 := by kernel_rfl
theorem secT3 : hasZero Try.prog 125 = true := by kernel_rfl
theorem secT4 : zeroC Try.prog 125 = bv zsec := by kernel_rfl
theorem secT5 : Try.prog.built 125 (#[] : Array (Nat × Value)).toList = some (bv zsec).toArray := by kernel_rfl
theorem plT5 : Try.prog.built 127 (#[] : Array (Nat × Value)).toList = some (bv (List.replicate 384 0)).toArray := by kernel_rfl
theorem extract_sec (p : List UInt8) (i : Nat) : (bv p).toArray.extract (i * (127 + 1)) (i * (127 + 1) + (127 + 1)) = (bv (secI p i)).toArray := by
  apply Array.toList_inj.1
  simp [secI, bv_drop, bv_take, List.extract_eq_take_drop, Nat.mul_comm]
theorem lay_all {C xs : List Value} (h : C.length = xs.length) : lay C 0 xs = xs := by
  simp [lay, h]

set_option maxRecDepth 10000 in
theorem ca_vclean {w : World} {K : Kont} {v d : Nat} {F : Nat → Prop} {D : DM} {file : Int} {m : MarkM} {n at_ k : Nat} {p : List UInt8} (hv : VoteAt w v d file m n at_) (hvF : ¬ F v) (h : DiskR w d F D) (hD : D.waits.length < 274877906944) (hp384 : p.length = 384) (hk : k ≤ 1)
    (hK : ∀ w' F', DiskR w' d F' (D.writes file (cleanFrom k p 0)).2 → Stp F w w' F' → K (.int .i64 (D.writes file (cleanFrom k p 0)).1) w') : Ca Try.prog 65 #[dptr v, .int .i64 (k : Int), .agg (bv p).toArray] w K := by
  apply ca65
  unfold F65
  refine rv_box ?_
  have mA : Mod (fun _ => False) w (w.alloc (.cells (bv p).toArray 127)) := (Mod.refl _ w).alloc _
  have hA : hp (w.alloc (.cells (bv p).toArray 127)) w.heap.size = some (.cells (bv p).toArray 127 (0, 0)) := by simp only [hp_alloc, if_pos]
  generalize (w.alloc (.cells (bv p).toArray 127)) = W0 at mA hA
  obtain ⟨q, hq⟩ : ∃ q, w.heap.size = q := ⟨_, rfl⟩
  rw [hq] at hA ⊢
  refine rx_bigS (bv p) 383 plT1 plT2 (by simp [hp384]) (At.whole hA) ?_
  unfold L65_0
  refine loopK (fun s W => ∃ (i : Nat) (x : Value) (Di : DM) (F' : Nat → Prop), i ≤ 3 ∧ s = (x, .int .i64 i, ()) ∧ DiskR W d F' Di ∧ Stp F w W F' ∧ D.writes file (cleanFrom k p 0) = Di.writes file (cleanFrom k p i) ∧ Di.waits.length ≤ D.waits.length + 128 * i ∧ ¬ F' v ∧
      VoteAt W v d file m n at_)
    (fun s _ => match s.2.1 with | .int _ i => 3 - i.toNat | _ => 0) ⟨0, _, D, F, by omega, rfl, h.mod mA fun _ _ h => h, ⟨mA.mono fun _ _ h => h.elim, fun b hb => .inl hb⟩, rfl, by omega, hvF, mA.keep hv id⟩ ?_
  rintro ⟨_, _⟩ W ⟨i, x, Di, F', hi, ⟨⟩, dW, sW, eW, lW, vF, hV⟩ KN hKN _
  have hw1 : IntKind.i64.wrap ((i : Int) + 1) = ((i + 1 : Nat) : Int) := by rw [IntKind.wrap_i64]; omega
  by_cases hlt : i < 3
  · have hlt' : (i : Int) < 3 := by omega
    have hw2 : IntKind.i64.wrap (3 * (k : Int)) = 3 * (k : Int) := by rw [IntKind.wrap_i64]; omega
    have hw3 : IntKind.i64.wrap (3 * (k : Int) + (i : Int)) = 3 * (k : Int) + i := by rw [IntKind.wrap_i64]; omega
    refine rv_of (v := .bool true) (w' := W) (by simp [go_sem, hlt']) ?_
    rw [ifB_bool, if_pos rfl]
    refine rv_of (run_index_agg (n := 127) Try.underlying127 secT1 secT2 hlt) ?_
    rw [extract_sec]
    have hsl := secI_length hp384 hlt
    refine rx_bigA secT3 ?_
    rw [secT4]
    have mB : Mod (fun _ => False) W (W.alloc (.cells (bv zsec).toArray 125)) := (Mod.refl _ W).alloc _
    have hB : hp (W.alloc (.cells (bv zsec).toArray 125)) W.heap.size = some (.cells (bv zsec).toArray 125 (0, 0)) := by simp only [hp_alloc, if_pos]
    generalize (W.alloc (.cells (bv zsec).toArray 125)) = W1 at mB hB
    refine rux_bigU (n := 127) secT2 (by simp [hsl]) hB (by simp [hsl, zsec_length]) (bv_one _) ?_
    rw [show (bv zsec).toArray.toList = bv zsec from rfl, lay_all (by simp [hsl, zsec_length])]
    have mC : Mod (fun _ => False) W (W1.setRow W.heap.size (bv (secI p i)).toArray) := mB.setRow (.inr (Nat.le_refl _)) _
    have hC : hp (W1.setRow W.heap.size (bv (secI p i)).toArray) W.heap.size = some (.cells (bv (secI p i)).toArray 125 (0, 0)) := by
      have hB' : W1.heap[W.heap.size]? = _ := hB
      show (W1.setRow W.heap.size (bv (secI p i)).toArray).heap[W.heap.size]? = _
      rw [heap_setRow, if_pos rfl, hB']
    generalize (W1.setRow W.heap.size (bv (secI p i)).toArray) = W2 at mC hC
    refine rx_bigS (bv (secI p i)) 127 secT1 secT2 (by simp [hsl]) (At.whole hC) ?_
    refine rx_bigB secT5 ?_
    refine rv_of (eql_sector hsl zsec_length _) ?_
    have dW2 := dW.mod mC fun _ _ h => h
    have sW2 : Stp F w W2 F' := sW.trans ⟨mC.mono fun _ _ h => h.elim, fun b hb => .inl hb⟩
    have hV2 : VoteAt W2 v d file m n at_ := mC.keep hV id
    by_cases hz : secI p i = zsec
    · rw [ifB_bool, if_pos (by simpa using hz)]
      rw [cleanFrom_yes k p i hlt hz] at eW
      refine rv_of (v := .int .i64 ((i + 1 : Nat) : Int)) (w' := W2) (by simp [-Int.natCast_add, go_sem, hw1]) ?_
      exact hKN _ _ ⟨i + 1, _, _, F', hlt, rfl, dW2, sW2, eW, by omega, vF, hV2⟩ (by simp; omega)
    · rw [ifB_bool, if_neg (by simpa using hz)]
      rw [cleanFrom_no k p i hlt hz] at eW
      simp only [DM.writes] at eW
      have hVd := hV2
      unfold VoteAt dptr at hVd
      simp [-Int.natCast_add, go_sem, dptr, hVd, hw2, hw3]
      refine rx_make Try.underlying23 (elemT_of uT1) (by omega) (by omega) (by omega) uT2 ?_
      have e3 : (madeCells (Value.int .u8 0).cells (Int.toNat 128 * 1)) = (bv zsec).toArray := by
        apply Array.ext'
        rw [show (Value.int .u8 0).cells = #[.int .u8 0] from rfl, toList_madeCells_one, zsec, bv_replicate]
        rfl
      rw [e3, show Int.toNat 128 = 128 from rfl]
      have mE : Mod (fun _ => False) W2 (W2.drew.alloc (.cells (bv zsec).toArray 5)) := ((Mod.refl _ W2).drew).alloc _
      have hE : hp (W2.drew.alloc (.cells (bv zsec).toArray 5)) W2.heap.size = some (.cells (bv zsec).toArray 5 (0, 0)) := by simp only [hp_alloc, size_drew, if_pos]
      rw [size_drew]
      generalize (W2.drew.alloc (.cells (bv zsec).toArray 5)) = W3 at mE hE
      have hV3 : VoteAt W3 v d file m n at_ := mE.keep hV2 id
      unfold VoteAt dptr at hV3
      simp [go_sem, hV3]
      refine ca_write (n := 128) (bs := zsec) (dW2.mod mE fun _ _ h => h) (rd_sub hE 0 128 128 (by simp [zsec_length]) (by omega)) (fun b hb => ?_) (by rw [zsec_length]; decide) (by omega) fun W4 F4 d4 s4 => ?_
      · rw [inRd_at hb]
        exact ⟨fun hf => by have : W2.heap.size < W2.heap.size := dW2.lt hf; omega, lt_of_heap hE⟩
      have s4' : Stp F' W2 W4 F4 := ⟨(mE.mono fun _ _ h => h.elim).trans s4.mod, fun b hb => (s4.sub b hb).imp id fun h => Nat.le_trans mE.size h⟩
      have hno : ¬ F4 v := fun h => by
        rcases s4'.sub v h with h | h
        · exact vF h
        · have := lt_of_heap hV2; omega
      by_cases he : (Di.write file (3 * (k : Int) + (i : Int)) zsec).1 = 0
      · rw [if_pos he] at eW
        simp [-Int.natCast_add, go_sem, he, hw1]
        have hl := (write_len Di file (3 * (k : Int) + (i : Int)) zsec).1
        exact hKN _ _ ⟨i + 1, _, _, F4, hlt, rfl, d4, sW2.trans s4', eW, by rw [zsec_length] at hl; omega, hno, s4'.mod.keep hV2 vF⟩ (by simp; omega)
      · rw [if_neg he] at eW
        rw [eW] at hK
        simp [go_sem, he]
        exact hK _ F4 d4 (sW2.trans s4')
  · have : i = 3 := by omega
    subst this
    have eW' : D.writes file (cleanFrom k p 0) = (0, Di) := eW
    rw [eW'] at hK
    refine rv_of (v := .bool false) (w' := W) (by simp [go_sem]) ?_
    rw [ifB_bool, if_neg (by simp)]
    exact hK _ F' dW sW
end Go.Proofs

namespace Go.Proofs
open Go Go.Vc

def placeI (B : List UInt8) (i : Nat) : List UInt8 := (B.drop (384 * i)).take 384
theorem placeI_length {B : List UInt8} (h : B.length = 768) {i : Nat} (hi : i < 2) : (placeI B i).length = 384 := by simp [placeI]; omega
def z384 : List UInt8 := List.replicate 384 0
structure OpenS where
  D : DM
  m : MarkM
  n : Nat
  at_ : Nat
  cl : Bool
def vround (file : Int) (B : List UInt8) (i : Nat) (s : OpenS) : Int × OpenS :=
  if (readP (placeI B i)).1 > s.n then (0, { s with m := (readP (placeI B i)).2, n := (readP (placeI B i)).1, at_ := i })
  else if (readP (placeI B i)).1 = 0 ∧ placeI B i ≠ z384 then
    ((s.D.writes file (cleanFrom i (placeI B i) 0)).1, { s with D := (s.D.writes file (cleanFrom i (placeI B i) 0)).2, cl := true })
  else (0, s)
def vgo (file : Int) (B : List UInt8) : List Nat → OpenS → Int × OpenS
  | [], s => (0, s)
  | i :: r, s => if (vround file B i s).1 = 0 then vgo file B r (vround file B i s).2 else vround file B i s
def vlast (r : Int × OpenS) : Int × OpenS :=
  if r.1 ≠ 0 then r else if r.2.cl = true then (r.2.D.sync.1, { r.2 with D := r.2.D.sync.2 }) else r
def open0 (D : DM) : OpenS := ⟨D, ⟨0, -1, 0, 0, 0⟩, 0, 1, false⟩
def DM.vopen (D : DM) (file : Int) : Int × OpenS :=
  if D.off = true then (180, open0 D) else if mayB file 0 6 = false then (2, open0 D) else vlast (vgo file (D.readB file 0 6) [0, 1] (open0 D))

theorem writes_len (f : Int) : ∀ (l : List (Int × Sec)) (D : DM), (∀ s ∈ l, s.2.length = 128) → (D.writes f l).2.waits.length ≤ D.waits.length + 128 * l.length
  | [], D, _ => by simp [DM.writes]
  | (a, s) :: r, D, h => by
    have h1 := (write_len D f a s).1
    have h2 := h _ (List.mem_cons_self ..)
    simp only at h2
    have h3 := writes_len f r (D.write f a s).2 fun s hs => h s (List.mem_cons_of_mem _ hs)
    unfold DM.writes
    split <;> simp only [List.length_cons] at * <;> omega
theorem cleanFrom_len (k : Nat) (p : List UInt8) (i : Nat) : (cleanFrom k p i).length ≤ 3 ∧ ∀ s ∈ cleanFrom k p i, s.2.length = 128 := by
  refine ⟨?_, fun s hs => ?_⟩
  · refine Nat.le_trans (List.length_filterMap_le _ _) ?_
    simp
  · simp only [cleanFrom, List.mem_filterMap] at hs
    obtain ⟨j, -, hs⟩ := hs
    split at hs
    · cases hs
    · cases hs; exact zsec_length
theorem arrayAt_run {W : World} {b off n cap : Nat} (h : 128 ≤ n) : (Instr.arrayAt 125 (.slice (some ⟨b, off, none⟩) n cap)).run Try.prog W = .ok (.pointer (some ⟨b, off, none⟩)) W := by
  have hn : ¬ n < 128 := by omega
  simp [go_sem, Instr.arrayAt, hn]
theorem sliceFrom_run {W : World} {b n cap : Nat} {i : Nat} (h : i ≤ n) (hc : n ≤ cap) (hl : i < cap) : (Instr.sliceAt 23 (.slice (some ⟨b, 0, none⟩) n cap) (some (.int .i64 i)) none none).run Try.prog W = .ok (.slice (some ⟨b, i, none⟩) (n - i) (cap - i)) W := by
  simp [go_sem, h, show cap ≠ i by omega]
theorem indexPl_run {W : World} {b i : Nat} (h : i < 3) : (Instr.indexAt 127 (.pointer (some ⟨b, 0, none⟩)) (.int .i64 i)).run Try.prog W = .ok (.pointer (some ⟨b, i * 128, none⟩)) W := by
  have h' : (i : Int) < 3 := by omega
  simp [go_sem, h, h']

def cpI (B : List UInt8) (i k : Nat) : List UInt8 := (placeI B i).take (128 * k) ++ List.replicate (384 - 128 * k) 0
theorem cpI_length {B : List UInt8} (h : B.length = 768) {i k : Nat} (hi : i < 2) (hk : k ≤ 3) : (cpI B i k).length = 384 := by
  have := placeI_length h hi
  simp [cpI, this]; omega
theorem cpI_end {B : List UInt8} (h : B.length = 768) {i : Nat} (hi : i < 2) : cpI B i 3 = placeI B i := by
  have := placeI_length h hi
  simp [cpI]; exact List.take_of_length_le (by omega)
set_option maxRecDepth 10000 in
theorem cpI_lay {B : List UInt8} (h : B.length = 768) {i k : Nat} (hi : i < 2) (hk : k < 3) : lay (bv (cpI B i k)) (k * 128) (bv ((B.drop ((i * 3 + k) * 128)).take 128)) = bv (cpI B i (k + 1)) := by
  have hl := placeI_length h hi
  unfold lay
  rw [bv_take, bv_drop, ← bv_append, ← bv_append, bv_length]
  congr 1
  have h1 : (cpI B i k).take (k * 128) = (placeI B i).take (128 * k) := by
    unfold cpI
    rw [List.take_append_of_le_length (by simp [hl]; omega), List.take_take]
    congr 1; omega
  have h2 : (cpI B i k).drop (k * 128 + ((B.drop ((i * 3 + k) * 128)).take 128).length) = List.replicate (384 - 128 * (k + 1)) 0 := by
    unfold cpI
    have : ((B.drop ((i * 3 + k) * 128)).take 128).length = 128 := by simp [h]; omega
    rw [this, List.drop_append, List.drop_eq_nil_of_le (by simp [hl]; omega), List.nil_append, List.drop_replicate]
    congr 1
    simp [hl]; omega
  rw [h1, h2]
  unfold cpI
  congr 1
  have h3 : (placeI B i).take (128 * (k + 1)) = (placeI B i).take (128 * k) ++ ((placeI B i).drop (128 * k)).take 128 := by
    rw [show 128 * (k + 1) = 128 * k + 128 by omega, List.take_add]
  rw [h3]
  congr 1
  unfold placeI
  rw [List.drop_take, List.take_take, List.drop_drop]
  rw [show min 128 (384 - 128 * k) = 128 by omega, show 384 * i + 128 * k = (i * 3 + k) * 128 by omega]
theorem placeA {W : World} {bb off : Nat} {B : List UInt8} {rest : List Value} {T : TypeId} (hB : hp W bb = some (.cells (bv B ++ rest).toArray T (0, 0))) (h : off + 128 ≤ B.length) : At W bb off (bv ((B.drop off).take 128)) := by
  refine ⟨_, _, _, hB, by simp; omega, ?_⟩
  show ((bv B ++ rest).drop off).take _ = _
  rw [List.drop_append_of_le_length (by simp; omega), List.take_append_of_le_length (by simp; omega), bv_drop, bv_take, bv_length]
  congr 2
  simp; omega

theorem readP_ok (p : List UInt8) : (readP p).1 < 18446744073709551616 ∧ (readP p).2.ok := by
  unfold readP
  split
  · exact ⟨by decide, by simp [MarkM.ok, mark0]⟩
  · exact ⟨ofB8_lt _, rawMark_ok p⟩
theorem ru_mark {W : World} {K : World → Prop} {mb : Nat} {m0 mk : MarkM} (hm : hp W mb = some (.cells (markV m0).toArray 59 (0, 0)))
    (hK : ∀ W', Mod (fun b => b = mb) W W' → hp W' mb = some (.cells (markV mk).toArray 59 (0, 0)) → K W') : ru Try.prog (Instr.storeAt 59 (.pointer (some ⟨mb, 0, none⟩)) (.agg (markV mk).toArray)) W K := by
  unfold markV at hm
  simp only [markV] at hK ⊢
  simp [go_sem, hm]
  refine hK _ (((((Mod.refl (fun b => b = mb) W).setCell (.inl rfl) _ _).setCell (.inl rfl) _ _).setCell (.inl rfl) _ _).setCell (.inl rfl) _ _ |>.setCell (.inl rfl) _ _) ?_
  simp [go_sem, hm]
theorem ld_mark {W : World} {mb : Nat} {mk : MarkM} (hm : hp W mb = some (.cells (markV mk).toArray 59 (0, 0))) : (Instr.loadAt 59 (.pointer (some ⟨mb, 0, none⟩))).run Try.prog W = .ok (.agg (markV mk).toArray) W := by
  unfold markV at hm
  simp [go_sem, hm, markV]
theorem vst_n {W : World} {K : World → Prop} {v d : Nat} {file : Int} {m : MarkM} {n at_ n' : Nat} (hV : VoteAt W v d file m n at_)
    (hK : ∀ W', Mod (fun b => b = v) W W' → VoteAt W' v d file m n' at_ → K W') : ru Try.prog (Instr.storeAt 27 (.pointer (some ⟨v, 7, none⟩)) (.int .u64 (n' : Int))) W K := by
  unfold VoteAt dptr at *
  simp [go_sem, hV]
  refine hK _ ((Mod.refl (fun b => b = v) W).setCell (.inl rfl) _ _) ?_
  simp [go_sem, hV]
theorem vst_at {W : World} {K : World → Prop} {v d : Nat} {file : Int} {m : MarkM} {n at_ a' : Nat} (hV : VoteAt W v d file m n at_)
    (hK : ∀ W', Mod (fun b => b = v) W W' → VoteAt W' v d file m n a' → K W') : ru Try.prog (Instr.storeAt 3 (.pointer (some ⟨v, 8, none⟩)) (.int .i64 (a' : Int))) W K := by
  unfold VoteAt dptr at *
  simp [go_sem, hV]
  refine hK _ ((Mod.refl (fun b => b = v) W).setCell (.inl rfl) _ _) ?_
  simp [go_sem, hV]
theorem vst_m {W : World} {K : World → Prop} {v d : Nat} {file : Int} {m mk : MarkM} {n at_ : Nat} (hV : VoteAt W v d file m n at_)
    (hK : ∀ W', Mod (fun b => b = v) W W' → VoteAt W' v d file mk n at_ → K W') : ru Try.prog (Instr.storeAt 59 (.pointer (some ⟨v, 2, none⟩)) (.agg (markV mk).toArray)) W K := by
  unfold VoteAt dptr at *
  simp only [markV]
  simp [go_sem, hV]
  refine hK _ (((((Mod.refl (fun b => b = v) W).setCell (.inl rfl) _ _).setCell (.inl rfl) _ _).setCell (.inl rfl) _ _).setCell (.inl rfl) _ _ |>.setCell (.inl rfl) _ _) ?_
  simp [go_sem, hV]
theorem vld_n {W : World} {v d : Nat} {file : Int} {m : MarkM} {n at_ : Nat} (hV : VoteAt W v d file m n at_) : (Instr.loadAt 27 (.pointer (some ⟨v, 7, none⟩))).run Try.prog W = .ok (.int .u64 (n : Int)) W := by
  unfold VoteAt dptr at *
  simp [go_sem, hV]
theorem vld_at {W : World} {v d : Nat} {file : Int} {m : MarkM} {n at_ : Nat} (hV : VoteAt W v d file m n at_) : (Instr.loadAt 3 (.pointer (some ⟨v, 8, none⟩))).run Try.prog W = .ok (.int .i64 (at_ : Int)) W := by
  unfold VoteAt dptr at *
  simp [go_sem, hV]
theorem vld_d {W : World} {v d : Nat} {file : Int} {m : MarkM} {n at_ : Nat} (hV : VoteAt W v d file m n at_) : (Instr.loadAt 25 (.pointer (some ⟨v, 0, none⟩))).run Try.prog W = .ok (dptr d) W := by
  unfold VoteAt dptr at *
  simp [go_sem, hV, dptr]
theorem vfield {v : Nat} : (∀ W, (Instr.fieldAt 64 (dptr v) 0).run Try.prog W = .ok (.pointer (some ⟨v, 0, none⟩)) W) ∧ (∀ W, (Instr.fieldAt 64 (dptr v) 2).run Try.prog W = .ok (.pointer (some ⟨v, 2, none⟩)) W) ∧
    (∀ W, (Instr.fieldAt 64 (dptr v) 3).run Try.prog W = .ok (.pointer (some ⟨v, 7, none⟩)) W) ∧ (∀ W, (Instr.fieldAt 64 (dptr v) 4).run Try.prog W = .ok (.pointer (some ⟨v, 8, none⟩)) W) := by
  refine ⟨fun W => ?_, fun W => ?_, fun W => ?_, fun W => ?_⟩ <;> simp [go_sem, dptr]

theorem nilK_p {a : Addr} {K : Value → Prop} : nilK (.pointer (some a)) K = K (.pointer (some a)) := rfl
theorem Stp.on {F F' G : Nat → Prop} {w w1 w2 : World} (h : Stp F w w1 F') (h' : Mod G w1 w2) (hG : ∀ b, G b → w.heap.size ≤ b) : Stp F w w2 F' := ⟨h.mod.on h' fun b hb => .inr (hG b hb), h.sub⟩

set_option maxRecDepth 10000 in
theorem ca_vopen {w : World} {K : Kont} {d : Nat} {F : Nat → Prop} {D : DM} {file : Int} (h : DiskR w d F D) (hD : D.waits.length < 137438953472)
    (hK1 : ∀ w' F', (D.vopen file).1 ≠ 0 → DiskR w' d F' (D.vopen file).2.D → Stp F w w' F' → K (.tuple #[.pointer none, .int .i64 (D.vopen file).1]) w')
    (hK2 : ∀ w' F' v, (D.vopen file).1 = 0 → DiskR w' d F' (D.vopen file).2.D → Stp F w w' F' → w.heap.size ≤ v → ¬ F' v → VoteAt w' v d file (D.vopen file).2.m (D.vopen file).2.n (D.vopen file).2.at_ → K (.tuple #[dptr v, .int .i64 0]) w') :
    Ca Try.prog 31 #[dptr d, .int .i64 file] w K := by
  apply ca31
  unfold F31
  refine ca_read h (by omega) (fun ho => ?_) (fun ho hm => ?_) fun ho hm w1 vb own m1 nb => ?_
  · have e : D.vopen file = (180, open0 D) := by simp [DM.vopen, ho]
    rw [e] at hK1
    refine rv_of (v := .slice none 0 0) (w' := w) (by simp [go_sem]) ?_
    refine rv_of (v := .int .i64 180) (w' := w) (by simp [go_sem]) ?_
    refine rv_of (v := .bool true) (w' := w) (by simp [go_sem]) ?_
    rw [ifB_bool, if_pos rfl]
    exact hK1 w F (by simp) h (Stp.refl _ _)
  · have e : D.vopen file = (2, open0 D) := by simp [DM.vopen, ho, hm]
    rw [e] at hK1
    refine rv_of (v := .slice none 0 0) (w' := w) (by simp [go_sem]) ?_
    refine rv_of (v := .int .i64 2) (w' := w) (by simp [go_sem]) ?_
    refine rv_of (v := .bool true) (w' := w) (by simp [go_sem]) ?_
    rw [ifB_bool, if_pos rfl]
    exact hK1 w F (by simp) h (Stp.refl _ _)
  refine rv_of (v := vb) (w' := w1) (by simp [go_sem]) ?_
  refine rv_of (v := .int .i64 0) (w' := w1) (by simp [go_sem]) ?_
  refine rv_of (v := .bool false) (w' := w1) (by simp [go_sem]) ?_
  rw [ifB_bool, if_neg (by simp)]
  have e6 : Int.toNat 6 = 6 := rfl
  rw [e6] at own
  have e : D.vopen file = vlast (vgo file (D.readB file 0 6) [0, 1] (open0 D)) := by simp [DM.vopen, ho, hm]
  rw [e] at hK1 hK2
  clear e
  generalize D.readB file 0 6 = B at own hK1 hK2
  obtain ⟨hBl, ⟨-, hB0⟩ | ⟨bb, cap, rest, rfl, hcap, hBh, -, -⟩⟩ := own
  · omega
  have hBl : B.length = 768 := by simpa using hBl
  have nbb : w.heap.size ≤ bb := nb bb rfl
  refine rv_of (v := .agg #[.int .u64 0, .int .i8 (-1), .int .u8 0, .int .u64 0, .int .u64 0]) (w' := w1) (by simp [go_sem]) ?_
  refine rv_of (v := .agg #[dptr d, .int .i64 file, .int .u64 0, .int .i8 (-1), .int .u8 0, .int .u64 0, .int .u64 0, .int .u64 0, .int .i64 1]) (w' := w1) (by simp [go_sem, dptr]) ?_
  refine rv_box ?_
  have hv : VoteAt (w1.alloc (.cells #[dptr d, .int .i64 file, .int .u64 0, .int .i8 (-1), .int .u8 0, .int .u64 0, .int .u64 0, .int .u64 0, .int .i64 1] 64)) w1.heap.size d file (open0 D).m (open0 D).n (open0 D).at_ := by
    simp only [VoteAt, hp_alloc, if_pos]
    rfl
  have m2 : Mod (fun _ => False) w (w1.alloc (.cells #[dptr d, .int .i64 file, .int .u64 0, .int .i8 (-1), .int .u8 0, .int .u64 0, .int .u64 0, .int .u64 0, .int .i64 1] 64)) := m1.alloc _
  have hBh2 : hp (w1.alloc (.cells #[dptr d, .int .i64 file, .int .u64 0, .int .i8 (-1), .int .u8 0, .int .u64 0, .int .u64 0, .int .u64 0, .int .i64 1] 64)) bb = _ := ((Mod.refl (fun _ => False) w1).alloc _).keep hBh id
  have hvb : bb < w1.heap.size := lt_of_heap hBh
  generalize (w1.alloc (.cells #[dptr d, .int .i64 file, .int .u64 0, .int .i8 (-1), .int .u8 0, .int .u64 0, .int .u64 0, .int .u64 0, .int .i64 1] 64)) = W0 at hv m2 hBh2
  have lv : w.heap.size ≤ w1.heap.size := m1.size
  obtain ⟨v, hvq⟩ : ∃ v, w1.heap.size = v := ⟨_, rfl⟩
  rw [hvq] at hv hvb lv ⊢
  unfold L31_3
  refine loopK (fun s W => ∃ (i : Nat) (x y : Value) (Os : OpenS) (F' : Nat → Prop), i ≤ 2 ∧ s = (x, y, .bool Os.cl, .int .i64 i, ()) ∧ DiskR W d F' Os.D ∧ Stp F w W F' ∧ vgo file B [0, 1] (open0 D) = vgo file B ([0, 1].drop i) Os ∧ Os.D.waits.length ≤ D.waits.length + 384 * i ∧ ¬ F' v ∧ ¬ F' bb ∧
      hp W bb = some (.cells (bv B ++ rest).toArray 5 (0, 0)) ∧ VoteAt W v d file Os.m Os.n Os.at_ ∧ Os.n < 18446744073709551616)
    (fun s _ => match s.2.2.2.1 with | .int _ i => 2 - i.toNat | _ => 0) ⟨0, _, _, open0 D, F, by omega, rfl, h.mod m2 fun _ _ h => h, ⟨m2.mono fun _ _ h => h.elim, fun b hb => .inl hb⟩, rfl, Nat.le_refl _, fun hb => by have := h.lt hb; omega, fun hb => by have := h.lt hb; omega, hBh2, hv, by simp [open0]⟩ ?_
  rintro ⟨_, _⟩ W ⟨i, x, y, Os, F', hi, ⟨⟩, dW, sW, eW, lW, vF, bF, hB, hV, hn⟩ KN hKN _
  have hw1 : IntKind.i64.wrap ((i : Int) + 1) = ((i + 1 : Nat) : Int) := by rw [IntKind.wrap_i64]; omega
  by_cases hlt : i < 2
  · have hlt' : (i : Int) < 2 := by omega
    refine rv_of (v := .bool true) (w' := W) (by simp [go_sem, hlt']) ?_
    rw [ifB_bool, if_pos rfl]
    refine rx_bigA plT3 ?_
    rw [plT4]
    have mA : Mod (fun _ => False) W (W.alloc (.cells (bv (List.replicate 384 0)).toArray 127)) := (Mod.refl _ W).alloc _
    have hA : hp (W.alloc (.cells (bv (List.replicate 384 0)).toArray 127)) W.heap.size = some (.cells (bv (List.replicate 384 0)).toArray 127 (0, 0)) := by simp only [hp_alloc, if_pos]
    generalize (W.alloc (.cells (bv (List.replicate 384 0)).toArray 127)) = W1 at mA hA
    obtain ⟨q, hq⟩ : ∃ q, W.heap.size = q := ⟨_, rfl⟩
    rw [hq] at hA ⊢
    unfold L31_1
    refine loopK (fun s W' => ∃ k : Nat, k ≤ 3 ∧ s = (.int .i64 k, ()) ∧ Mod (fun _ => False) W W' ∧ hp W' q = some (.cells (bv (cpI B i k)).toArray 127 (0, 0)))
      (fun s _ => match s.1 with | .int _ i => 3 - i.toNat | _ => 0) ⟨0, by omega, rfl, mA, hA⟩ ?_
    rintro ⟨_, _⟩ W2 ⟨k, hk, ⟨⟩, m2', hQ⟩ KN2 hKN2 _
    have hw1k : IntKind.i64.wrap ((k : Int) + 1) = ((k + 1 : Nat) : Int) := by rw [IntKind.wrap_i64]; omega
    by_cases hk3 : k < 3
    · have hk3' : (k : Int) < 3 := by omega
      refine rv_of (v := .bool true) (w' := W2) (by simp [go_sem, hk3']) ?_
      rw [ifB_bool, if_pos rfl]
      have hwa : IntKind.i64.wrap ((i : Int) * 3) = ((i * 3 : Nat) : Int) := by rw [IntKind.wrap_i64]; omega
      have hwb : IntKind.i64.wrap (((i * 3 : Nat) : Int) + (k : Int)) = ((i * 3 + k : Nat) : Int) := by rw [IntKind.wrap_i64]; omega
      have hwc : IntKind.i64.wrap (((i * 3 + k : Nat) : Int) * 128) = (((i * 3 + k) * 128 : Nat) : Int) := by rw [IntKind.wrap_i64]; omega
      refine rv_of (v := .int .i64 ((i * 3 : Nat) : Int)) (w' := W2) (by simp [-Int.natCast_add, -Int.natCast_mul, go_sem, hwa]) ?_
      refine rv_of (v := .int .i64 ((i * 3 + k : Nat) : Int)) (w' := W2) (by simp [-Int.natCast_add, -Int.natCast_mul, go_sem, hwb]) ?_
      refine rv_of (v := .int .i64 (((i * 3 + k) * 128 : Nat) : Int)) (w' := W2) (by simp [-Int.natCast_add, -Int.natCast_mul, go_sem, hwc]) ?_
      refine rv_of (sliceFrom_run (by omega) hcap (by omega)) ?_
      refine rv_of (arrayAt_run (by omega)) ?_
      refine rx_bigS _ 127 secT1 secT2 (by simp; omega) (placeA (m2'.keep hB id) (by omega)) ?_
      refine rv_of (indexPl_run hk3) ?_
      refine rux_bigU (n := 127) secT2 (by simp; omega) hQ (by simp [cpI_length hBl hlt hk]; omega) (bv_one _) ?_
      rw [show (bv (cpI B i k)).toArray.toList = bv (cpI B i k) from rfl, cpI_lay hBl hlt hk3]
      have m3 : Mod (fun _ => False) W (W2.setRow q (bv (cpI B i (k + 1))).toArray) := m2'.setRow (.inr (by omega)) _
      have hQ3 : hp (W2.setRow q (bv (cpI B i (k + 1))).toArray) q = some (.cells (bv (cpI B i (k + 1))).toArray 127 (0, 0)) := by
        have hQ' : W2.heap[q]? = _ := hQ
        show (W2.setRow q (bv (cpI B i (k + 1))).toArray).heap[q]? = _
        rw [heap_setRow, if_pos rfl, hQ']
      refine rv_of (v := .int .i64 ((k + 1 : Nat) : Int)) (w' := W2.setRow q (bv (cpI B i (k + 1))).toArray) (by simp [-Int.natCast_add, go_sem, hw1k]) ?_
      exact hKN2 _ _ ⟨k + 1, hk3, rfl, m3, hQ3⟩ (by simp; omega)
    have : k = 3 := by omega
    subst this
    refine rv_of (v := .bool false) (w' := W2) (by simp [go_sem]) ?_
    rw [ifB_bool, if_neg (by simp)]
    clear hKN2 KN2
    rw [cpI_end hBl hlt] at hQ
    have hpl := placeI_length hBl hlt
    refine rx_bigS (bv (placeI B i)) 383 plT1 plT2 (by simp [hpl]) (At.whole hQ) ?_
    refine ca_vread hpl fun W3 m3 => ?_
    have m23 := m2'.trans m3
    have hQ := m3.keep hQ id
    have hV3 := (m23.keep hV id)
    have dW3 := dW.mod m23 fun _ _ h => h
    have sW3 : Stp F w W3 F' := sW.trans ⟨m23.mono fun _ _ h => h.elim, fun b hb => .inl hb⟩
    have hB3 := m23.keep hB id
    have mok := readP_ok (placeI B i)
    have hst : vgo file B ([0, 1].drop i) Os = if (vround file B i Os).1 = 0 then vgo file B ([0, 1].drop (i + 1)) (vround file B i Os).2 else vround file B i Os := by
      have : i = 0 ∨ i = 1 := by omega
      rcases this with rfl | rfl <;> rfl
    rw [hst] at eW
    unfold vround at eW
    generalize readP (placeI B i) = rp at eW mok ⊢
    obtain ⟨num, mk⟩ := rp
    refine rv_of (v := .int .u64 (num : Int)) (w' := W3) (by simp [go_sem]) ?_
    refine rv_of (v := .agg (markV mk).toArray) (w' := W3) (by simp [go_sem]) ?_
    have hal : ∀ W, (Instr.alloc 59 true (.tuple #[])).run Try.prog W = .ok (.pointer (some ⟨W.heap.size, 0, none⟩)) (W.alloc (.cells (markV mark0).toArray 59)) := fun W => by simp [go_sem, markV, mark0]
    refine rv_of (hal W3) ?_
    have mC : Mod (fun _ => False) W3 (W3.alloc (.cells (markV mark0).toArray 59)) := (Mod.refl _ W3).alloc _
    have hC : hp (W3.alloc (.cells (markV mark0).toArray 59)) W3.heap.size = some (.cells (markV mark0).toArray 59 (0, 0)) := by simp only [hp_alloc, if_pos]
    generalize (W3.alloc (.cells (markV mark0).toArray 59)) = W4 at mC hC
    obtain ⟨mb, hmb⟩ : ∃ mb, W3.heap.size = mb := ⟨_, rfl⟩
    rw [hmb] at hC ⊢
    have m34 := m23.trans mC
    have hV4 := mC.keep hV3 id
    have dW4 := dW3.mod mC fun _ _ h => h
    have sW4 : Stp F w W4 F' := sW3.trans ⟨mC.mono fun _ _ h => h.elim, fun b hb => .inl hb⟩
    have hB4 := mC.keep hB3 id
    have hQ4 := mC.keep hQ id
    have vmb : v < mb := by have := lt_of_heap hV3; omega
    have bmb : bb < mb := by have := lt_of_heap hB3; omega
    have qmb : q < mb := by have := lt_of_heap hQ; omega
    have fmb : ∀ b, F' b → b < mb := fun b hb => by have := dW3.lt hb; omega
    clear mC hV3 dW3 sW3 hB3 hQ
    refine ru_mark hC fun W5 m5 hC5 => ?_
    have k5 : ∀ b, b < mb → ¬ b = mb := fun b h e => by omega
    have hV5 := m5.keep hV4 (k5 _ vmb)
    have dW5 := dW4.mod m5 fun b hb => k5 b (fmb b hb)
    have hB5 := m5.keep hB4 (k5 _ bmb)
    have hQ5 := m5.keep hQ4 (k5 q qmb)
    have wmb : w.heap.size ≤ mb := by have := sW.mod.size; have := m23.size; omega
    have sW5 : Stp F w W5 F' := sW4.on m5 fun b hb => hb ▸ wmb
    have vmb5 : v < mb := vmb
    clear m5 hC hV4 dW4 sW4 hB4 hQ4
    rw [nilK_p]
    refine rv_of (vfield.2.2.1 _) ?_
    refine rv_of (vld_n hV5) ?_
    refine rv_of (v := .bool (decide (Os.n < num))) (w' := W5) (by simp [go_sem]) ?_
    by_cases hgt : num > Os.n
    · rw [if_pos hgt] at eW
      rw [ifB_bool, if_pos (by simpa using hgt)]
      have hC6 : hp W5.drew mb = some (.cells (markV mk).toArray 59 (0, 0)) := hC5
      refine rdW_of (ld_mark hC6) ?_
      rw [nilK_p]
      refine rdP_of vfield.2.2.1 ?_
      refine vst_n (W := W5.drew) hV5 fun W6 m6 hV6 => ?_
      refine ⟨ld_mark (m6.keep hC6 fun e => by omega), ?_⟩
      rw [nilK_p]
      refine rdP_of vfield.2.1 ?_
      refine vst_m hV6 fun W7 m7 hV7 => ?_
      rw [nilK_p]
      refine rdP_of vfield.2.2.2 ?_
      refine vst_at hV7 fun W8 m8 hV8 => ?_
      refine rv_of (v := .int .i64 ((i + 1 : Nat) : Int)) (w' := W8) (by simp [-Int.natCast_add, go_sem, hw1]) ?_
      have m58 : Mod (fun b => b = v) W5 W8 := (((Mod.refl (fun b => b = v) W5).drew.trans m6).trans m7).trans m8
      exact hKN _ _ ⟨i + 1, _, _, { Os with m := mk, n := num, at_ := i }, F', hlt, rfl, dW5.mod m58 fun b hb e => vF (e ▸ hb), sW5.on m58 fun b hb => hb ▸ lv, eW, by show Os.D.waits.length ≤ _; omega, vF, bF, m58.keep hB5 (fun e => by omega), hV8, mok.1⟩ (by simp; omega)
    · rw [if_neg hgt] at eW
      rw [ifB_bool, if_neg (by simpa using hgt)]
      refine joinK (fun s W' => s = (.bool (decide (num = 0 ∧ placeI B i ≠ z384)), ()) ∧ W' = W5) (fun JJ hJJ => ?_) ?_
      · refine rv_of (v := .bool (decide (num = 0))) (w' := W5) ?_ ?_
        · simp [go_sem]
          rw [Bool.eq_iff_iff]
          simp
        · by_cases h0 : num = 0
          · rw [ifB_bool, if_pos (by simpa using h0)]
            refine rx_bigS (bv (placeI B i)) 383 plT1 plT2 (by simp [hpl]) (At.whole hQ5) ?_
            refine rx_bigB plT5 ?_
            refine rv_of (neq_place hpl (by simp) _) ?_
            exact hJJ _ _ ⟨by simp [h0, z384], rfl⟩
          · rw [ifB_bool, if_neg (by simpa using h0)]
            exact hJJ _ _ ⟨by simp [h0], rfl⟩
      rintro _ W6 ⟨rfl, rfl⟩
      unfold J31_0
      intro _
      by_cases hcl : num = 0 ∧ placeI B i ≠ z384
      · rw [if_pos hcl] at eW
        rw [ifB_bool, if_pos (by simpa using hcl)]
        refine rx_bigS (bv (placeI B i)) 383 plT1 plT2 (by simp [hpl]) (At.whole hQ5) ?_
        refine ca_vclean hV5 vF dW5 (by omega) hpl (by omega) fun W7 F7 d7 s7 => ?_
        have hl := writes_len file _ Os.D (cleanFrom_len i (placeI B i) 0).2
        have hl2 := (cleanFrom_len i (placeI B i) 0).1
        generalize Os.D.writes file (cleanFrom i (placeI B i) 0) = WR at eW d7 hl ⊢
        have hno : ∀ b, b < W6.heap.size → ¬ F' b → ¬ F7 b := fun b hb hf h => by
          rcases s7.sub b h with h | h
          · exact hf h
          · omega
        by_cases he : WR.1 = 0
        · rw [if_pos he] at eW
          refine rv_of (v := .bool false) (w' := W7) (by simp [go_sem, he]) ?_
          rw [ifB_bool, if_neg (by simp)]
          refine rv_of (v := .int .i64 ((i + 1 : Nat) : Int)) (w' := W7) (by simp [-Int.natCast_add, go_sem, hw1]) ?_
          exact hKN _ _ ⟨i + 1, _, _, { Os with D := WR.2, cl := true }, F7, hlt, rfl, d7, sW5.trans s7, eW, by show WR.2.waits.length ≤ _; omega, hno v (lt_of_heap hV5) vF, hno bb (lt_of_heap hB5) bF, s7.mod.keep hB5 bF, s7.mod.keep hV5 vF, hn⟩ (by simp; omega)
        · rw [if_neg he] at eW
          rw [eW] at hK1
          refine rv_of (v := .bool true) (w' := W7) (by simp [go_sem, he]) ?_
          rw [ifB_bool, if_pos rfl]
          have e : vlast (WR.1, ({ Os with D := WR.2, cl := true } : OpenS)) = (WR.1, { Os with D := WR.2, cl := true }) := by simp [vlast, he]
          rw [e] at hK1
          exact hK1 _ _ he d7 (sW5.trans s7)
      · rw [if_neg hcl] at eW
        rw [ifB_bool, if_neg (by simpa using hcl)]
        refine rv_of (v := .int .i64 ((i + 1 : Nat) : Int)) (w' := W6) (by simp [-Int.natCast_add, go_sem, hw1]) ?_
        exact hKN _ _ ⟨i + 1, _, _, Os, F', hlt, rfl, dW5, sW5, eW, by omega, vF, bF, hB5, hV5, hn⟩ (by simp; omega)
  · have : i = 2 := by omega
    subst this
    refine rv_of (v := .bool false) (w' := W) (by simp [go_sem]) ?_
    rw [ifB_bool, if_neg (by simp)]
    have eW' : vgo file B [0, 1] (open0 D) = (0, Os) := eW
    rw [eW'] at hK1 hK2
    refine joinK (fun s W' => ∃ F'', DiskR W' d F'' (vlast (0, Os)).2.D ∧ (vlast (0, Os)).1 = 0 ∧ Stp F w W' F'' ∧ ¬ F'' v ∧ VoteAt W' v d file (vlast (0, Os)).2.m (vlast (0, Os)).2.n (vlast (0, Os)).2.at_) (fun JJ hJJ => ?_) ?_
    · cases hc : Os.cl
      · have e : vlast (0, Os) = (0, Os) := by simp [vlast, hc]
        rw [ifB_bool, if_neg (by simp)]
        rw [e] at hJJ
        exact hJJ _ _ ⟨F', dW, rfl, sW, vF, hV⟩
      · have e : vlast (0, Os) = (Os.D.sync.1, { Os with D := Os.D.sync.2 }) := by simp [vlast, hc]
        rw [ifB_bool, if_pos rfl]
        rw [e] at hJJ hK1
        refine ca_sync dW (by omega) fun W2 F2 d2 s2 => ?_
        by_cases he : Os.D.sync.1 = 0
        · refine rv_of (v := .bool false) (w' := W2) (by simp [go_sem, he]) ?_
          rw [ifB_bool, if_neg (by simp)]
          refine hJJ _ _ ⟨F2, d2, he, sW.trans s2, fun hb => ?_, s2.mod.keep hV vF⟩
          rcases s2.sub v hb with h | h
          · exact vF h
          · have := lt_of_heap hV; omega
        · refine rv_of (v := .bool true) (w' := W2) (by simp [go_sem, he]) ?_
          rw [ifB_bool, if_pos rfl]
          exact hK1 _ _ he d2 (sW.trans s2)
    rintro _ W2 ⟨F2, d2, he, s2, vF2, hV2⟩
    unfold J31_2
    intro _
    exact hK2 _ _ v he d2 s2 lv vF2 hV2
end Go.Proofs

namespace Go.Proofs
open Go Go.Vc

def DM.vset1 (D : DM) (file : Int) (n at_ : Nat) (m : MarkM) : Int × DM := D.writes file (placeW (1 - at_) (wr (n + 1) m))
def DM.vset (D : DM) (file : Int) (n at_ : Nat) (m : MarkM) : Int × DM :=
  if (D.vset1 file n at_ m).1 = 0 then (D.vset1 file n at_ m).2.sync else D.vset1 file n at_ m
theorem wr_length (n : Nat) (m : MarkM) : (wr n m).length = 384 := by unfold wr; rw [wrN_length]
theorem placeW_len (k : Nat) {p : List UInt8} (h : p.length = 384) : (placeW k p).length = 3 ∧ ∀ s ∈ placeW k p, s.2.length = 128 := by
  refine ⟨by simp [placeW], fun s hs => ?_⟩
  simp only [placeW, List.mem_map, List.mem_range] at hs
  obtain ⟨j, hj, rfl⟩ := hs
  exact secI_length h hj

set_option maxRecDepth 10000 in
theorem ca_vset {w : World} {K : Kont} {v d : Nat} {F : Nat → Prop} {D : DM} {file : Int} {m m' : MarkM} {n at_ : Nat} (hv : VoteAt w v d file m n at_) (hvF : ¬ F v) (h : DiskR w d F D) (hD : D.waits.length < 137438953472) (hn : n + 1 < 18446744073709551616) (hat : at_ ≤ 1) (hm' : m'.ok)
    (hK0 : m'.may = false → ∀ w', Mod (fun _ => False) w w' → K (.int .i64 2) w')
    (hK1 : m'.may = true → (D.vset file n at_ m').1 ≠ 0 → ∀ w' F', DiskR w' d F' (D.vset file n at_ m').2 → Stp F w w' F' → VoteAt w' v d file m n at_ → ¬ F' v → K (.int .i64 (D.vset file n at_ m').1) w')
    (hK2 : m'.may = true → (D.vset file n at_ m').1 = 0 → ∀ w' F', DiskR w' d F' (D.vset file n at_ m').2 → Stp (fun b => F b ∨ b = v) w w' F' → VoteAt w' v d file m' (n + 1) (1 - at_) → ¬ F' v → K (.int .i64 0) w') :
    Ca Try.prog 32 #[dptr v, .agg (markV m').toArray] w K := by
  apply ca32
  unfold F32
  refine rv_box ?_
  have mA : Mod (fun _ => False) w (w.alloc (.cells (markV m').toArray 59)) := (Mod.refl _ w).alloc _
  have hA : hp (w.alloc (.cells (markV m').toArray 59)) w.heap.size = some (.cells (markV m').toArray 59 (0, 0)) := by simp only [hp_alloc, if_pos]
  generalize (w.alloc (.cells (markV m').toArray 59)) = W at mA hA
  obtain ⟨q, hq⟩ : ∃ q, w.heap.size = q := ⟨_, rfl⟩
  have hvq : v < q := by have := lt_of_heap hv; omega
  rw [hq] at hA ⊢
  have hV := mA.keep hv id
  refine ca_vnone hV ?_
  rw [ifB_bool, if_neg (by simp)]
  refine rv_of (ld_mark hA) ?_
  refine ca_vmay fun W1 m1 => ?_
  have hA1 := m1.keep hA id
  have hV1 := m1.keep hV id
  have dW1 := (h.mod mA fun _ _ h => h).mod m1 fun _ _ h => h
  have sW1 : Stp F w W1 F := ⟨(mA.trans m1).mono fun _ _ h => h.elim, fun b hb => .inl hb⟩
  refine rv_of (v := .bool (!m'.may)) (w' := W1) (by simp [go_sem]) ?_
  cases hmay : m'.may
  · rw [ifB_bool, if_pos (by simp)]
    exact hK0 hmay W1 (mA.trans m1)
  rw [ifB_bool, if_neg (by simp)]
  rw [show dptr v = .pointer (some ⟨v, 0, none⟩) from rfl, nilK_p]
  refine rv_of (vfield.2.2.2 _) ?_
  refine rv_of (vld_at hV1) ?_
  have hw1 : IntKind.i64.wrap (1 - (at_ : Int)) = ((1 - at_ : Nat) : Int) := by rw [IntKind.wrap_i64]; omega
  have hwn : IntKind.u64.wrap ((n : Int) + 1) = ((n + 1 : Nat) : Int) := by rw [IntKind.wrap_u64]; omega
  refine rv_of (v := .int .i64 ((1 - at_ : Nat) : Int)) (w' := W1) (by simp [go_sem, hw1]) ?_
  rw [nilK_p]
  refine rdP_of vfield.2.2.1 ?_
  refine rdW_of (vld_n (W := W1.drew) hV1) ?_
  refine rdP_of (v := .int .u64 ((n + 1 : Nat) : Int)) (fun w => by simp [-Int.natCast_add, go_sem, hwn]) ?_
  refine rdW_of (ld_mark (W := W1.drew) hA1) ?_
  refine ca_written hn hm' fun W2 m2 => ?_
  have m12 : Mod (fun _ => False) W1 W2 := ((Mod.refl _ W1).drew).trans m2
  have hA2 := m12.keep hA1 id
  have hV2 := m12.keep hV1 id
  have dW2 := dW1.mod m12 fun _ _ h => h
  have sW2 : Stp F w W2 F := sW1.trans ⟨m12.mono fun _ _ h => h.elim, fun b hb => .inl hb⟩
  refine ca_vwrite hV2 hvF dW2 (by omega) (wr_length _ _) (by omega) fun W3 F3 d3 s3 => ?_
  have hqF : ¬ F q := fun hb => by have := h.lt hb; omega
  have hno : ∀ b, b < W2.heap.size → ¬ F b → ¬ F3 b := fun b hb hf h => by
    rcases s3.sub b h with h | h
    · exact hf h
    · omega
  have hv3 := hno v (lt_of_heap hV2) hvF
  have hq3 := hno q (lt_of_heap hA2) hqF
  have hV3 := s3.mod.keep hV2 hvF
  have hA3 := s3.mod.keep hA2 hqF
  have sW3 := sW2.trans s3
  have eS : D.vset file n at_ m' = if (D.writes file (placeW (1 - at_) (wr (n + 1) m'))).1 = 0 then (D.writes file (placeW (1 - at_) (wr (n + 1) m'))).2.sync else D.writes file (placeW (1 - at_) (wr (n + 1) m')) := rfl
  have hl := writes_len file _ D (placeW_len (1 - at_) (wr_length (n + 1) m')).2
  rw [(placeW_len (1 - at_) (wr_length (n + 1) m')).1] at hl
  generalize D.writes file (placeW (1 - at_) (wr (n + 1) m')) = R at d3 eS hl ⊢
  rw [eS] at hK1 hK2
  by_cases he : R.1 = 0
  · rw [if_pos he] at hK1 hK2
    refine rv_of (v := .bool false) (w' := W3) (by simp [go_sem, he]) ?_
    rw [ifB_bool, if_neg (by simp)]
    rw [nilK_p]
    refine rv_of (vfield.1 _) ?_
    refine rv_of (vld_d hV3) ?_
    refine ca_sync d3 (by omega) fun W4 F4 d4 s4 => ?_
    have hno4 : ∀ b, b < W3.heap.size → ¬ F3 b → ¬ F4 b := fun b hb hf h => by
      rcases s4.sub b h with h | h
      · exact hf h
      · omega
    have hv4 := hno4 v (lt_of_heap hV3) hv3
    have hV4 := s4.mod.keep hV3 hv3
    have hA4 := s4.mod.keep hA3 hq3
    have sW4 := sW3.trans s4
    by_cases hs : R.2.sync.1 = 0
    · refine rv_of (v := .bool false) (w' := W4) (by simp [go_sem, hs]) ?_
      rw [ifB_bool, if_neg (by simp)]
      refine rdW_of (ld_mark (W := W4.drew) hA4) ?_
      rw [nilK_p]
      refine rdP_of vfield.2.2.1 ?_
      refine rdW_of (vld_n (W := W4.drew) hV4) ?_
      refine rdP_of (v := .int .u64 ((n + 1 : Nat) : Int)) (fun w => by simp [-Int.natCast_add, go_sem, hwn]) ?_
      rw [nilK_p]
      refine rdP_of vfield.2.1 ?_
      refine vst_m (W := W4.drew) hV4 fun W5 m5 hV5 => ?_
      rw [nilK_p]
      refine rdP_of vfield.2.2.1 ?_
      refine vst_n hV5 fun W6 m6 hV6 => ?_
      rw [nilK_p]
      refine rdP_of vfield.2.2.2 ?_
      refine vst_at hV6 fun W7 m7 hV7 => ?_
      have m47 : Mod (fun b => b = v) W4 W7 := (((Mod.refl (fun b => b = v) W4).drew.trans m5).trans m6).trans m7
      exact hK2 hmay hs W7 F4 (d4.mod m47 fun b hb e => hv4 (e ▸ hb)) ⟨(sW4.mod.mono fun b _ hb => .inl hb).on m47 fun b hb => .inl (.inr hb), fun b hb => (sW4.sub b hb).imp .inl id⟩ hV7 hv4
    · refine rv_of (v := .bool true) (w' := W4) (by simp [go_sem, hs]) ?_
      rw [ifB_bool, if_pos rfl]
      exact hK1 hmay hs W4 F4 d4 sW4 hV4 hv4
  · rw [if_neg he] at hK1 hK2
    refine rv_of (v := .bool true) (w' := W3) (by simp [go_sem, he]) ?_
    rw [ifB_bool, if_pos rfl]
    exact hK1 hmay he W3 F3 d3 sW3 hV3 hv3

/-! ### No vote -/
theorem ca_vnone_nil {w : World} {K : Kont} (hK : K (.bool true) w) : Ca Try.prog 66 #[.pointer none] w K := by
  apply ca66
  unfold F66
  simp [go_sem]
  exact hK
def zeroVote : List Value := [.pointer none, .int .i64 0, .int .u64 0, .int .i8 0, .int .u8 0, .int .u64 0, .int .u64 0, .int .u64 0, .int .i64 0]
theorem ca_vnone_zero {w : World} {K : Kont} {v : Nat} (h : hp w v = some (.cells zeroVote.toArray 64 (0, 0))) (hK : K (.bool true) w) : Ca Try.prog 66 #[dptr v] w K := by
  apply ca66
  unfold F66
  unfold zeroVote at h
  simp [go_sem, dptr, h]
  exact hK
/-- What is no vote. -/
def NoVote (w : World) (x : Value) : Prop := x = .pointer none ∨ ∃ v, x = dptr v ∧ hp w v = some (.cells zeroVote.toArray 64 (0, 0))
theorem NoVote.mod {w W : World} {x : Value} (h : NoVote w x) (m : Mod (fun _ => False) w W) : NoVote W x := h.imp id fun ⟨v, e, h⟩ => ⟨v, e, m.keep h id⟩
theorem ca_no {w : World} {K : Kont} {x : Value} (h : NoVote w x) (hK : K (.bool true) w) : Ca Try.prog 66 #[x] w K := by
  rcases h with rfl | ⟨v, rfl, h⟩
  · exact ca_vnone_nil hK
  · exact ca_vnone_zero h hK
theorem ca_number_no {w : World} {K : Kont} {x : Value} (h : NoVote w x) (hK : K (.int .u64 0) w) : Ca Try.prog 34 #[x] w K := by
  apply ca34
  unfold F34
  refine ca_no h ?_
  simp [go_sem]
  exact hK
theorem ca_mark_no {w : World} {K : Kont} {x : Value} (h : NoVote w x) (hK : ∀ w', Mod (fun _ => False) w w' → K (.agg (markV mark0).toArray) w') : Ca Try.prog 33 #[x] w K := by
  apply ca33
  unfold F33
  have hal : ∀ W, (Instr.alloc 59 true (.tuple #[])).run Try.prog W = .ok (.pointer (some ⟨W.heap.size, 0, none⟩)) (W.alloc (.cells (markV mark0).toArray 59)) := fun W => by simp [go_sem, markV, mark0]
  refine rv_of (hal w) ?_
  have mC : Mod (fun _ => False) w (w.alloc (.cells (markV mark0).toArray 59)) := (Mod.refl _ w).alloc _
  have hC : hp (w.alloc (.cells (markV mark0).toArray 59)) w.heap.size = some (.cells (markV mark0).toArray 59 (0, 0)) := by simp only [hp_alloc, if_pos]
  generalize (w.alloc (.cells (markV mark0).toArray 59)) = W4 at mC hC
  refine ca_no (h.mod mC) ?_
  rw [ifB_bool, if_pos rfl]
  unfold markV mark0 at hC
  simp [go_sem, hC]
  refine hK _ (mod5 mC (Nat.le_refl _) _ _ _ _ _)
theorem ca_set_no {w : World} {K : Kont} {x : Value} {m' : MarkM} (h : NoVote w x) (hK : ∀ w', Mod (fun _ => False) w w' → K (.int .i64 1) w') : Ca Try.prog 32 #[x, .agg (markV m').toArray] w K := by
  apply ca32
  unfold F32
  refine rv_box ?_
  have mA : Mod (fun _ => False) w (w.alloc (.cells (markV m').toArray 59)) := (Mod.refl _ w).alloc _
  refine ca_no (h.mod mA) ?_
  rw [ifB_bool, if_pos rfl]
  exact hK _ mA
theorem ca_vopen_nil {w : World} {K : Kont} {file : Int} (hK : K (.tuple #[.pointer none, .int .i64 1]) w) : Ca Try.prog 31 #[.pointer none, .int .i64 file] w K := by
  apply ca31
  unfold F31
  refine ca_read_nil ?_
  refine rv_of (v := .slice none 0 0) (w' := w) (by simp [go_sem]) ?_
  refine rv_of (v := .int .i64 1) (w' := w) (by simp [go_sem]) ?_
  refine rv_of (v := .bool true) (w' := w) (by simp [go_sem]) ?_
  rw [ifB_bool, if_pos rfl]
  exact hK
end Go.Proofs
