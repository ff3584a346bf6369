/-
  The contract of vote.Open.
  Conditions: the memory holds the disk.
-/
import Derived.Test.YteldcaeicgobfaaVote6
set_option linter.unusedSimpArgs false
set_option linter.unusedVariables false
namespace Go.Proofs
open Go Go.Vc

def placeI (B : List UInt8) (i : Nat) : List UInt8 := (B.drop (384 * i)).take 384
theorem placeI_length {B : List UInt8} (h : B.length = 768) {i : Nat} (hi : i < 2) : (placeI B i).length = 384 := by simp [placeI]; omega
def z384 : List UInt8 := List.replicate 384 0
structure OpenS where
  D : DM
  m : MarkM
  n : Nat
  at_ : Nat
  cl : Bool
def vround (file : Int) (B : List UInt8) (i : Nat) (s : OpenS) : Int × OpenS :=
  if (readP (placeI B i)).1 > s.n then (0, { s with m := (readP (placeI B i)).2, n := (readP (placeI B i)).1, at_ := i })
  else if (readP (placeI B i)).1 = 0 ∧ placeI B i ≠ z384 then
    ((s.D.writes file (cleanFrom i (placeI B i) 0)).1, { s with D := (s.D.writes file (cleanFrom i (placeI B i) 0)).2, cl := true })
  else (0, s)
def vgo (file : Int) (B : List UInt8) : List Nat → OpenS → Int × OpenS
  | [], s => (0, s)
  | i :: r, s => if (vround file B i s).1 = 0 then vgo file B r (vround file B i s).2 else vround file B i s
def vlast (r : Int × OpenS) : Int × OpenS :=
  if r.1 ≠ 0 then r else if r.2.cl = true then (r.2.D.sync.1, { r.2 with D := r.2.D.sync.2 }) else r
def open0 (D : DM) : OpenS := ⟨D, ⟨0, -1, 0, 0, 0⟩, 0, 1, false⟩
def DM.vopen (D : DM) (file : Int) : Int × OpenS :=
  if D.off = true then (180, open0 D) else if mayB file 0 6 = false then (2, open0 D) else vlast (vgo file (D.readB file 0 6) [0, 1] (open0 D))

theorem writes_len (f : Int) : ∀ (l : List (Int × Sec)) (D : DM), (∀ s ∈ l, s.2.length = 128) → (D.writes f l).2.waits.length ≤ D.waits.length + 128 * l.length
  | [], D, _ => by simp [DM.writes]
  | (a, s) :: r, D, h => by
    have h1 := (write_len D f a s).1
    have h2 := h _ (List.mem_cons_self ..)
    simp only at h2
    have h3 := writes_len f r (D.write f a s).2 fun s hs => h s (List.mem_cons_of_mem _ hs)
    unfold DM.writes
    split <;> simp only [List.length_cons] at * <;> omega
theorem cleanFrom_len (k : Nat) (p : List UInt8) (i : Nat) : (cleanFrom k p i).length ≤ 3 ∧ ∀ s ∈ cleanFrom k p i, s.2.length = 128 := by
  refine ⟨?_, fun s hs => ?_⟩
  · refine Nat.le_trans (List.length_filterMap_le _ _) ?_
    simp
  · simp only [cleanFrom, List.mem_filterMap] at hs
    obtain ⟨j, -, hs⟩ := hs
    split at hs
    · cases hs
    · cases hs; exact zsec_length
theorem arrayAt_run {W : World} {b off n cap : Nat} (h : 128 ≤ n) : (Instr.arrayAt 125 (.slice (some ⟨b, off, none⟩) n cap)).run Try.prog W = .ok (.pointer (some ⟨b, off, none⟩)) W := by
  have hn : ¬ n < 128 := by omega
  simp [go_sem, Instr.arrayAt, hn]
theorem sliceFrom_run {W : World} {b n cap : Nat} {i : Nat} (h : i ≤ n) (hc : n ≤ cap) (hl : i < cap) : (Instr.sliceAt 23 (.slice (some ⟨b, 0, none⟩) n cap) (some (.int .i64 i)) none none).run Try.prog W = .ok (.slice (some ⟨b, i, none⟩) (n - i) (cap - i)) W := by
  simp [go_sem, h, show cap ≠ i by omega]
theorem indexPl_run {W : World} {b i : Nat} (h : i < 3) : (Instr.indexAt 127 (.pointer (some ⟨b, 0, none⟩)) (.int .i64 i)).run Try.prog W = .ok (.pointer (some ⟨b, i * 128, none⟩)) W := by
  have h' : (i : Int) < 3 := by omega
  simp [go_sem, h, h']

def cpI (B : List UInt8) (i k : Nat) : List UInt8 := (placeI B i).take (128 * k) ++ List.replicate (384 - 128 * k) 0
theorem cpI_length {B : List UInt8} (h : B.length = 768) {i k : Nat} (hi : i < 2) (hk : k ≤ 3) : (cpI B i k).length = 384 := by
  have := placeI_length h hi
  simp [cpI, this]; omega
theorem cpI_end {B : List UInt8} (h : B.length = 768) {i : Nat} (hi : i < 2) : cpI B i 3 = placeI B i := by
  have := placeI_length h hi
  simp [cpI]; exact List.take_of_length_le (by omega)
set_option maxRecDepth 10000 in
theorem cpI_lay {B : List UInt8} (h : B.length = 768) {i k : Nat} (hi : i < 2) (hk : k < 3) : lay (bv (cpI B i k)) (k * 128) (bv ((B.drop ((i * 3 + k) * 128)).take 128)) = bv (cpI B i (k + 1)) := by
  have hl := placeI_length h hi
  unfold lay
  rw [bv_take, bv_drop, ← bv_append, ← bv_append, bv_length]
  congr 1
  have h1 : (cpI B i k).take (k * 128) = (placeI B i).take (128 * k) := by
    unfold cpI
    rw [List.take_append_of_le_length (by simp [hl]; omega), List.take_take]
    congr 1; omega
  have h2 : (cpI B i k).drop (k * 128 + ((B.drop ((i * 3 + k) * 128)).take 128).length) = List.replicate (384 - 128 * (k + 1)) 0 := by
    unfold cpI
    have : ((B.drop ((i * 3 + k) * 128)).take 128).length = 128 := by simp [h]; omega
    rw [this, List.drop_append, List.drop_eq_nil_of_le (by simp [hl]; omega), List.nil_append, List.drop_replicate]
    congr 1
    simp [hl]; omega
  rw [h1, h2]
  unfold cpI
  congr 1
  have h3 : (placeI B i).take (128 * (k + 1)) = (placeI B i).take (128 * k) ++ ((placeI B i).drop (128 * k)).take 128 := by
    rw [show 128 * (k + 1) = 128 * k + 128 by omega, List.take_add]
  rw [h3]
  congr 1
  unfold placeI
  rw [List.drop_take, List.take_take, List.drop_drop]
  rw [show min 128 (384 - 128 * k) = 128 by omega, show 384 * i + 128 * k = (i * 3 + k) * 128 by omega]
theorem placeA {W : World} {bb off : Nat} {B : List UInt8} {rest : List Value} {T : TypeId} (hB : hp W bb = some (.cells (bv B ++ rest).toArray T (0, 0))) (h : off + 128 ≤ B.length) : At W bb off (bv ((B.drop off).take 128)) := by
  refine ⟨_, _, _, hB, by simp; omega, ?_⟩
  show ((bv B ++ rest).drop off).take _ = _
  rw [List.drop_append_of_le_length (by simp; omega), List.take_append_of_le_length (by simp; omega), bv_drop, bv_take, bv_length]
  congr 2
  simp; omega

theorem readP_ok (p : List UInt8) : (readP p).1 < 18446744073709551616 ∧ (readP p).2.ok := by
  unfold readP
  split
  · exact ⟨by decide, by simp [MarkM.ok, mark0]⟩
  · exact ⟨ofB8_lt _, rawMark_ok p⟩
theorem ru_mark {W : World} {K : World → Prop} {mb : Nat} {m0 mk : MarkM} (hm : hp W mb = some (.cells (markV m0).toArray 59 (0, 0)))
    (hK : ∀ W', Mod (fun b => b = mb) W W' → hp W' mb = some (.cells (markV mk).toArray 59 (0, 0)) → K W') : ru Try.prog (Instr.storeAt 59 (.pointer (some ⟨mb, 0, none⟩)) (.agg (markV mk).toArray)) W K := by
  unfold markV at hm
  simp only [markV] at hK ⊢
  simp [go_sem, hm]
  refine hK _ (((((Mod.refl (fun b => b = mb) W).setCell (.inl rfl) _ _).setCell (.inl rfl) _ _).setCell (.inl rfl) _ _).setCell (.inl rfl) _ _ |>.setCell (.inl rfl) _ _) ?_
  simp [go_sem, hm]
theorem ld_mark {W : World} {mb : Nat} {mk : MarkM} (hm : hp W mb = some (.cells (markV mk).toArray 59 (0, 0))) : (Instr.loadAt 59 (.pointer (some ⟨mb, 0, none⟩))).run Try.prog W = .ok (.agg (markV mk).toArray) W := by
  unfold markV at hm
  simp [go_sem, hm, markV]
theorem vst_n {W : World} {K : World → Prop} {v d : Nat} {file : Int} {m : MarkM} {n at_ n' : Nat} (hV : VoteAt W v d file m n at_)
    (hK : ∀ W', Mod (fun b => b = v) W W' → VoteAt W' v d file m n' at_ → K W') : ru Try.prog (Instr.storeAt 27 (.pointer (some ⟨v, 7, none⟩)) (.int .u64 (n' : Int))) W K := by
  unfold VoteAt dptr at *
  simp [go_sem, hV]
  refine hK _ ((Mod.refl (fun b => b = v) W).setCell (.inl rfl) _ _) ?_
  simp [go_sem, hV]
theorem vst_at {W : World} {K : World → Prop} {v d : Nat} {file : Int} {m : MarkM} {n at_ a' : Nat} (hV : VoteAt W v d file m n at_)
    (hK : ∀ W', Mod (fun b => b = v) W W' → VoteAt W' v d file m n a' → K W') : ru Try.prog (Instr.storeAt 3 (.pointer (some ⟨v, 8, none⟩)) (.int .i64 (a' : Int))) W K := by
  unfold VoteAt dptr at *
  simp [go_sem, hV]
  refine hK _ ((Mod.refl (fun b => b = v) W).setCell (.inl rfl) _ _) ?_
  simp [go_sem, hV]
theorem vst_m {W : World} {K : World → Prop} {v d : Nat} {file : Int} {m mk : MarkM} {n at_ : Nat} (hV : VoteAt W v d file m n at_)
    (hK : ∀ W', Mod (fun b => b = v) W W' → VoteAt W' v d file mk n at_ → K W') : ru Try.prog (Instr.storeAt 59 (.pointer (some ⟨v, 2, none⟩)) (.agg (markV mk).toArray)) W K := by
  unfold VoteAt dptr at *
  simp only [markV]
  simp [go_sem, hV]
  refine hK _ (((((Mod.refl (fun b => b = v) W).setCell (.inl rfl) _ _).setCell (.inl rfl) _ _).setCell (.inl rfl) _ _).setCell (.inl rfl) _ _ |>.setCell (.inl rfl) _ _) ?_
  simp [go_sem, hV]
theorem vld_n {W : World} {v d : Nat} {file : Int} {m : MarkM} {n at_ : Nat} (hV : VoteAt W v d file m n at_) : (Instr.loadAt 27 (.pointer (some ⟨v, 7, none⟩))).run Try.prog W = .ok (.int .u64 (n : Int)) W := by
  unfold VoteAt dptr at *
  simp [go_sem, hV]
theorem vld_at {W : World} {v d : Nat} {file : Int} {m : MarkM} {n at_ : Nat} (hV : VoteAt W v d file m n at_) : (Instr.loadAt 3 (.pointer (some ⟨v, 8, none⟩))).run Try.prog W = .ok (.int .i64 (at_ : Int)) W := by
  unfold VoteAt dptr at *
  simp [go_sem, hV]
theorem vld_d {W : World} {v d : Nat} {file : Int} {m : MarkM} {n at_ : Nat} (hV : VoteAt W v d file m n at_) : (Instr.loadAt 25 (.pointer (some ⟨v, 0, none⟩))).run Try.prog W = .ok (dptr d) W := by
  unfold VoteAt dptr at *
  simp [go_sem, hV, dptr]
theorem vfield {v : Nat} : (∀ W, (Instr.fieldAt 64 (dptr v) 0).run Try.prog W = .ok (.pointer (some ⟨v, 0, none⟩)) W) ∧ (∀ W, (Instr.fieldAt 64 (dptr v) 2).run Try.prog W = .ok (.pointer (some ⟨v, 2, none⟩)) W) ∧
    (∀ W, (Instr.fieldAt 64 (dptr v) 3).run Try.prog W = .ok (.pointer (some ⟨v, 7, none⟩)) W) ∧ (∀ W, (Instr.fieldAt 64 (dptr v) 4).run Try.prog W = .ok (.pointer (some ⟨v, 8, none⟩)) W) := by
  refine ⟨fun W => ?_, fun W => ?_, fun W => ?_, fun W => ?_⟩ <;> simp [go_sem, dptr]

theorem nilK_p {a : Addr} {K : Value → Prop} : nilK (.pointer (some a)) K = K (.pointer (some a)) := rfl
theorem Stp.on {F F' G : Nat → Prop} {w w1 w2 : World} (h : Stp F w w1 F') (h' : Mod G w1 w2) (hG : ∀ b, G b → w.heap.size ≤ b) : Stp F w w2 F' := ⟨h.mod.on h' fun b hb => .inr (hG b hb), h.sub⟩

set_option maxRecDepth 10000 in
theorem ca_vopen {w : World} {K : Kont} {d : Nat} {F : Nat → Prop} {D : DM} {file : Int} (h : DiskR w d F D) (hD : D.waits.length < 137438953472)
    (hK1 : ∀ w' F', (D.vopen file).1 ≠ 0 → DiskR w' d F' (D.vopen file).2.D → Stp F w w' F' → K (.tuple #[.pointer none, .int .i64 (D.vopen file).1]) w')
    (hK2 : ∀ w' F' v, (D.vopen file).1 = 0 → DiskR w' d F' (D.vopen file).2.D → Stp F w w' F' → w.heap.size ≤ v → ¬ F' v → VoteAt w' v d file (D.vopen file).2.m (D.vopen file).2.n (D.vopen file).2.at_ → K (.tuple #[dptr v, .int .i64 0]) w') :
    Ca Try.prog 31 #[dptr d, .int .i64 file] w K := by
  apply ca31
  unfold F31
  refine ca_read h (by omega) (fun ho => ?_) (fun ho hm => ?_) fun ho hm w1 vb own m1 nb => ?_
  · have e : D.vopen file = (180, open0 D) := by simp [DM.vopen, ho]
    rw [e] at hK1
    refine rv_of (v := .slice none 0 0) (w' := w) (by simp [go_sem]) ?_
    refine rv_of (v := .int .i64 180) (w' := w) (by simp [go_sem]) ?_
    refine rv_of (v := .bool true) (w' := w) (by simp [go_sem]) ?_
    rw [ifB_bool, if_pos rfl]
    exact hK1 w F (by simp) h (Stp.refl _ _)
  · have e : D.vopen file = (2, open0 D) := by simp [DM.vopen, ho, hm]
    rw [e] at hK1
    refine rv_of (v := .slice none 0 0) (w' := w) (by simp [go_sem]) ?_
    refine rv_of (v := .int .i64 2) (w' := w) (by simp [go_sem]) ?_
    refine rv_of (v := .bool true) (w' := w) (by simp [go_sem]) ?_
    rw [ifB_bool, if_pos rfl]
    exact hK1 w F (by simp) h (Stp.refl _ _)
  refine rv_of (v := vb) (w' := w1) (by simp [go_sem]) ?_
  refine rv_of (v := .int .i64 0) (w' := w1) (by simp [go_sem]) ?_
  refine rv_of (v := .bool false) (w' := w1) (by simp [go_sem]) ?_
  rw [ifB_bool, if_neg (by simp)]
  have e6 : Int.toNat 6 = 6 := rfl
  rw [e6] at own
  have e : D.vopen file = vlast (vgo file (D.readB file 0 6) [0, 1] (open0 D)) := by simp [DM.vopen, ho, hm]
  rw [e] at hK1 hK2
  clear e
  generalize D.readB file 0 6 = B at own hK1 hK2
  obtain ⟨hBl, ⟨-, hB0⟩ | ⟨bb, cap, rest, rfl, hcap, hBh, -, -⟩⟩ := own
  · omega
  have hBl : B.length = 768 := by simpa using hBl
  have nbb : w.heap.size ≤ bb := nb bb rfl
  refine rv_of (v := .agg #[.int .u64 0, .int .i8 (-1), .int .u8 0, .int .u64 0, .int .u64 0]) (w' := w1) (by simp [go_sem]) ?_
  refine rv_of (v := .agg #[dptr d, .int .i64 file, .int .u64 0, .int .i8 (-1), .int .u8 0, .int .u64 0, .int .u64 0, .int .u64 0, .int .i64 1]) (w' := w1) (by simp [go_sem, dptr]) ?_
  refine rv_box ?_
  have hv : VoteAt (w1.alloc (.cells #[dptr d, .int .i64 file, .int .u64 0, .int .i8 (-1), .int .u8 0, .int .u64 0, .int .u64 0, .int .u64 0, .int .i64 1] 64)) w1.heap.size d file (open0 D).m (open0 D).n (open0 D).at_ := by
    simp only [VoteAt, hp_alloc, if_pos]
    rfl
  have m2 : Mod (fun _ => False) w (w1.alloc (.cells #[dptr d, .int .i64 file, .int .u64 0, .int .i8 (-1), .int .u8 0, .int .u64 0, .int .u64 0, .int .u64 0, .int .i64 1] 64)) := m1.alloc _
  have hBh2 : hp (w1.alloc (.cells #[dptr d, .int .i64 file, .int .u64 0, .int .i8 (-1), .int .u8 0, .int .u64 0, .int .u64 0, .int .u64 0, .int .i64 1] 64)) bb = _ := ((Mod.refl (fun _ => False) w1).alloc _).keep hBh id
  have hvb : bb < w1.heap.size := lt_of_heap hBh
  generalize (w1.alloc (.cells #[dptr d, .int .i64 file, .int .u64 0, .int .i8 (-1), .int .u8 0, .int .u64 0, .int .u64 0, .int .u64 0, .int .i64 1] 64)) = W0 at hv m2 hBh2
  have lv : w.heap.size ≤ w1.heap.size := m1.size
  obtain ⟨v, hvq⟩ : ∃ v, w1.heap.size = v := ⟨_, rfl⟩
  rw [hvq] at hv hvb lv ⊢
  unfold L31_3
  refine loopK (fun s W => ∃ (i : Nat) (x y : Value) (Os : OpenS) (F' : Nat → Prop), i ≤ 2 ∧ s = (x, y, .bool Os.cl, .int .i64 i, ()) ∧ DiskR W d F' Os.D ∧ Stp F w W F' ∧ vgo file B [0, 1] (open0 D) = vgo file B ([0, 1].drop i) Os ∧ Os.D.waits.length ≤ D.waits.length + 384 * i ∧ ¬ F' v ∧ ¬ F' bb ∧
      hp W bb = some (.cells (bv B ++ rest).toArray 5 (0, 0)) ∧ VoteAt W v d file Os.m Os.n Os.at_ ∧ Os.n < 18446744073709551616)
    (fun s _ => match s.2.2.2.1 with | .int _ i => 2 - i.toNat | _ => 0) ⟨0, _, _, open0 D, F, by omega, rfl, h.mod m2 fun _ _ h => h, ⟨m2.mono fun _ _ h => h.elim, fun b hb => .inl hb⟩, rfl, Nat.le_refl _, fun hb => by have := h.lt hb; omega, fun hb => by have := h.lt hb; omega, hBh2, hv, by simp [open0]⟩ ?_
  rintro ⟨_, _⟩ W ⟨i, x, y, Os, F', hi, ⟨⟩, dW, sW, eW, lW, vF, bF, hB, hV, hn⟩ KN hKN _
  have hw1 : IntKind.i64.wrap ((i : Int) + 1) = ((i + 1 : Nat) : Int) := by rw [IntKind.wrap_i64]; omega
  by_cases hlt : i < 2
  · have hlt' : (i : Int) < 2 := by omega
    refine rv_of (v := .bool true) (w' := W) (by simp [go_sem, hlt']) ?_
    rw [ifB_bool, if_pos rfl]
    refine rx_bigA plT3 ?_
    rw [plT4]
    have mA : Mod (fun _ => False) W (W.alloc (.cells (bv (List.replicate 384 0)).toArray 127)) := (Mod.refl _ W).alloc _
    have hA : hp (W.alloc (.cells (bv (List.replicate 384 0)).toArray 127)) W.heap.size = some (.cells (bv (List.replicate 384 0)).toArray 127 (0, 0)) := by simp only [hp_alloc, if_pos]
    generalize (W.alloc (.cells (bv (List.replicate 384 0)).toArray 127)) = W1 at mA hA
    obtain ⟨q, hq⟩ : ∃ q, W.heap.size = q := ⟨_, rfl⟩
    rw [hq] at hA ⊢
    unfold L31_1
    refine loopK (fun s W' => ∃ k : Nat, k ≤ 3 ∧ s = (.int .i64 k, ()) ∧ Mod (fun _ => False) W W' ∧ hp W' q = some (.cells (bv (cpI B i k)).toArray 127 (0, 0)))
      (fun s _ => match s.1 with | .int _ i => 3 - i.toNat | _ => 0) ⟨0, by omega, rfl, mA, hA⟩ ?_
    rintro ⟨_, _⟩ W2 ⟨k, hk, ⟨⟩, m2', hQ⟩ KN2 hKN2 _
    have hw1k : IntKind.i64.wrap ((k : Int) + 1) = ((k + 1 : Nat) : Int) := by rw [IntKind.wrap_i64]; omega
    by_cases hk3 : k < 3
    · have hk3' : (k : Int) < 3 := by omega
      refine rv_of (v := .bool true) (w' := W2) (by simp [go_sem, hk3']) ?_
      rw [ifB_bool, if_pos rfl]
      have hwa : IntKind.i64.wrap ((i : Int) * 3) = ((i * 3 : Nat) : Int) := by rw [IntKind.wrap_i64]; omega
      have hwb : IntKind.i64.wrap (((i * 3 : Nat) : Int) + (k : Int)) = ((i * 3 + k : Nat) : Int) := by rw [IntKind.wrap_i64]; omega
      have hwc : IntKind.i64.wrap (((i * 3 + k : Nat) : Int) * 128) = (((i * 3 + k) * 128 : Nat) : Int) := by rw [IntKind.wrap_i64]; omega
      refine rv_of (v := .int .i64 ((i * 3 : Nat) : Int)) (w' := W2) (by simp [-Int.natCast_add, -Int.natCast_mul, go_sem, hwa]) ?_
      refine rv_of (v := .int .i64 ((i * 3 + k : Nat) : Int)) (w' := W2) (by simp [-Int.natCast_add, -Int.natCast_mul, go_sem, hwb]) ?_
      refine rv_of (v := .int .i64 (((i * 3 + k) * 128 : Nat) : Int)) (w' := W2) (by simp [-Int.natCast_add, -Int.natCast_mul, go_sem, hwc]) ?_
      refine rv_of (sliceFrom_run (by omega) hcap (by omega)) ?_
      refine rv_of (arrayAt_run (by omega)) ?_
      refine rx_bigS _ 127 secT1 secT2 (by simp; omega) (placeA (m2'.keep hB id) (by omega)) ?_
      refine rv_of (indexPl_run hk3) ?_
      refine rux_bigU (n := 127) secT2 (by simp; omega) hQ (by simp [cpI_length hBl hlt hk]; omega) (bv_one _) ?_
      rw [show (bv (cpI B i k)).toArray.toList = bv (cpI B i k) from rfl, cpI_lay hBl hlt hk3]
      have m3 : Mod (fun _ => False) W (W2.setRow q (bv (cpI B i (k + 1))).toArray) := m2'.setRow (.inr (by omega)) _
      have hQ3 : hp (W2.setRow q (bv (cpI B i (k + 1))).toArray) q = some (.cells (bv (cpI B i (k + 1))).toArray 127 (0, 0)) := by
        have hQ' : W2.heap[q]? = _ := hQ
        show (W2.setRow q (bv (cpI B i (k + 1))).toArray).heap[q]? = _
        rw [heap_setRow, if_pos rfl, hQ']
      refine rv_of (v := .int .i64 ((k + 1 : Nat) : Int)) (w' := W2.setRow q (bv (cpI B i (k + 1))).toArray) (by simp [-Int.natCast_add, go_sem, hw1k]) ?_
      exact hKN2 _ _ ⟨k + 1, hk3, rfl, m3, hQ3⟩ (by simp; omega)
    have : k = 3 := by omega
    subst this
    refine rv_of (v := .bool false) (w' := W2) (by simp [go_sem]) ?_
    rw [ifB_bool, if_neg (by simp)]
    clear hKN2 KN2
    rw [cpI_end hBl hlt] at hQ
    have hpl := placeI_length hBl hlt
    refine rx_bigS (bv (placeI B i)) 383 plT1 plT2 (by simp [hpl]) (At.whole hQ) ?_
    refine ca_vread hpl fun W3 m3 => ?_
    have m23 := m2'.trans m3
    have hQ := m3.keep hQ id
    have hV3 := (m23.keep hV id)
    have dW3 := dW.mod m23 fun _ _ h => h
    have sW3 : Stp F w W3 F' := sW.trans ⟨m23.mono fun _ _ h => h.elim, fun b hb => .inl hb⟩
    have hB3 := m23.keep hB id
    have mok := readP_ok (placeI B i)
    have hst : vgo file B ([0, 1].drop i) Os = if (vround file B i Os).1 = 0 then vgo file B ([0, 1].drop (i + 1)) (vround file B i Os).2 else vround file B i Os := by
      have : i = 0 ∨ i = 1 := by omega
      rcases this with rfl | rfl <;> rfl
    rw [hst] at eW
    unfold vround at eW
    generalize readP (placeI B i) = rp at eW mok ⊢
    obtain ⟨num, mk⟩ := rp
    refine rv_of (v := .int .u64 (num : Int)) (w' := W3) (by simp [go_sem]) ?_
    refine rv_of (v := .agg (markV mk).toArray) (w' := W3) (by simp [go_sem]) ?_
    have hal : ∀ W, (Instr.alloc 59 true (.tuple #[])).run Try.prog W = .ok (.pointer (some ⟨W.heap.size, 0, none⟩)) (W.alloc (.cells (markV mark0).toArray 59)) := fun W => by simp [go_sem, markV, mark0]
    refine rv_of (hal W3) ?_
    have mC : Mod (fun _ => False) W3 (W3.alloc (.cells (markV mark0).toArray 59)) := (Mod.refl _ W3).alloc _
    have hC : hp (W3.alloc (.cells (markV mark0).toArray 59)) W3.heap.size = some (.cells (markV mark0).toArray 59 (0, 0)) := by simp only [hp_alloc, if_pos]
    generalize (W3.alloc (.cells (markV mark0).toArray 59)) = W4 at mC hC
    obtain ⟨mb, hmb⟩ : ∃ mb, W3.heap.size = mb := ⟨_, rfl⟩
    rw [hmb] at hC ⊢
    have m34 := m23.trans mC
    have hV4 := mC.keep hV3 id
    have dW4 := dW3.mod mC fun _ _ h => h
    have sW4 : Stp F w W4 F' := sW3.trans ⟨mC.mono fun _ _ h => h.elim, fun b hb => .inl hb⟩
    have hB4 := mC.keep hB3 id
    have hQ4 := mC.keep hQ id
    have vmb : v < mb := by have := lt_of_heap hV3; omega
    have bmb : bb < mb := by have := lt_of_heap hB3; omega
    have qmb : q < mb := by have := lt_of_heap hQ; omega
    have fmb : ∀ b, F' b → b < mb := fun b hb => by have := dW3.lt hb; omega
    clear mC hV3 dW3 sW3 hB3 hQ
    refine ru_mark hC fun W5 m5 hC5 => ?_
    have k5 : ∀ b, b < mb → ¬ b = mb := fun b h e => by omega
    have hV5 := m5.keep hV4 (k5 _ vmb)
    have dW5 := dW4.mod m5 fun b hb => k5 b (fmb b hb)
    have hB5 := m5.keep hB4 (k5 _ bmb)
    have hQ5 := m5.keep hQ4 (k5 q qmb)
    have wmb : w.heap.size ≤ mb := by have := sW.mod.size; have := m23.size; omega
    have sW5 : Stp F w W5 F' := sW4.on m5 fun b hb => hb ▸ wmb
    have vmb5 : v < mb := vmb
    clear m5 hC hV4 dW4 sW4 hB4 hQ4
    rw [nilK_p]
    refine rv_of (vfield.2.2.1 _) ?_
    refine rv_of (vld_n hV5) ?_
    refine rv_of (v := .bool (decide (Os.n < num))) (w' := W5) (by simp [go_sem]) ?_
    by_cases hgt : num > Os.n
    · rw [if_pos hgt] at eW
      rw [ifB_bool, if_pos (by simpa using hgt)]
      have hC6 : hp W5.drew mb = some (.cells (markV mk).toArray 59 (0, 0)) := hC5
      refine rdW_of (ld_mark hC6) ?_
      rw [nilK_p]
      refine rdP_of vfield.2.2.1 ?_
      refine vst_n (W := W5.drew) hV5 fun W6 m6 hV6 => ?_
      refine ⟨ld_mark (m6.keep hC6 fun e => by omega), ?_⟩
      rw [nilK_p]
      refine rdP_of vfield.2.1 ?_
      refine vst_m hV6 fun W7 m7 hV7 => ?_
      rw [nilK_p]
      refine rdP_of vfield.2.2.2 ?_
      refine vst_at hV7 fun W8 m8 hV8 => ?_
      refine rv_of (v := .int .i64 ((i + 1 : Nat) : Int)) (w' := W8) (by simp [-Int.natCast_add, go_sem, hw1]) ?_
      have m58 : Mod (fun b => b = v) W5 W8 := (((Mod.refl (fun b => b = v) W5).drew.trans m6).trans m7).trans m8
      exact hKN _ _ ⟨i + 1, _, _, { Os with m := mk, n := num, at_ := i }, F', hlt, rfl, dW5.mod m58 fun b hb e => vF (e ▸ hb), sW5.on m58 fun b hb => hb ▸ lv, eW, by show Os.D.waits.length ≤ _; omega, vF, bF, m58.keep hB5 (fun e => by omega), hV8, mok.1⟩ (by simp; omega)
    · rw [if_neg hgt] at eW
      rw [ifB_bool, if_neg (by simpa using hgt)]
      refine joinK (fun s W' => s = (.bool (decide (num = 0 ∧ placeI B i ≠ z384)), ()) ∧ W' = W5) (fun JJ hJJ => ?_) ?_
      · refine rv_of (v := .bool (decide (num = 0))) (w' := W5) ?_ ?_
        · simp [go_sem]
          rw [Bool.eq_iff_iff]
          simp
        · by_cases h0 : num = 0
          · rw [ifB_bool, if_pos (by simpa using h0)]
            refine rx_bigS (bv (placeI B i)) 383 plT1 plT2 (by simp [hpl]) (At.whole hQ5) ?_
            refine rx_bigB plT5 ?_
            refine rv_of (neq_place hpl (by simp) _) ?_
            exact hJJ _ _ ⟨by simp [h0, z384], rfl⟩
          · rw [ifB_bool, if_neg (by simpa using h0)]
            exact hJJ _ _ ⟨by simp [h0], rfl⟩
      rintro _ W6 ⟨rfl, rfl⟩
      unfold J31_0
      intro _
      by_cases hcl : num = 0 ∧ placeI B i ≠ z384
      · rw [if_pos hcl] at eW
        rw [ifB_bool, if_pos (by simpa using hcl)]
        refine rx_bigS (bv (placeI B i)) 383 plT1 plT2 (by simp [hpl]) (At.whole hQ5) ?_
        refine ca_vclean hV5 vF dW5 (by omega) hpl (by omega) fun W7 F7 d7 s7 => ?_
        have hl := writes_len file _ Os.D (cleanFrom_len i (placeI B i) 0).2
        have hl2 := (cleanFrom_len i (placeI B i) 0).1
        generalize Os.D.writes file (cleanFrom i (placeI B i) 0) = WR at eW d7 hl ⊢
        have hno : ∀ b, b < W6.heap.size → ¬ F' b → ¬ F7 b := fun b hb hf h => by
          rcases s7.sub b h with h | h
          · exact hf h
          · omega
        by_cases he : WR.1 = 0
        · rw [if_pos he] at eW
          refine rv_of (v := .bool false) (w' := W7) (by simp [go_sem, he]) ?_
          rw [ifB_bool, if_neg (by simp)]
          refine rv_of (v := .int .i64 ((i + 1 : Nat) : Int)) (w' := W7) (by simp [-Int.natCast_add, go_sem, hw1]) ?_
          exact hKN _ _ ⟨i + 1, _, _, { Os with D := WR.2, cl := true }, F7, hlt, rfl, d7, sW5.trans s7, eW, by show WR.2.waits.length ≤ _; omega, hno v (lt_of_heap hV5) vF, hno bb (lt_of_heap hB5) bF, s7.mod.keep hB5 bF, s7.mod.keep hV5 vF, hn⟩ (by simp; omega)
        · rw [if_neg he] at eW
          rw [eW] at hK1
          refine rv_of (v := .bool true) (w' := W7) (by simp [go_sem, he]) ?_
          rw [ifB_bool, if_pos rfl]
          have e : vlast (WR.1, ({ Os with D := WR.2, cl := true } : OpenS)) = (WR.1, { Os with D := WR.2, cl := true }) := by simp [vlast, he]
          rw [e] at hK1
          exact hK1 _ _ he d7 (sW5.trans s7)
      · rw [if_neg hcl] at eW
        rw [ifB_bool, if_neg (by simpa using hcl)]
        refine rv_of (v := .int .i64 ((i + 1 : Nat) : Int)) (w' := W6) (by simp [-Int.natCast_add, go_sem, hw1]) ?_
        exact hKN _ _ ⟨i + 1, _, _, Os, F', hlt, rfl, dW5, sW5, eW, by omega, vF, bF, hB5, hV5, hn⟩ (by simp; omega)
  · have : i = 2 := by omega
    subst this
    refine rv_of (v := .bool false) (w' := W) (by simp [go_sem]) ?_
    rw [ifB_bool, if_neg (by simp)]
    have eW' : vgo file B [0, 1] (open0 D) = (0, Os) := eW
    rw [eW'] at hK1 hK2
    refine joinK (fun s W' => ∃ F'', DiskR W' d F'' (vlast (0, Os)).2.D ∧ (vlast (0, Os)).1 = 0 ∧ Stp F w W' F'' ∧ ¬ F'' v ∧ VoteAt W' v d file (vlast (0, Os)).2.m (vlast (0, Os)).2.n (vlast (0, Os)).2.at_) (fun JJ hJJ => ?_) ?_
    · cases hc : Os.cl
      · have e : vlast (0, Os) = (0, Os) := by simp [vlast, hc]
        rw [ifB_bool, if_neg (by simp)]
        rw [e] at hJJ
        exact hJJ _ _ ⟨F', dW, rfl, sW, vF, hV⟩
      · have e : vlast (0, Os) = (Os.D.sync.1, { Os with D := Os.D.sync.2 }) := by simp [vlast, hc]
        rw [ifB_bool, if_pos rfl]
        rw [e] at hJJ hK1
        refine ca_sync dW (by omega) fun W2 F2 d2 s2 => ?_
        by_cases he : Os.D.sync.1 = 0
        · refine rv_of (v := .bool false) (w' := W2) (by simp [go_sem, he]) ?_
          rw [ifB_bool, if_neg (by simp)]
          refine hJJ _ _ ⟨F2, d2, he, sW.trans s2, fun hb => ?_, s2.mod.keep hV vF⟩
          rcases s2.sub v hb with h | h
          · exact vF h
          · have := lt_of_heap hV; omega
        · refine rv_of (v := .bool true) (w' := W2) (by simp [go_sem, he]) ?_
          rw [ifB_bool, if_pos rfl]
          exact hK1 _ _ he d2 (sW.trans s2)
    rintro _ W2 ⟨F2, d2, he, s2, vF2, hV2⟩
    unfold J31_2
    intro _
    exact hK2 _ _ v he d2 s2 lv vF2 hV2
end Go.Proofs
