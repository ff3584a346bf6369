/-
  The contracts of vote.may, none, Mark, Number and written.
  Conditions: the memory holds the vote.
-/
import Derived.Test.YteldcaeicgobfaaCrc1
set_option linter.unusedSimpArgs false
set_option linter.unusedVariables false
namespace Go.Proofs
open Go Go.Vc

def markV (m : MarkM) : List Value := [.int .u64 (m.term : Int), .int .i8 m.for_, .int .u8 (m.file.toNat : Int), .int .u64 (m.base : Int), .int .u64 (m.bt : Int)]
theorem ca_vmay {w : World} {K : Kont} {m : MarkM} (hK : ∀ w', Mod (fun _ => False) w w' → K (.bool m.may) w') : Ca Try.prog 67 #[.agg (markV m).toArray] w K := by
  apply ca67
  unfold F67 markV
  simp [go_sem]
  generalize hW : w.alloc _ = W
  have mW : Mod (fun _ => False) w W := by subst hW; exact (Mod.refl _ w).alloc _
  have := hK W mW
  unfold MarkM.may at this
  have e : ((m.file.toNat : Int) ≤ 1) = (m.file.toNat ≤ 1) := by apply propext; omega
  by_cases h1 : -1 ≤ m.for_
  · by_cases h2 : m.for_ ≤ 6
    · simpa [h1, h2, e] using this
    · simpa [h1, h2] using this
  · simpa [h1] using this

/-- A vote at block v. -/
def VoteAt (w : World) (v d : Nat) (file : Int) (m : MarkM) (n : Nat) (at_ : Nat) : Prop :=
  hp w v = some (.cells #[dptr d, .int .i64 file, .int .u64 (m.term : Int), .int .i8 m.for_, .int .u8 (m.file.toNat : Int), .int .u64 (m.base : Int), .int .u64 (m.bt : Int), .int .u64 (n : Int), .int .i64 (at_ : Int)] 64 (0, 0))
theorem ca_vnone {w : World} {K : Kont} {v d : Nat} {file : Int} {m : MarkM} {n at_ : Nat} (h : VoteAt w v d file m n at_) (hK : K (.bool false) w) : Ca Try.prog 66 #[dptr v] w K := by
  apply ca66
  unfold F66
  unfold VoteAt dptr at h
  simp [go_sem, dptr, h]
  exact hK
theorem ca_mark {w : World} {K : Kont} {v d : Nat} {file : Int} {m : MarkM} {n at_ : Nat} (h : VoteAt w v d file m n at_) (hK : ∀ w', Mod (fun _ => False) w w' → K (.agg (markV m).toArray) w') : Ca Try.prog 33 #[dptr v] w K := by
  apply ca33
  unfold F33
  simp [go_sem]
  generalize hW : w.alloc _ = W
  have mW : Mod (fun _ => False) w W := by subst hW; exact (Mod.refl _ w).alloc _
  have hr : hp W w.heap.size = some (.cells #[.int .u64 0, .int .i8 0, .int .u8 0, .int .u64 0, .int .u64 0] 59 (0, 0)) := by subst hW; simp [go_sem]
  clear hW
  have hv : VoteAt W v d file m n at_ := mW.keep h id
  refine ca_vnone hv ?_
  unfold VoteAt dptr at hv
  have hvl : v < w.heap.size := lt_of_heap h
  simp [go_sem, dptr, hv, hr, olds hvl]
  have := hK (((((W.setCell ⟨w.heap.size, 0, none⟩ (.int .u64 m.term)).setCell ⟨w.heap.size, 1, none⟩ (.int .i8 m.for_)).setCell ⟨w.heap.size, 2, none⟩ (.int .u8 m.file.toNat)).setCell ⟨w.heap.size, 3, none⟩ (.int .u64 m.base)).setCell ⟨w.heap.size, 4, none⟩ (.int .u64 m.bt))
    (((((mW.setCell (.inr (Nat.le_refl _)) _ _).setCell (.inr (Nat.le_refl _)) _ _).setCell (.inr (Nat.le_refl _)) _ _).setCell (.inr (Nat.le_refl _)) _ _).setCell (.inr (Nat.le_refl _)) _ _)
  exact this
theorem ca_number {w : World} {K : Kont} {v d : Nat} {file : Int} {m : MarkM} {n at_ : Nat} (h : VoteAt w v d file m n at_) (hK : K (.int .u64 (n : Int)) w) : Ca Try.prog 34 #[dptr v] w K := by
  apply ca34
  unfold F34
  refine ca_vnone h ?_
  unfold VoteAt dptr at h
  simp [go_sem, dptr, h]
  exact hK

def body39 (k n : Nat) (m : MarkM) : List UInt8 := UInt8.ofNat (k + 1) :: (hdr n m ++ be 4 (crcOf (hdr n m)))
theorem body39_length (k n : Nat) (m : MarkM) : (body39 k n m).length = 39 := by simp [body39, hdr_length, be_length]
def secW (k n : Nat) (m : MarkM) : List UInt8 := body39 k n m ++ List.replicate 89 0
theorem secW_length (k n : Nat) (m : MarkM) : (secW k n m).length = 128 := by simp [secW, body39_length]
def wrN (n : Nat) (m : MarkM) (i : Nat) : List UInt8 := (List.range i).flatMap fun k => secW k n m
theorem wrN_length (n : Nat) (m : MarkM) : ∀ i, (wrN n m i).length = 128 * i
  | 0 => rfl
  | i + 1 => by
    have := wrN_length n m i
    simp only [wrN, List.range_succ, List.flatMap_append, List.length_append] at *
    rw [this]
    simp [secW_length]
    omega
/-- What is written of a mark. -/
def wr (n : Nat) (m : MarkM) : List UInt8 := wrN n m 3
def wrS (n : Nat) (m : MarkM) (i : Nat) : List UInt8 := wrN n m i ++ List.replicate (384 - 128 * i) 0
theorem wrS_length (n : Nat) (m : MarkM) (i : Nat) (h : i ≤ 3) : (wrS n m i).length = 384 := by
  simp [wrS, wrN_length]; omega
theorem wrS_lay (n : Nat) (m : MarkM) (i : Nat) (h : i < 3) : lay (bv (wrS n m i)) (i * 128) (bv (body39 i n m)) = bv (wrS n m (i + 1)) := by
  unfold lay
  rw [bv_take, bv_drop, ← bv_append, ← bv_append, bv_length, body39_length]
  congr 1
  have h1 : (wrS n m i).take (i * 128) = wrN n m i := by
    unfold wrS
    rw [List.take_append_of_le_length (by rw [wrN_length]; omega), List.take_of_length_le (by rw [wrN_length]; omega)]
  have h2 : (wrS n m i).drop (i * 128 + 39) = List.replicate 89 0 ++ List.replicate (384 - 128 * (i + 1)) 0 := by
    unfold wrS
    rw [List.drop_append, List.drop_eq_nil_of_le (by rw [wrN_length]; omega), List.nil_append, List.drop_replicate, wrN_length, List.replicate_append_replicate]
    have e : 384 - 128 * i - (i * 128 + 39 - 128 * i) = 89 + (384 - 128 * (i + 1)) := by omega
    rw [e]
  rw [h1, h2]
  simp [wrS, wrN, List.range_succ, secW, List.append_assoc]
theorem plT1 : isAggT Try.prog 127 = true := by kernel_rfl
theorem plT2 : Try.prog.cellsOf 127 = 383 + 1 := by kernel_rfl
theorem plT3 : hasZero Try.prog 127 = true := by kernel_rfl
theorem plT4 : zeroC Try.prog 127 = bv (List.replicate 384 0) := by kernel_rfl
theorem forB_eq (x : Int) (h1 : -128 ≤ x) (h2 : x < 128) : IntKind.u8.wrap (IntKind.i8.wrap (x + 1)) = ((forB x).toNat : Int) := by
  have e : IntKind.i8.wrap (x + 1) = (x + 1 + 128) % 256 - 128 := by simp [IntKind.wrap, IntKind.bits, IntKind.signed, IntKind.min, IntKind.max]; try omega
  rw [IntKind.wrap_u8, e]
  unfold forB
  simp
  omega

/-- A row that is filled in place: what has been laid so far. -/
structure Row (W : World) (p : Nat) (T : TypeId) (C0 : List Value) (off : Nat) (pre : List UInt8) : Prop where
  at_ : W.heap[p]? = some (.cells (lay C0 off (bv pre)).toArray T (0, 0))
theorem Row.next {W' : World} {p : Nat} {T : TypeId} {C0 : List Value} {off : Nat} {pre more : List UInt8} (h : off + pre.length + more.length ≤ C0.length)
    (hW : W'.heap[p]? = some (.cells (lay (lay C0 off (bv pre)).toArray.toList (off + pre.length) (bv more)).toArray T (0, 0))) : Row W' p T C0 off (pre ++ more) := by
  refine ⟨?_⟩
  rw [hW]
  have := lay_lay (C := C0) (xs := bv pre) (ys := bv more) (o := off) (by simpa using h)
  rw [bv_length, ← bv_append] at this
  rw [show (lay C0 off (bv pre)).toArray.toList = lay C0 off (bv pre) from rfl, this]
theorem Row.size {C0 : List Value} {off : Nat} {pre : List UInt8} (h : off + pre.length ≤ C0.length) : (lay C0 off (bv pre)).toArray.size = C0.length := by
  rw [List.size_toArray, lay_length (by simpa using h)]
theorem Row.mod {W W' : World} {p : Nat} {T : TypeId} {C0 : List Value} {off : Nat} {pre : List UInt8} (h : Row W p T C0 off pre) (hm : Mod (fun _ => False) W W') : Row W' p T C0 off pre := ⟨hm.keep h.at_ id⟩

/-- Some bytes are appended in place. -/
theorem row_append {W : World} {K : Kont} {p : Nat} {T : TypeId} {C0 : List Value} {off cap ty : Nat} {pre : List UInt8} {x : Value} {more : List UInt8} (h : Row W p T C0 off pre) (hx : Rd W 1 x more.length (bv more)) (hf : off + pre.length + more.length ≤ C0.length) (hc : pre.length + more.length ≤ cap)
    (hK : ∀ W' pre', pre' = pre ++ more → pre'.length = pre.length + more.length → Row W' p T C0 off pre' → Mod (fun b => b = p) W W' → K (.slice (some ⟨p, off, none⟩) pre'.length cap) W') :
    rx Try.prog (xAppend #[23, 23] ty [.slice (some ⟨p, off, none⟩) pre.length cap, x]) W K := by
  refine rx_appendIn Try.underlying23 Try.underlying23 cu8 h.at_ hc hx (bv_one _) (by rw [Row.size (by omega)]; exact hf) ?_
  rw [← List.length_append]
  refine hK _ _ rfl (by simp) (Row.next hf ?_) ((Mod.refl (fun b => b = p) W).setRow (b := p) (.inl rfl) _)
  rw [heap_setRow, if_pos rfl, h.at_]
theorem row_append64 {W : World} {K : Kont} {p : Nat} {T : TypeId} {C0 : List Value} {off cap x : Nat} {pre : List UInt8} (h : Row W p T C0 off pre) (hx : x < 18446744073709551616) (hf : off + pre.length + 8 ≤ C0.length) (hc : pre.length + 8 ≤ cap)
    (hK : ∀ W' pre', pre' = pre ++ be 8 x → pre'.length = pre.length + 8 → Row W' p T C0 off pre' → Mod (fun b => b = p) W W' → K (.slice (some ⟨p, off, none⟩) pre'.length cap) W') :
    Ca Try.prog 85 #[.slice (some ⟨p, off, none⟩) pre.length cap, .int .u64 x] W K := by
  refine ca_append64 h.at_ hc (by rw [Row.size (by omega)]; exact hf) hx fun W' hW' mW' => ?_
  have e : (pre ++ be 8 x).length = pre.length + 8 := by simp [be_length]
  rw [← e]
  exact hK _ _ rfl e (Row.next (by rw [be_length]; exact hf) hW') mW'
theorem row_append32 {W : World} {K : Kont} {p : Nat} {T : TypeId} {C0 : List Value} {off cap x : Nat} {pre : List UInt8} (h : Row W p T C0 off pre) (hx : x < 4294967296) (hf : off + pre.length + 4 ≤ C0.length) (hc : pre.length + 4 ≤ cap)
    (hK : ∀ W' pre', pre' = pre ++ be 4 x → pre'.length = pre.length + 4 → Row W' p T C0 off pre' → Mod (fun b => b = p) W W' → K (.slice (some ⟨p, off, none⟩) pre'.length cap) W') :
    Ca Try.prog 86 #[.slice (some ⟨p, off, none⟩) pre.length cap, .int .u32 x] W K := by
  refine ca_append32 h.at_ hc (by rw [Row.size (by omega)]; exact hf) hx fun W' hW' mW' => ?_
  have e : (pre ++ be 4 x).length = pre.length + 4 := by simp [be_length]
  rw [← e]
  exact hK _ _ rfl e (Row.next (by rw [be_length]; exact hf) hW') mW'
end Go.Proofs
