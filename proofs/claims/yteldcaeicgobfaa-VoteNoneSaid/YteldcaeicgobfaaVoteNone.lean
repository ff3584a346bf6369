/-
  The statement VoteNone: for every input the law VoteNone returns true, and its arguments read as they did.
  Conditions: none.
-/
import Derived.Test.YteldcaeicgobfaaRows
import Derived.Test.YteldcaeicgobfaaVcOpen
import Derived.Test.YteldcaeicgobfaaVote11
import Derived.WalkKit
import Derived.ProofKit
import Derived.OpenShut
set_option linter.unusedSimpArgs false
set_option linter.unusedVariables false
namespace Go.Proofs.Yteldcaeicgobfaa.voteNone
open Go Go.Vc Go.Proofs Go.ChangeShapes Go.WideShapes Go.ChangeAt Go.RowKit

theorem own : ownKnob Try.prog.godebug = none := by kernel_rfl
theorem laidOut : laidOutB Try.prog = true := by kernel_rfl

theorem markU : Try.prog.underlying 59 = some (.struct #[{ name := "Term", type := 27, offset := 0, embedded := false, tag := "", pkgPath := "", byteOffset := 0 }, { name := "For", type := 57, offset := 1, embedded := false, tag := "", pkgPath := "", byteOffset := 8 },
    { name := "File", type := 5, offset := 2, embedded := false, tag := "", pkgPath := "", byteOffset := 9 }, { name := "Base", type := 27, offset := 3, embedded := false, tag := "", pkgPath := "", byteOffset := 16 }, { name := "BaseTerm", type := 27, offset := 4, embedded := false, tag := "", pkgPath := "", byteOffset := 24 }]) := by kernel_rfl
theorem five {c : List Value} (h : c.length = 5) : ∃ c0 c1 c2 c3 c4, c = [c0, c1, c2, c3, c4] := by
  match c, h with
  | [a, b, c, d, e], _ => exact ⟨a, b, c, d, e, rfl⟩
theorem wf_u64 {n : Int} (h : (Lit.int .u64 n).wf = true) : ∃ k : Nat, n = (k : Int) ∧ k < 18446744073709551616 := by
  simp [Lit.wf, IntKind.min, IntKind.max, IntKind.signed, IntKind.bits] at h
  exact ⟨n.toNat, by omega, by omega⟩
theorem wf_u8 {n : Int} (h : (Lit.int .u8 n).wf = true) : ∃ k : UInt8, n = (k.toNat : Int) := by
  simp [Lit.wf, IntKind.min, IntKind.max, IntKind.signed, IntKind.bits] at h
  exact ⟨UInt8.ofNat n.toNat, by simp; omega⟩
theorem wf_i8 {n : Int} (h : (Lit.int .i8 n).wf = true) : -128 ≤ n ∧ n < 128 := by
  simp [Lit.wf, IntKind.min, IntKind.max, IntKind.signed, IntKind.bits] at h
  omega
theorem wt_some {H : Type} (P : Program) (t : TypeId) (d : DataW H) : ∃ B, Wt P B t d := by
  have : ∀ l : List Nat, ∃ B, ∀ m ∈ l, m ≤ B := by
    intro l
    induction l with
    | nil => exact ⟨0, by simp⟩
    | cons a l ih =>
      obtain ⟨B, hB⟩ := ih
      refine ⟨a + B, fun m hm => ?_⟩
      rcases List.mem_cons.1 hm with rfl | hm
      · omega
      · have := hB m hm; omega
  exact this _

set_option maxRecDepth 100000 in
theorem open_mark {H : Type} {enc : TypeId × Value → H} {w : World} {c : List Value} {f : Nat} {y : DataW H × List MemPlace} (hl : c.length = 5) (h : DataW.trod enc Try.prog w 0 (fun _ => true) true f 59 c = some y) :
    ∃ m, c = markV m ∧ m.ok := by
  obtain ⟨B, hB⟩ := wt_some Try.prog 59 y.1
  have hf := rd_fields markU h hB
  obtain ⟨c0, c1, c2, c3, c4, rfl⟩ := five hl
  have c64 : Try.prog.cellsOf 27 = 1 := by kernel_rfl
  have ci8 : Try.prog.cellsOf 57 = 1 := by kernel_rfl
  have cu8 : Try.prog.cellsOf 5 = 1 := by kernel_rfl
  obtain ⟨f0, y0, h0, -⟩ := hf _ (by simp only [List.mem_cons]; exact .inl rfl)
  obtain ⟨f1, y1, h1, -⟩ := hf _ (by simp only [List.mem_cons]; exact .inr (.inl rfl))
  obtain ⟨f2, y2, h2, -⟩ := hf _ (by simp only [List.mem_cons]; exact .inr (.inr (.inl rfl)))
  obtain ⟨f3, y3, h3, -⟩ := hf _ (by simp only [List.mem_cons]; exact .inr (.inr (.inr (.inl rfl))))
  obtain ⟨f4, y4, h4, -⟩ := hf _ (by simp only [List.mem_cons]; exact .inr (.inr (.inr (.inr (.inl rfl)))))
  simp only [c64, ci8, cu8, List.drop_zero, List.drop_succ_cons, List.take_succ_cons, List.take_zero] at h0 h1 h2 h3 h4
  obtain ⟨k0, e0, -, w0⟩ := DataW.trod_int Try.underlying27 h0
  obtain ⟨k1, e1, -, w1⟩ := DataW.trod_int Try.underlying57 h1
  obtain ⟨k2, e2, -, w2⟩ := DataW.trod_int Try.underlying5 h2
  obtain ⟨k3, e3, -, w3⟩ := DataW.trod_int Try.underlying27 h3
  obtain ⟨k4, e4, -, w4⟩ := DataW.trod_int Try.underlying27 h4
  simp only [List.cons.injEq, and_true] at e0 e1 e2 e3 e4
  obtain ⟨n0, rfl, l0⟩ := wf_u64 w0
  obtain ⟨n3, rfl, l3⟩ := wf_u64 w3
  obtain ⟨n4, rfl, l4⟩ := wf_u64 w4
  obtain ⟨n2, rfl⟩ := wf_u8 w2
  have l1 := wf_i8 w1
  exact ⟨⟨n0, k1, n2, n3, n4⟩, by simp [markV, e0, e1, e2, e3, e4], l0, l1.1, l1.2, l3, l4⟩

set_option maxRecDepth 100000 in
theorem lifted (os : Os) (started : os.Started) (H : Type) (enc : TypeId × Value → H) :
    ReturnsInHanded {} Try.checked os 7 .any (Rows.voteNoneSpec.pre6 enc Try.prog Try.f7 Rows.voteNoneRow.domain false) (Rows.voteNoneSpec.post enc Try.prog Try.f7 false true false false) := by
  refine returnsInHanded_of_change (C := Try.checked) own started (by kernel_rfl) Try.func7
    (ChangeSpec.witness6 (enc := enc) (C := Try.checked) false ⟨#[], #[.int .i64 0, .agg #[.int .u64 0, .int .i8 0, .int .u8 0, .int .u64 0, .int .u64 0]], []⟩ 8 (by kernel_rfl) (by kernel_rfl) (by kernel_rfl) (by kernel_rfl)) ?_
  intro W base args ds gs before hval0 hW hcnd _
  have hval : ∀ (j : Nat) t v, Try.f7.params[j]? = some t → args[j]? = some v → Value.okWide Try.prog W .any base t v := hval0
  have hW' := hW
  obtain ⟨p, q, hA0, hV, rfl, hfz, hnd⟩ := hW
  have hA : DataW.TrodAll enc Try.prog W 0 (fun _ => true) true Try.f7.params.toList args.toList ds p := hA0
  rw [Try.params7] at hA hval
  obtain ⟨v0, v1, d0, d1, p0, p1, rfl, rfl, rfl, h0, h1⟩ := trodAll_two hA
  obtain ⟨rfl, rfl⟩ := trodVars_none hV
  obtain ⟨f, rfl, rfl, rfl, wf⟩ := open_int Try.underlying3 (hval 0 3 v0 rfl rfl) h0
  have hv1 := hval 1 59 v1 rfl rfl
  unfold Value.okWide at hv1
  rw [markU] at hv1
  obtain ⟨cs, rfl, hcs, -⟩ := hv1
  obtain ⟨fu, h1⟩ := h1
  have hcs5 : cs.toList.length = 5 := by
    rw [Array.length_toList, hcs]
    kernel_rfl
  obtain ⟨m, hm, -⟩ := open_mark (c := cs.toList) hcs5 h1
  obtain rfl : cs = (markV m).toArray := by rw [← hm]
  clear hA0 hval0
  refine Calls.mono (ca_voteNone (K := fun v w' => v = .bool true ∧ Mod (fun _ => False) W w') fun w' hm => ⟨rfl, hm⟩).out ?_
  rintro e W' ⟨v, rfl, rfl, hm⟩
  exact ⟨_, rfl, post_of_mod laidOut (by kernel_rfl) rfl hW' hm (by kernel_rfl) Try.underlying4 rfl⟩

theorem holds : Rows.VoteNoneSaid :=
  OpenClaim.holds_of_wide 7 Try.f7 rfl rfl rfl rfl rfl rfl rfl ⟨rfl, rfl, rfl, rfl, rfl⟩ rfl rfl rfl rfl rfl (by kernel_rfl) Try.func7 (by kernel_rfl)
    (of_decide_eq_true (by kernel_rfl)) (by unfold Func.isWrapper; first | (rw [if_pos (by decide +kernel)]; kernel_rfl) | (rw [if_neg (by decide +kernel)]; exact ⟨rfl, rfl⟩))
    (fun os started H enc _ => lifted os started H enc)
end Go.Proofs.Yteldcaeicgobfaa.voteNone
