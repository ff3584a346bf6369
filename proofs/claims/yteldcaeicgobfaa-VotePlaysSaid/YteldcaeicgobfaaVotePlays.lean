/-
  The statement VotePlays: for every input the law VotePlays returns true, and its argument reads as it did.
  Conditions: none.
-/
import Derived.Test.YteldcaeicgobfaaRows
import Derived.Test.YteldcaeicgobfaaVcOpen
import Derived.Test.YteldcaeicgobfaaVoteE
import Derived.WalkKit
import Derived.ProofKit
import Derived.OpenShut
set_option linter.unusedSimpArgs false
set_option linter.unusedVariables false
namespace Go.Proofs.Yteldcaeicgobfaa.votePlays
open Go Go.Vc Go.Proofs Go.ChangeShapes Go.WideShapes Go.ChangeAt Go.RowKit

theorem own : ownKnob Try.prog.godebug = none := by kernel_rfl
theorem laidOut : laidOutB Try.prog = true := by kernel_rfl

theorem markU : Try.prog.underlying 59 = some (.struct #[{ name := "Term", type := 27, offset := 0, embedded := false, tag := "", pkgPath := "", byteOffset := 0 }, { name := "For", type := 57, offset := 1, embedded := false, tag := "", pkgPath := "", byteOffset := 8 },
    { name := "File", type := 5, offset := 2, embedded := false, tag := "", pkgPath := "", byteOffset := 9 }, { name := "Base", type := 27, offset := 3, embedded := false, tag := "", pkgPath := "", byteOffset := 16 }, { name := "BaseTerm", type := 27, offset := 4, embedded := false, tag := "", pkgPath := "", byteOffset := 24 }]) := by kernel_rfl
theorem five {c : List Value} (h : c.length = 5) : ∃ c0 c1 c2 c3 c4, c = [c0, c1, c2, c3, c4] := by
  match c, h with
  | [a, b, c, d, e], _ => exact ⟨a, b, c, d, e, rfl⟩
theorem wf_u64 {n : Int} (h : (Lit.int .u64 n).wf = true) : ∃ k : Nat, n = (k : Int) ∧ k < 18446744073709551616 := by
  simp [Lit.wf, IntKind.min, IntKind.max, IntKind.signed, IntKind.bits] at h
  exact ⟨n.toNat, by omega, by omega⟩
theorem wf_u8 {n : Int} (h : (Lit.int .u8 n).wf = true) : ∃ k : UInt8, n = (k.toNat : Int) := by
  simp [Lit.wf, IntKind.min, IntKind.max, IntKind.signed, IntKind.bits] at h
  exact ⟨UInt8.ofNat n.toNat, by simp; omega⟩
theorem wf_i8 {n : Int} (h : (Lit.int .i8 n).wf = true) : -128 ≤ n ∧ n < 128 := by
  simp [Lit.wf, IntKind.min, IntKind.max, IntKind.signed, IntKind.bits] at h
  omega
theorem wt_some {H : Type} (P : Program) (t : TypeId) (d : DataW H) : ∃ B, Wt P B t d := by
  have : ∀ l : List Nat, ∃ B, ∀ m ∈ l, m ≤ B := by
    intro l
    induction l with
    | nil => exact ⟨0, by simp⟩
    | cons a l ih =>
      obtain ⟨B, hB⟩ := ih
      refine ⟨a + B, fun m hm => ?_⟩
      rcases List.mem_cons.1 hm with rfl | hm
      · omega
      · have := hB m hm; omega
  exact this _

set_option maxRecDepth 100000 in
theorem open_mark {H : Type} {enc : TypeId × Value → H} {w : World} {c : List Value} {f : Nat} {y : DataW H × List MemPlace} (hl : c.length = 5) (h : DataW.trod enc Try.prog w 0 (fun _ => true) true f 59 c = some y) :
    ∃ m, c = markV m ∧ m.ok := by
  obtain ⟨B, hB⟩ := wt_some Try.prog 59 y.1
  have hf := rd_fields markU h hB
  obtain ⟨c0, c1, c2, c3, c4, rfl⟩ := five hl
  have c64 : Try.prog.cellsOf 27 = 1 := by kernel_rfl
  have ci8 : Try.prog.cellsOf 57 = 1 := by kernel_rfl
  have cu8 : Try.prog.cellsOf 5 = 1 := by kernel_rfl
  obtain ⟨f0, y0, h0, -⟩ := hf _ (by simp only [List.mem_cons]; exact .inl rfl)
  obtain ⟨f1, y1, h1, -⟩ := hf _ (by simp only [List.mem_cons]; exact .inr (.inl rfl))
  obtain ⟨f2, y2, h2, -⟩ := hf _ (by simp only [List.mem_cons]; exact .inr (.inr (.inl rfl)))
  obtain ⟨f3, y3, h3, -⟩ := hf _ (by simp only [List.mem_cons]; exact .inr (.inr (.inr (.inl rfl))))
  obtain ⟨f4, y4, h4, -⟩ := hf _ (by simp only [List.mem_cons]; exact .inr (.inr (.inr (.inr (.inl rfl)))))
  simp only [c64, ci8, cu8, List.drop_zero, List.drop_succ_cons, List.take_succ_cons, List.take_zero] at h0 h1 h2 h3 h4
  obtain ⟨k0, e0, -, w0⟩ := DataW.trod_int Try.underlying27 h0
  obtain ⟨k1, e1, -, w1⟩ := DataW.trod_int Try.underlying57 h1
  obtain ⟨k2, e2, -, w2⟩ := DataW.trod_int Try.underlying5 h2
  obtain ⟨k3, e3, -, w3⟩ := DataW.trod_int Try.underlying27 h3
  obtain ⟨k4, e4, -, w4⟩ := DataW.trod_int Try.underlying27 h4
  simp only [List.cons.injEq, and_true] at e0 e1 e2 e3 e4
  obtain ⟨n0, rfl, l0⟩ := wf_u64 w0
  obtain ⟨n3, rfl, l3⟩ := wf_u64 w3
  obtain ⟨n4, rfl, l4⟩ := wf_u64 w4
  obtain ⟨n2, rfl⟩ := wf_u8 w2
  have l1 := wf_i8 w1
  exact ⟨⟨n0, k1, n2, n3, n4⟩, by simp [markV, e0, e1, e2, e3, e4], l0, l1.1, l1.2, l3, l4⟩

theorem r64_of_wf {n : Int} (h : (Lit.int .i64 n).wf = true) : R64 n := by
  simp [Lit.wf, IntKind.min, IntKind.max, IntKind.signed, IntKind.bits] at h
  exact ⟨by omega, by omega⟩
theorem list_choose {α β : Type} {f : β → α} {Q : β → Prop} : ∀ {L : List α}, (∀ c ∈ L, ∃ o, c = f o ∧ Q o) → ∃ l : List β, L = l.map f ∧ ∀ o ∈ l, Q o
  | [], _ => ⟨[], rfl, by simp⟩
  | c :: L, h => by
    obtain ⟨o, rfl, ho⟩ := h c List.mem_cons_self
    obtain ⟨l, rfl, hl⟩ := list_choose fun c hc => h c (List.mem_cons_of_mem _ hc)
    exact ⟨o :: l, rfl, fun x hx => by rcases List.mem_cons.1 hx with rfl | hx; exact ho; exact hl x hx⟩

theorem tryU : Try.prog.underlying 132 = some (.struct #[{ name := "Arm", type := 3, offset := 0, embedded := false, tag := "", pkgPath := "", byteOffset := 0 }, { name := "Keep", type := 3, offset := 1, embedded := false, tag := "", pkgPath := "", byteOffset := 8 }, { name := "B", type := 23, offset := 2, embedded := false, tag := "", pkgPath := "", byteOffset := 16 }]) := by kernel_rfl
theorem opU : Try.prog.underlying 72 = some (.struct #[{ name := "Kind", type := 3, offset := 0, embedded := false, tag := "", pkgPath := "", byteOffset := 0 }, { name := "N", type := 3, offset := 1, embedded := false, tag := "", pkgPath := "", byteOffset := 8 }, { name := "M", type := 59, offset := 2, embedded := false, tag := "", pkgPath := "", byteOffset := 16 }, { name := "B", type := 23, offset := 7, embedded := false, tag := "", pkgPath := "", byteOffset := 48 }, { name := "More", type := 70, offset := 8, embedded := false, tag := "", pkgPath := "", byteOffset := 72 }]) := by kernel_rfl
theorem three {c : List Value} (h : c.length = 3) : ∃ c0 c1 c2, c = [c0, c1, c2] := by
  match c, h with
  | [a, b, c], _ => exact ⟨a, b, c, rfl⟩
theorem nine {c : List Value} (h : c.length = 9) : ∃ c0 c1 c2 c3 c4 c5 c6 c7 c8, c = [c0, c1, c2, c3, c4, c5, c6, c7, c8] := by
  match c, h with
  | [a, b, c, d, e, f, g, h, i], _ => exact ⟨a, b, c, d, e, f, g, h, i, rfl⟩

set_option maxRecDepth 100000 in
theorem open_try {H : Type} {enc : TypeId × Value → H} {w : World} {c : List Value} {f : Nat} {y : DataW H × List MemPlace} (hl : c.length = 3) (h : DataW.trod enc Try.prog w 0 (fun _ => true) true f 132 c = some y) (hB : Wt Try.prog reachBytes 132 y.1) :
    ∃ o, c = tryCells o ∧ TryOk w o := by
  have hf := rd_fields tryU h hB
  obtain ⟨c0, c1, c2, rfl⟩ := three hl
  have ci : Try.prog.cellsOf 3 = 1 := by kernel_rfl
  have cs : Try.prog.cellsOf 23 = 1 := by kernel_rfl
  obtain ⟨f0, y0, h0, -⟩ := hf _ (by simp only [List.mem_cons]; exact .inl rfl)
  obtain ⟨f1, y1, h1, -⟩ := hf _ (by simp only [List.mem_cons]; exact .inr (.inl rfl))
  obtain ⟨f4, y4, h4, b4⟩ := hf _ (by simp only [List.mem_cons]; exact .inr (.inr (.inl rfl)))
  simp only [ci, cs, List.drop_zero, List.drop_succ_cons, List.take_succ_cons, List.take_zero] at h0 h1 h4
  obtain ⟨k, e0, -, w0⟩ := DataW.trod_int Try.underlying3 h0
  obtain ⟨fi, e1, -, w1⟩ := DataW.trod_int Try.underlying3 h1
  obtain ⟨v, e4, bs, r4, l4⟩ := rd_bytes_wt Try.underlying23 Try.underlying5 (by kernel_rfl) (by kernel_rfl) h4 b4
  simp only [List.cons.injEq, and_true] at e0 e1 e4
  refine ⟨⟨k, fi, v, bs⟩, by simp [tryCells, e0, e1, e4], r64_of_wf w0, r64_of_wf w1, r4, ?_⟩
  have : reachBytes ≤ 140737488355328 := by decide
  exact Nat.le_trans l4 this

set_option maxRecDepth 100000 in
theorem open_vop {H : Type} {enc : TypeId × Value → H} {w : World} {c : List Value} {f : Nat} {y : DataW H × List MemPlace} (hl : c.length = 9) (h : DataW.trod enc Try.prog w 0 (fun _ => true) true f 72 c = some y) (hB : Wt Try.prog reachBytes 72 y.1) :
    ∃ o, c = vopCells o ∧ VOpOk w o := by
  have hf := rd_fields opU h hB
  obtain ⟨c0, c1, c2, c3, c4, c5, c6, c7, c8, rfl⟩ := nine hl
  have ci : Try.prog.cellsOf 3 = 1 := by kernel_rfl
  have cs : Try.prog.cellsOf 23 = 1 := by kernel_rfl
  have ct : Try.prog.cellsOf 70 = 1 := by kernel_rfl
  have cm : Try.prog.cellsOf 59 = 5 := by kernel_rfl
  obtain ⟨f0, y0, h0, -⟩ := hf _ (by simp only [List.mem_cons]; exact .inl rfl)
  obtain ⟨f1, y1, h1, -⟩ := hf _ (by simp only [List.mem_cons]; exact .inr (.inl rfl))
  obtain ⟨f2, y2, h2, -⟩ := hf _ (by simp only [List.mem_cons]; exact .inr (.inr (.inl rfl)))
  obtain ⟨f3, y3, h3, b3⟩ := hf _ (by simp only [List.mem_cons]; exact .inr (.inr (.inr (.inl rfl))))
  obtain ⟨f4, y4, h4, b4⟩ := hf _ (by simp only [List.mem_cons]; exact .inr (.inr (.inr (.inr (.inl rfl)))))
  simp only [ci, cs, ct, cm, List.drop_zero, List.drop_succ_cons, List.take_succ_cons, List.take_zero] at h0 h1 h2 h3 h4
  obtain ⟨k, e0, -, w0⟩ := DataW.trod_int Try.underlying3 h0
  obtain ⟨n, e1, -, w1⟩ := DataW.trod_int Try.underlying3 h1
  obtain ⟨m, e2, okm⟩ := open_mark rfl h2
  obtain ⟨v, e3, bs, r3, l3⟩ := rd_bytes_wt Try.underlying23 Try.underlying5 (by kernel_rfl) (by kernel_rfl) h3 b3
  obtain ⟨x, e4, L, r4, -, hL⟩ := rd_rows (sz := 3) Try.underlying70 (by kernel_rfl) (by omega) h4 b4
  obtain ⟨ts, rfl, hts⟩ := list_choose (f := tryCells) (Q := TryOk w) fun c hc => by
    obtain ⟨h1, f', y, h2, h3⟩ := hL c hc
    exact open_try h1 h2 h3
  rw [List.length_map, ← List.flatMap_def] at r4
  simp only [markV, List.cons.injEq, and_true] at e0 e1 e2 e3 e4
  obtain ⟨g0, g1, g2, g3, g4⟩ := e2
  refine ⟨⟨k, n, m, v, bs, x, ts⟩, by simp [vopCells, e0, e1, e3, e4, g0, g1, g2, g3, g4], r64_of_wf w0, r64_of_wf w1, okm, r3, ?_, r4, hts⟩
  have : reachBytes ≤ 140737488355328 := by decide
  exact Nat.le_trans l3 this

set_option maxRecDepth 100000 in
theorem lifted (os : Os) (started : os.Started) (H : Type) (enc : TypeId × Value → H) :
    ReturnsInHanded {} Try.checked os 8 .any (Rows.votePlaysSpec.pre6 enc Try.prog Try.f8 Rows.votePlaysRow.domain false) (Rows.votePlaysSpec.post enc Try.prog Try.f8 false true false false) := by
  refine returnsInHanded_of_change_sized (C := Try.checked) own started (by kernel_rfl) Try.func8
    (ChangeSpec.witness6 (enc := enc) (C := Try.checked) false ⟨#[], #[.slice none 0 0], []⟩ 8 (by kernel_rfl) (by kernel_rfl) (by kernel_rfl) (by kernel_rfl)) ?_
  intro W base args ds gs before hval0 hW hcnd hwt0 _
  have hval : ∀ (j : Nat) t v, Try.f8.params[j]? = some t → args[j]? = some v → Value.okWide Try.prog W .any base t v := hval0
  have hwt : (DataW.weightsEach Try.prog (Try.f8.params.toList ++ []) (ds ++ gs)).all (· ≤ reachBytes) = true := hwt0
  have hW' := hW
  obtain ⟨p, q, hA0, hV, rfl, hfz, hnd⟩ := hW
  have hA : DataW.TrodAll enc Try.prog W 0 (fun _ => true) true Try.f8.params.toList args.toList ds p := hA0
  rw [Try.params8] at hA hval hwt
  obtain ⟨v0, vs0, d0, ds0, p0, q0, hargs, rfl, rfl, h0, r0⟩ := trodAll_cons hA
  obtain ⟨rfl, rfl, rfl⟩ := trodAll_nil r0
  obtain rfl : args = #[v0] := by cases args; simp_all
  obtain ⟨rfl, rfl⟩ := trodVars_none hV
  have hB : Wt Try.prog reachBytes 69 d0 := by
    intro m hm
    have := List.all_eq_true.1 hwt m (by simp only [List.append_nil, DataW.weightsEach, List.mem_append]; first | exact .inl hm | exact hm)
    simpa using this
  have hv0 := hval 0 69 v0 rfl rfl
  have hag : v0.cells.toList = [v0] := by
    unfold Value.okWide at hv0
    rw [Try.underlying69] at hv0
    simp only [Cell.okWide, Try.underlying69] at hv0
    unfold Cell.ok at hv0
    rw [Try.underlying69] at hv0
    cases v0 <;> first | rfl | exact hv0.elim
  obtain ⟨fuel, h0⟩ := h0
  rw [hag] at h0
  obtain ⟨v, e, L, hl, -, hL⟩ := rd_rows (sz := 9) Try.underlying69 (by kernel_rfl) (by omega) h0 hB
  cases e
  obtain ⟨l, rfl, hok⟩ := list_choose (f := vopCells) (Q := VOpOk W) fun c hc => by
    obtain ⟨h1, f', y, h2, h3⟩ := hL c hc
    exact open_vop h1 h2 h3
  rw [List.length_map, ← List.flatMap_def] at hl
  clear hA0 hval0
  refine Calls.mono (ca_votePlays (K := fun v w' => v = .bool true ∧ Mod (fun _ => False) W w') hl hok fun w' hm => ⟨rfl, hm⟩).out ?_
  rintro e W' ⟨v, rfl, rfl, hm⟩
  exact ⟨_, rfl, post_of_mod laidOut (by kernel_rfl) rfl hW' hm (by kernel_rfl) Try.underlying4 rfl⟩

theorem holds : Rows.VotePlaysSaid :=
  OpenClaim.holds_of_wide 8 Try.f8 rfl rfl rfl rfl rfl rfl rfl ⟨rfl, rfl, rfl, rfl, rfl⟩ rfl rfl rfl rfl rfl (by kernel_rfl) Try.func8 (by kernel_rfl)
    (of_decide_eq_true (by kernel_rfl)) (by unfold Func.isWrapper; first | (rw [if_pos (by decide +kernel)]; kernel_rfl) | (rw [if_neg (by decide +kernel)]; exact ⟨rfl, rfl⟩))
    (fun os started H enc _ => lifted os started H enc)
end Go.Proofs.Yteldcaeicgobfaa.votePlays
