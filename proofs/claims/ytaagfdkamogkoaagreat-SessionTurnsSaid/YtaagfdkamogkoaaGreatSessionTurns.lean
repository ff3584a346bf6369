/-
  The statement SessionTurns: for every input the law SessionTurns returns true, and its arguments read as they did.
  Conditions: none.
-/
import Derived.Test.YtaagfdkamogkoaaGreatRows
import Derived.Test.YtaagfdkamogkoaaGreatVcLift
import Derived.Test.YtaagfdkamogkoaaGreatVcOpen
import Derived.Test.YtaagfdkamogkoaaGreatWireV
import Derived.WalkKit
import Derived.ProofKit
import Derived.OpenShut
set_option linter.unusedVariables false
set_option linter.unusedSimpArgs false
namespace Go.Proofs.YtaagfdkamogkoaaGreat.sessionTurns
open Go Go.Vc Go.Proofs Go.ChangeShapes Go.WideShapes Go.ChangeAt Go.RowKit

theorem own : ownKnob Tryz.prog.godebug = none := by kernel_rfl
theorem laidOut : laidOutB Tryz.prog = true := by kernel_rfl
theorem wf_u64 {n : Int} (h : (Lit.int .u64 n).wf = true) : ∃ k : Nat, n = (k : Int) ∧ k < 18446744073709551616 := by
  simp [Lit.wf, IntKind.min, IntKind.max, IntKind.signed, IntKind.bits] at h
  exact ⟨n.toNat, by omega, by omega⟩
theorem three {c : List Value} (h : c.length = 3) : ∃ c0 c1 c2, c = [c0, c1, c2] := by
  match c, h with
  | [a, b, c], _ => exact ⟨a, b, c, rfl⟩
theorem turnU : Tryz.prog.underlying 25 = some (.struct #[{ name := "Client", type := 22, offset := 0, embedded := false, tag := "", pkgPath := "", byteOffset := 0 }, { name := "Seq", type := 22, offset := 1, embedded := false, tag := "", pkgPath := "", byteOffset := 8 }, { name := "Command", type := 23, offset := 2, embedded := false, tag := "", pkgPath := "", byteOffset := 16 }]) := by kernel_rfl
set_option maxRecDepth 100000 in
theorem open_turn {H : Type} {enc : TypeId × Value → H} {w : World} {c : List Value} {f : Nat} {y : DataW H × List MemPlace} (hl : c.length = 3) (h : DataW.trod enc Tryz.prog w 0 (fun _ => true) true f 25 c = some y) (hB : Wt Tryz.prog reachBytes 25 y.1) :
    ∃ (o : Tn) (v : Value), c = [.int .u64 o.c, .int .u64 o.q, v] ∧ Rd w 1 v o.b.length (bv o.b) ∧ o.c < 18446744073709551616 ∧ o.q < 18446744073709551616 := by
  have hf := rd_fields turnU h hB
  obtain ⟨c0, c1, c2, rfl⟩ := three hl
  have c64 : Tryz.prog.cellsOf 22 = 1 := by kernel_rfl
  have cs : Tryz.prog.cellsOf 23 = 1 := by kernel_rfl
  obtain ⟨f0, y0, h0, -⟩ := hf _ (by simp only [List.mem_cons]; exact .inl rfl)
  obtain ⟨f1, y1, h1, -⟩ := hf _ (by simp only [List.mem_cons]; exact .inr (.inl rfl))
  obtain ⟨f2, y2, h2, b2⟩ := hf _ (by simp only [List.mem_cons]; exact .inr (.inr (.inl rfl)))
  simp only [c64, cs, List.drop_zero, List.drop_succ_cons, List.take_succ_cons, List.take_zero] at h0 h1 h2
  obtain ⟨k0, e0, -, w0⟩ := DataW.trod_int Tryz.underlying22 h0
  obtain ⟨k1, e1, -, w1⟩ := DataW.trod_int Tryz.underlying22 h1
  obtain ⟨v, e2, bs, r2, l2⟩ := rd_bytes_wt Tryz.underlying23 Tryz.underlying5 (by kernel_rfl) (by kernel_rfl) h2 b2
  simp only [List.cons.injEq, and_true] at e0 e1 e2
  obtain ⟨n0, rfl, l0⟩ := wf_u64 w0
  obtain ⟨n1, rfl, l1⟩ := wf_u64 w1
  exact ⟨⟨n0, n1, bs⟩, v, by simp [e0, e1, e2], r2, l0, l1⟩

set_option maxRecDepth 100000 in
theorem lifted (os : Os) (started : os.Started) (H : Type) (enc : TypeId × Value → H) :
    ReturnsInHanded {} Tryz.checked os 3 .any (Rows.sessionTurnsSpec.pre6 enc Tryz.prog Tryz.f3 Rows.sessionTurnsRow.domain false) (Rows.sessionTurnsSpec.post enc Tryz.prog Tryz.f3 false true false false) := by
  refine returnsInHanded_of_change_sized (C := Tryz.checked) own started (by kernel_rfl) Tryz.func3
    (ChangeSpec.witness6 (enc := enc) (C := Tryz.checked) false ⟨#[], #[.agg #[.int .u64 0, .int .u64 0, .slice none 0 0], .slice none 0 0], []⟩ 8 (by kernel_rfl) (by kernel_rfl) (by kernel_rfl) (by kernel_rfl)) ?_
  intro W base args ds gs before hval0 hW hcnd hwt0 _
  have hval : ∀ (j : Nat) t v, Tryz.f3.params[j]? = some t → args[j]? = some v → Value.okWide Tryz.prog W .any base t v := hval0
  have hwt : (DataW.weightsEach Tryz.prog (Tryz.f3.params.toList ++ []) (ds ++ gs)).all (· ≤ reachBytes) = true := hwt0
  have hW' := hW
  obtain ⟨p, q, hA0, hV, rfl, hfz, hnd⟩ := hW
  have hA : DataW.TrodAll enc Tryz.prog W 0 (fun _ => true) true Tryz.f3.params.toList args.toList ds p := hA0
  rw [Tryz.params3] at hA hval hwt
  obtain ⟨v0, vs0, d0, ds0, p0, q0, hargs, rfl, rfl, h0, hA⟩ := trodAll_cons hA
  obtain ⟨v1, vs1, d1, ds1, p1, q1, rfl, rfl, rfl, h1, hA⟩ := trodAll_cons hA
  obtain ⟨rfl, rfl, rfl⟩ := trodAll_nil hA
  obtain rfl : args = #[v0, v1] := by cases args; simp_all
  obtain ⟨rfl, rfl⟩ := trodVars_none hV
  have hB : Wt Tryz.prog reachBytes 25 d0 := by
    intro m hm
    have := List.all_eq_true.1 hwt m (by simp only [List.append_nil, DataW.weightsEach, List.mem_append]; first | exact .inl hm | exact .inr (.inl hm))
    simpa using this
  have hv0 := hval 0 25 v0 rfl rfl
  unfold Value.okWide at hv0
  rw [turnU] at hv0
  obtain ⟨cs, rfl, hcs, -⟩ := hv0
  obtain ⟨fu, h0⟩ := h0
  have hcs3 : cs.toList.length = 3 := by
    rw [Array.length_toList, hcs]
    kernel_rfl
  obtain ⟨o, v, hx, hr, hc, hq⟩ := open_turn (c := cs.toList) hcs3 h0 hB
  obtain rfl : cs = #[.int .u64 o.c, .int .u64 o.q, v] := by
    apply Array.ext'
    rw [hx]
  obtain ⟨lb, hlb⟩ := open_bs Tryz.underlying23 Tryz.underlying5 (by kernel_rfl) (hval 1 23 v1 rfl rfl) h1
  clear hA0 hval0
  refine Calls.mono (ca_turns (K := fun v w' => v = .bool true ∧ Mod (fun _ => False) W w') hr hlb hc hq fun w' hm => ⟨rfl, hm⟩).out ?_
  rintro e W' ⟨v, rfl, rfl, hm⟩
  exact ⟨_, rfl, post_of_mod laidOut (by kernel_rfl) rfl hW' hm (by kernel_rfl) Tryz.underlying4 rfl⟩

theorem holds : Rows.SessionTurnsSaid :=
  OpenClaim.holds_of_wide 3 Tryz.f3 rfl rfl rfl rfl rfl rfl rfl ⟨rfl, rfl, rfl, rfl, rfl⟩ rfl rfl rfl rfl rfl (by kernel_rfl) Tryz.func3 (by kernel_rfl)
    (of_decide_eq_true (by kernel_rfl)) (by unfold Func.isWrapper; first | (rw [if_pos (by decide +kernel)]; kernel_rfl) | (rw [if_neg (by decide +kernel)]; exact ⟨rfl, rfl⟩))
    (fun os started H enc _ => lifted os started H enc)
end Go.Proofs.YtaagfdkamogkoaaGreat.sessionTurns
