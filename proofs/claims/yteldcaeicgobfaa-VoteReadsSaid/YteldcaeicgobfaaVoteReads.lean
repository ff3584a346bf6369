/-
  The statement VoteReads: for every input the law VoteReads returns true, and its arguments read as they did.
  Conditions: none.
-/
import Derived.Test.YteldcaeicgobfaaRows
import Derived.Test.YteldcaeicgobfaaVcOpen
import Derived.Test.YteldcaeicgobfaaVoteF
import Derived.WalkKit
import Derived.ProofKit
import Derived.OpenShut
set_option linter.unusedSimpArgs false
set_option linter.unusedVariables false
namespace Go.Proofs.Yteldcaeicgobfaa.voteReads
open Go Go.Vc Go.Proofs Go.ChangeShapes Go.WideShapes Go.ChangeAt Go.RowKit

theorem own : ownKnob Try.prog.godebug = none := by kernel_rfl
theorem laidOut : laidOutB Try.prog = true := by kernel_rfl

theorem wf_u8 {n : Int} (h : (Lit.int .u8 n).wf = true) : ∃ k : UInt8, n = (k.toNat : Int) := by
  simp [Lit.wf, IntKind.min, IntKind.max, IntKind.signed, IntKind.bits] at h
  exact ⟨UInt8.ofNat n.toNat, by simp; omega⟩
theorem cells_bytes {H : Type} {enc : TypeId × Value → H} {P : Program} {w : World} {base : Nat} {spare : Nat → Bool} {held : Bool} {e : TypeId} {m : Nat} (he : P.underlying e = some (.int .u8)) : ∀ cs : List Value,
    (∀ i : Nat, i < cs.length → ∃ y, DataW.trod enc P w base spare held m e ((cs.drop i).take 1) = some y) → ∃ l : List UInt8, cs = bv l
  | [], _ => ⟨[], rfl⟩
  | c :: cs, h => by
    obtain ⟨l, rfl⟩ := cells_bytes he cs fun i hi => by
      have := h (i + 1) (by simpa using hi)
      simpa using this
    obtain ⟨y, hy⟩ := h 0 (by simp)
    simp only [List.drop_zero, List.take_succ_cons, List.take_zero] at hy
    obtain ⟨k, e0, -, w0⟩ := DataW.trod_int he hy
    obtain ⟨u, rfl⟩ := wf_u8 w0
    simp only [List.cons.injEq, and_true] at e0
    exact ⟨u :: l, by rw [e0]; rfl⟩

section
variable {H : Type} (enc : TypeId × Value → H) (w : World)
theorem mapM_const {α β : Type} {f : α → Option β} {y : β} : ∀ l : List α, (∀ x ∈ l, f x = some y) → l.mapM f = some (l.map fun _ => y)
  | [], _ => rfl
  | a :: l, h => by
    rw [List.mapM_cons, h a List.mem_cons_self, mapM_const l fun x hx => h x (List.mem_cons_of_mem _ hx)]
    rfl
theorem map_rep {α β : Type} (n : Nat) (y : α × β) : ((List.range n).map (Prod.fst ∘ fun _ => y)) = List.replicate n y.1 := by
  apply List.ext_getElem
  · simp
  · intro i h1 h2
    simp
theorem trod_zero (m : Nat) : DataW.trod enc Try.prog w 0 (fun _ => true) true (m + 1) 5 [.int .u8 0] = some (.lit (.int .u8 0), []) := by
  unfold DataW.trod
  rw [Try.underlying5]
  exact if_pos (by decide)
theorem trod_zeros (m : Nat) : DataW.trod enc Try.prog w 0 (fun _ => true) true (m + 1 + 1) 77 (List.replicate 768 (.int .u8 0)) = some (.agg (List.replicate 768 (.lit (.int .u8 0))), []) := by
  have c768 : Try.prog.cellsOf 77 = 768 := by kernel_rfl
  have c1 : Try.prog.cellsOf 5 = 1 := by kernel_rfl
  unfold DataW.trod
  rw [Try.underlying77]
  simp only
  rw [if_pos (by rw [c768, List.length_replicate]), c1, mapM_const (y := (.lit (.int .u8 0), [])) _ (fun i hi => ?_)]
  · simp only [Option.map_some, List.map_map, Option.some.injEq, Prod.mk.injEq]
    constructor
    · exact congrArg DataW.agg (map_rep _ _)
    · rw [List.flatMap_map]
      apply List.flatMap_eq_nil_iff.2
      intro x _
      rfl
  · have hi' := List.mem_range.1 hi
    have e : ((List.replicate 768 (Value.int .u8 0)).drop (i * 1)).take 1 = [.int .u8 0] := by
      rw [List.drop_replicate, List.take_replicate, show min 1 (768 - i * 1) = 1 by omega]
      rfl
    rw [e]
    exact trod_zero enc w m
theorem whole_is : DataW.whole enc Try.prog w [77] [] false [.agg (Array.replicate 768 (.int .u8 0))] 8 = some ([.agg (List.replicate 768 (.lit (.int .u8 0)))], [], []) := by
  have e : (Value.agg (Array.replicate 768 (.int .u8 0))).cells.toList = List.replicate 768 (.int .u8 0) := by simp [Value.cells]
  have h := trod_zeros enc w 6
  unfold DataW.whole
  simp only [DataW.trodAll, DataW.trodVars, e, h]
  rfl
theorem weights_is (P : Program) (e : TypeId) : ∀ n, DataW.weightsAll P e (List.replicate n (.lit (.int .u8 0) : DataW H)) = []
  | 0 => rfl
  | n + 1 => by
    rw [List.replicate_succ]
    simp only [DataW.weightsAll, DataW.weights, weights_is P e n, List.append_nil]
end

def inp : Input := ⟨#[], #[.agg (Array.replicate 768 (.int .u8 0))], []⟩
set_option maxRecDepth 100000 in
theorem wit1 (os : Os) : (World.plainHolding Try.checked.prog os inp).variablesB Try.checked.prog = true := by kernel_rfl
set_option maxRecDepth 100000 in
theorem wit2 (os : Os) : ((World.plainHolding Try.checked.prog os inp).heap.toList.drop Try.checked.prog.globals.size).take ((begin Try.checked.prog (fun _ _ => 0) default).world.heap.size - Try.checked.prog.globals.size) =
      (begin Try.checked.prog (fun _ _ => 0) default).world.heap.toList.drop Try.checked.prog.globals.size := by kernel_rfl
set_option maxRecDepth 100000 in
theorem wit3 (os : Os) : Input.okWideB Try.checked.prog (World.plainHolding Try.checked.prog os inp) 9 ⟨#[], inp.args, []⟩ = true := by kernel_rfl
theorem wit4 (os : Os) {H : Type} (enc : TypeId × Value → H) : Rows.voteReadsSpec.preB enc Try.checked.prog Try.f9 Rows.voteReadsRow.domain false (World.plainHolding Try.checked.prog os inp).memory inp.args 8 = true := by
  generalize (World.plainHolding Try.checked.prog os inp).memory = w
  unfold ChangeSpec.preB
  rw [Try.params9, show Rows.voteReadsSpec.vars = [] from rfl]
  rw [show (Try.checked.prog) = Try.prog from rfl, show inp.args.toList = [.agg (Array.replicate 768 (.int .u8 0))] from rfl, show (#[77] : Array TypeId).toList = [77] from rfl, whole_is]
  rfl
theorem wit5 (os : Os) {H : Type} (enc : TypeId × Value → H) : Rows.voteReadsSpec.sizedB enc Try.checked.prog Try.f9 false (World.plainHolding Try.checked.prog os inp).memory inp.args 8 = true := by
  generalize (World.plainHolding Try.checked.prog os inp).memory = w
  unfold ChangeSpec.sizedB
  rw [Try.params9, show Rows.voteReadsSpec.vars = [] from rfl]
  rw [show (Try.checked.prog) = Try.prog from rfl, show inp.args.toList = [.agg (Array.replicate 768 (.int .u8 0))] from rfl, show (#[77] : Array TypeId).toList = [77] from rfl, whole_is]
  have h1 : (Try.prog.platform == "linux/amd64/v1") = true := by kernel_rfl
  rw [h1]
  simp only [Bool.true_and, List.append_nil]
  rw [show ([77] : List TypeId) ++ Rows.voteReadsSpec.plain.varTypes Try.prog = [77] from rfl]
  simp only [DataW.weightsEach, DataW.weights, Try.underlying77, weights_is, List.append_nil, List.all_nil]
set_option maxRecDepth 100000 in
theorem lifted (os : Os) (started : os.Started) (H : Type) (enc : TypeId × Value → H) :
    ReturnsInHanded {} Try.checked os 9 .any (Rows.voteReadsSpec.pre6 enc Try.prog Try.f9 Rows.voteReadsRow.domain false) (Rows.voteReadsSpec.post enc Try.prog Try.f9 false true false false) := by
  refine returnsInHanded_of_change (C := Try.checked) own started (by kernel_rfl) Try.func9
    (ChangeSpec.witness6 (enc := enc) (C := Try.checked) (os := os) (f := 9) (fn := Try.f9) (s := Rows.voteReadsSpec) (conds := Rows.voteReadsRow.domain) (apart := false) false inp 8 (wit1 os) (wit2 os) (wit3 os) (wit4 os enc) (wit5 os enc)) ?_
  intro W base args ds gs before hval0 hW hcnd _
  have hval : ∀ (j : Nat) t v, Try.f9.params[j]? = some t → args[j]? = some v → Value.okWide Try.prog W .any base t v := hval0
  have hW' := hW
  obtain ⟨p, q, hA0, hV, rfl, hfz, hnd⟩ := hW
  have hA : DataW.TrodAll enc Try.prog W 0 (fun _ => true) true Try.f9.params.toList args.toList ds p := hA0
  rw [Try.params9] at hA hval
  obtain ⟨v0, d0, rfl, rfl, h0⟩ := trodAll_one hA
  obtain ⟨rfl, rfl⟩ := trodVars_none hV
  have hv0 := hval 0 77 v0 rfl rfl
  unfold Value.okWide at hv0
  rw [Try.underlying77] at hv0
  obtain ⟨cs, rfl, hcs, -⟩ := hv0
  obtain ⟨fu, h0⟩ := h0
  have c768 : Try.prog.cellsOf 77 = 768 := by kernel_rfl
  have hcs5 : cs.toList.length = 768 := by rw [Array.length_toList, hcs, c768]
  have h0' : DataW.trod enc Try.prog W 0 (fun _ => true) true fu 77 cs.toList = some (d0, p) := h0
  obtain ⟨xs, m, -, -, -, hxl, hx⟩ := DataW.trod_array Try.underlying77 h0'
  have c1 : Try.prog.cellsOf 5 = 1 := by kernel_rfl
  rw [c1] at hx
  obtain ⟨B, hB⟩ := cells_bytes (enc := enc) (m := m) Try.underlying5 cs.toList fun i hi => by
    have := hx i (by omega)
    rw [Nat.mul_one, List.getElem?_eq_getElem (by omega)] at this
    exact ⟨_, this⟩
  obtain rfl : cs = (bv B).toArray := by rw [← hB]
  have hBl : B.length = 768 := by simpa using hcs5
  clear hA0 hval0
  refine Calls.mono (ca_voteReads (K := fun v w' => v = .bool true ∧ Mod (fun _ => False) W w') hBl fun w' hm => ⟨rfl, hm⟩).out ?_
  rintro e W' ⟨v, rfl, rfl, hm⟩
  exact ⟨_, rfl, post_of_mod laidOut (by kernel_rfl) rfl hW' hm (by kernel_rfl) Try.underlying4 rfl⟩

theorem holds : Rows.VoteReadsSaid :=
  OpenClaim.holds_of_wide 9 Try.f9 rfl rfl rfl rfl rfl rfl rfl ⟨rfl, rfl, rfl, rfl, rfl⟩ rfl rfl rfl rfl rfl (by kernel_rfl) Try.func9 (by kernel_rfl)
    (of_decide_eq_true (by kernel_rfl)) (by unfold Func.isWrapper; first | (rw [if_pos (by decide +kernel)]; kernel_rfl) | (rw [if_neg (by decide +kernel)]; exact ⟨rfl, rfl⟩))
    (fun os started H enc _ => lifted os started H enc)
end Go.Proofs.Yteldcaeicgobfaa.voteReads
