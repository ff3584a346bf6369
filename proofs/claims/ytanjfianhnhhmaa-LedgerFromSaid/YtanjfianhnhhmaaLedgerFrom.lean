/-
  The statement LedgerFrom: for every input the law LedgerFrom returns true, and its arguments read as they did.
  Conditions: none.
-/
import Derived.Test.YtanjfianhnhhmaaOpOpen
import Derived.Test.YtanjfianhnhhmaaFromW
set_option linter.unusedVariables false
set_option linter.unusedSimpArgs false
namespace Go.Proofs.Ytanjfianhnhhmaa.ledgerFrom
open Go Go.Vc Go.Proofs Go.ChangeShapes Go.WideShapes Go.ChangeAt Go.RowKit

set_option maxRecDepth 100000 in
theorem open_po {H : Type} {enc : TypeId × Value → H} {w : World} {c : List Value} {f : Nat} {y : DataW H × List MemPlace} (hl : c.length = 4) (h : DataW.trod enc Try.prog w 0 (fun _ => true) true f 31 c = some y) (hB : Wt Try.prog reachBytes 31 y.1) :
    ∃ o : Po, c = cellsPo o ∧ (U32 o.c ∧ U32 o.a) ∧ R64 o.q ∧ R64 o.b := by
  have hf := rd_fields poU h hB
  obtain ⟨c0, c1, c2, c3, rfl⟩ := four hl
  obtain ⟨f0, y0, h0, -⟩ := hf _ (by simp only [List.mem_cons]; exact .inl rfl)
  obtain ⟨f1, y1, h1, -⟩ := hf _ (by simp only [List.mem_cons]; exact .inr (.inl rfl))
  obtain ⟨f2, y2, h2, -⟩ := hf _ (by simp only [List.mem_cons]; exact .inr (.inr (.inl rfl)))
  obtain ⟨f3, y3, h3, -⟩ := hf _ (by simp only [List.mem_cons]; exact .inr (.inr (.inr (.inl rfl))))
  simp only [cu32, ci64, List.drop_zero, List.drop_succ_cons, List.take_succ_cons, List.take_zero] at h0 h1 h2 h3
  obtain ⟨n, e0, -, w0⟩ := DataW.trod_int Try.underlying22 h0
  obtain ⟨k, e1, -, w1⟩ := DataW.trod_int Try.underlying22 h1
  obtain ⟨a, e2, -, w2⟩ := DataW.trod_int Try.underlying2 h2
  obtain ⟨b, e3, -, w3⟩ := DataW.trod_int Try.underlying2 h3
  simp only [List.cons.injEq, and_true] at e0 e1 e2 e3
  exact ⟨⟨n, k, a, b⟩, by simp [cellsPo, e0, e1, e2, e3], ⟨u32_of_wf w0, u32_of_wf w1⟩, r64_of_wf w2, r64_of_wf w3⟩

set_option maxRecDepth 100000 in
theorem open_acs {H : Type} {enc : TypeId × Value → H} {w : World} {v0 : Value} {d0 : DataW H} {p0 : List MemPlace} {base : Nat} (hv0 : Value.okWide Try.prog w .any base 58 v0) (h0 : ∃ fuel, DataW.trod enc Try.prog w 0 (fun _ => true) true fuel 58 v0.cells.toList = some (d0, p0))
    (hB : Wt Try.prog reachBytes 58 d0) : ∃ l : List Ac, Rd w 4 v0 l.length (l.flatMap cellsAc) ∧ ∀ x ∈ l, U32 x.num ∧ R64 x.cash := by
  have hag : v0.cells.toList = [v0] := by
    unfold Value.okWide at hv0
    rw [Try.underlying58] at hv0
    simp only [Cell.okWide, Try.underlying58] at hv0
    unfold Cell.ok at hv0
    rw [Try.underlying58] at hv0
    cases v0 <;> first | rfl | exact hv0.elim
  obtain ⟨fuel, h0⟩ := h0
  rw [hag] at h0
  obtain ⟨v, e, L, hl, -, hL⟩ := rd_rows (sz := 4) Try.underlying58 (by kernel_rfl) (by omega) h0 hB
  cases e
  obtain ⟨l, rfl, hok⟩ := list_choose (f := cellsAc) (Q := fun x => U32 x.num ∧ R64 x.cash) fun c hc => by
    obtain ⟨h1, f', y, h2, h3⟩ := hL c hc
    exact open_ac h1 h2 h3
  rw [List.length_map, ← List.flatMap_def] at hl
  exact ⟨l, hl, hok⟩

set_option maxRecDepth 100000 in
theorem open_pos {H : Type} {enc : TypeId × Value → H} {w : World} {v0 : Value} {d0 : DataW H} {p0 : List MemPlace} {base : Nat} (hv0 : Value.okWide Try.prog w .any base 59 v0) (h0 : ∃ fuel, DataW.trod enc Try.prog w 0 (fun _ => true) true fuel 59 v0.cells.toList = some (d0, p0))
    (hB : Wt Try.prog reachBytes 59 d0) : ∃ l : List Po, Rd w 4 v0 l.length (l.flatMap cellsPo) ∧ ∀ x ∈ l, (U32 x.c ∧ U32 x.a) ∧ R64 x.q ∧ R64 x.b := by
  have hag : v0.cells.toList = [v0] := by
    unfold Value.okWide at hv0
    rw [Try.underlying59] at hv0
    simp only [Cell.okWide, Try.underlying59] at hv0
    unfold Cell.ok at hv0
    rw [Try.underlying59] at hv0
    cases v0 <;> first | rfl | exact hv0.elim
  obtain ⟨fuel, h0⟩ := h0
  rw [hag] at h0
  obtain ⟨v, e, L, hl, -, hL⟩ := rd_rows (sz := 4) Try.underlying59 (by kernel_rfl) (by omega) h0 hB
  cases e
  obtain ⟨l, rfl, hok⟩ := list_choose (f := cellsPo) (Q := fun x => (U32 x.c ∧ U32 x.a) ∧ R64 x.q ∧ R64 x.b) fun c hc => by
    obtain ⟨h1, f', y, h2, h3⟩ := hL c hc
    exact open_po h1 h2 h3
  rw [List.length_map, ← List.flatMap_def] at hl
  exact ⟨l, hl, hok⟩

set_option maxRecDepth 100000 in
theorem lifted (os : Os) (started : os.Started) (H : Type) (enc : TypeId × Value → H) :
    ReturnsInHanded {} Try.checked os 7 .any (Rows.ledgerFromSpec.pre6 enc Try.prog Try.f7 Rows.ledgerFromRow.domain false) (Rows.ledgerFromSpec.post enc Try.prog Try.f7 false true false false) := by
  refine returnsInHanded_of_change_sized (C := Try.checked) own started (by kernel_rfl) Try.func7
    (ChangeSpec.witness6 (enc := enc) (C := Try.checked) false ⟨#[], #[.int .i64 0, .slice none 0 0, .slice none 0 0], []⟩ 8 (by kernel_rfl) (by kernel_rfl) (by kernel_rfl) (by kernel_rfl)) ?_
  intro W base args ds gs before hval0 hW hcnd hwt0 _
  have hval : ∀ (j : Nat) t v, Try.f7.params[j]? = some t → args[j]? = some v → Value.okWide Try.prog W .any base t v := hval0
  have hwt : (DataW.weightsEach Try.prog (Try.f7.params.toList ++ []) (ds ++ gs)).all (· ≤ reachBytes) = true := hwt0
  have hW' := hW
  obtain ⟨p, q, hA0, hV, rfl, hfz, hnd⟩ := hW
  have hA : DataW.TrodAll enc Try.prog W 0 (fun _ => true) true Try.f7.params.toList args.toList ds p := hA0
  rw [Try.params7] at hA hval hwt
  obtain ⟨v0, vs0, d0, ds0, p0, q0, hargs, rfl, rfl, h0, hA⟩ := trodAll_cons hA
  obtain ⟨v1, vs1, d1, ds1, p1, q1, rfl, rfl, rfl, h1, hA⟩ := trodAll_cons hA
  obtain ⟨v2, vs2, d2, ds2, p2, q2, rfl, rfl, rfl, h2, hA⟩ := trodAll_cons hA
  obtain ⟨rfl, rfl, rfl⟩ := trodAll_nil hA
  obtain rfl : args = #[v0, v1, v2] := by cases args; simp_all
  obtain ⟨rfl, rfl⟩ := trodVars_none hV
  have hB1 : Wt Try.prog reachBytes 58 d1 := by
    intro m hm
    have := List.all_eq_true.1 hwt m (by simp only [List.append_nil, DataW.weightsEach, List.mem_append]; first | exact .inr (.inl hm) | exact .inr (.inr hm) | exact .inr (.inr (.inl hm)))
    simpa using this
  have hB2 : Wt Try.prog reachBytes 59 d2 := by
    intro m hm
    have := List.all_eq_true.1 hwt m (by simp only [List.append_nil, DataW.weightsEach, List.mem_append]; first | exact .inr (.inl hm) | exact .inr (.inr hm) | exact .inr (.inr (.inl hm)))
    simpa using this
  obtain ⟨f, rfl, rfl, rfl, wf⟩ := open_int Try.underlying2 (hval 0 2 v0 rfl rfl) h0
  obtain ⟨A, hlA, hokA⟩ := open_acs (hval 1 58 v1 rfl rfl) h1 hB1
  obtain ⟨P, hlP, hokP⟩ := open_pos (hval 2 59 v2 rfl rfl) h2 hB2
  clear hA0 hval0
  refine Calls.mono (ca_lawFrom (K := fun v w' => v = .bool true ∧ Mod (fun _ => False) W w') hlA hlP (fun a ha => (hokA a ha).1) hokP fun w' hm => ⟨rfl, hm⟩).out ?_
  rintro e W' ⟨v, rfl, rfl, hm⟩
  exact ⟨_, rfl, post_of_mod laidOut (by kernel_rfl) rfl hW' hm (by kernel_rfl) Try.underlying4 rfl⟩

theorem holds : Rows.LedgerFromSaid :=
  OpenClaim.holds_of_wide 7 Try.f7 rfl rfl rfl rfl rfl rfl rfl ⟨rfl, rfl, rfl, rfl, rfl⟩ rfl rfl rfl rfl rfl (by kernel_rfl) Try.func7 (by kernel_rfl)
    (of_decide_eq_true (by kernel_rfl)) (by unfold Func.isWrapper; first | (rw [if_pos (by decide +kernel)]; kernel_rfl) | (rw [if_neg (by decide +kernel)]; exact ⟨rfl, rfl⟩))
    (fun os started H enc _ => lifted os started H enc)
end Go.Proofs.Ytanjfianhnhhmaa.ledgerFrom
