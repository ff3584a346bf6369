/-
  A new machine; bytes that are not its client's next turn; the law on turns.
  Conditions: where they ask for any, each theorem names them.
-/
import Derived.Test.YtaagfdkamogkoaaGreatWireT
set_option linter.unusedVariables false
set_option linter.unusedSimpArgs false
namespace Go.Proofs
open Go Go.Vc
attribute [local congr] Ca_congV

def encU64 (n : Nat) : Value := .int .u64 n
def encU32 (n : Nat) : Value := .int .u32 n
def kepV (p : Nat × Value) : Value := .agg #[.int .u64 p.1, p.2]
def accV (x : Value) : Value := x
theorem uU64 : Tryz.prog.underlying 22 = some (.int .u64) := by kernel_rfl
theorem uU32' : Tryz.prog.underlying 79 = some (.int .u32) := by kernel_rfl
theorem keyT_nat {P : Program} {k : TypeId} {kd : IntKind} (h : P.underlying k = some (.int kd)) : KeyT P k (fun n : Nat => Value.int kd n) := by
  have hk := KeyT.int h
  refine ⟨fun w em x => hk.check w em (x : Int), fun w x es ks he => ?_, fun w x => hk.stays w (x : Int)⟩
  have he' : es.map (·.key) = (ks.map fun n : Nat => (n : Int)).map fun n => Value.int kd n := by rw [he, List.map_map]; rfl
  rcases hk.same w (x : Int) es (ks.map fun n : Nat => (n : Int)) he' with ⟨h1, h2⟩ | ⟨i, v, h1, h2, h3, h4⟩
  · refine .inl ⟨h1, fun hx => h2 (List.mem_map.2 ⟨x, hx, rfl⟩)⟩
  · refine .inr ⟨i, v, h1, h2, ?_, fun j hj hx => h4 j hj ?_⟩
    · rw [List.getElem?_map] at h3
      cases hh : ks[i]? with
      | none => rw [hh] at h3; cases h3
      | some y =>
        rw [hh] at h3
        have : (y : Int) = x := Option.some.inj h3
        rw [show y = x by omega]
    · rw [List.getElem?_map, hx]; rfl
theorem kU64 : KeyT Tryz.prog 22 encU64 := keyT_nat uU64
theorem kU32' : KeyT Tryz.prog 79 encU32 := keyT_nat uU32'
theorem uMapK : Tryz.prog.underlying 54 = some (.map 22 58) := by kernel_rfl
theorem zKep : zeroOfT Tryz.prog 58 = some (kepV (0, nilS)) := by kernel_rfl
theorem uMapA' : Tryz.prog.underlying 95 = some (.map 79 94) := by kernel_rfl
theorem MapAt.empty {κ ν : Type} {enc : κ → Value} {ev : ν → Value} {w : World} {b : Nat} (h : hp w b = some (.map #[] 0)) : MapAt enc ev w b [] :=
  ⟨List.nodup_nil, #[], 0, h, rfl, fun x hx => by simp at hx, by simp⟩

theorem fldKep (n : Nat) (x : Value) (W : World) : (Instr.field 58 (.agg #[.int .u64 n, x]) 0).run Tryz.prog W = .ok (.int .u64 n) W := by
  simp [Instr.field, go_sem, part, isAgg, asAgg]

theorem ca_lnew {w : World} {K : Kont} (hK : ∀ b w', Mod (fun _ => False) w w' → K (.pointer (some ⟨b, 0, none⟩)) w') : Ca Tryz.prog 34 #[] w K := by
  apply ca34
  unfold F34
  have m1 : Mod (fun _ => False) w (w.alloc (.map #[] 0)) := (Mod.refl _ w).alloc _
  refine rvS (v := .map (some w.heap.size)) (w' := w.alloc (.map #[] 0)) (by simp [go_sem]) ?_
  obtain ⟨p, hp0⟩ : ∃ p, p = w.heap.size := ⟨_, rfl⟩
  have hb : MapAt encU32 accV (w.alloc (.map #[] 0)) p [] := MapAt.empty (by rw [hp0]; simp [go_sem])
  rw [← hp0]
  generalize w.alloc (.map #[] 0) = w1 at m1 hb ⊢
  refine rvS (v := .agg #[.int .u32 0, .int .i64 0, .bool false, .bool false]) (w' := w1) (by simp [go_sem]) ?_
  show rux Tryz.prog (xMapUp 95 (.map (some p)) (encU32 0) (accV (.agg #[.int .u32 0, .int .i64 0, .bool false, .bool false]))) w1 _
  refine rux_mapUp (x := (0 : Nat)) (v := (.agg #[.int .u32 0, .int .i64 0, .bool false, .bool false] : Value)) uMapA' kU32' hb fun w2 _ m2 hs2 => ?_
  have M2 : Mod (fun _ => False) w w2 := m1.on m2 fun b hb => .inr (by rw [hb, hp0]; exact Nat.le_refl _)
  simp [go_sem]
  exact hK _ _ ((M2.alloc _).alloc _)
theorem ca_cnew {w : World} {K : Kont} (hK : ∀ b w', Mod (fun _ => False) w w' → K (.pointer (some ⟨b, 0, none⟩)) w') : Ca Tryz.prog 33 #[] w K := by
  apply ca33
  unfold F33
  simp [go_sem]
  exact hK _ _ ((Mod.refl _ w).alloc _)
theorem ca_vnew {w : World} {K : Kont} (hK : ∀ b w', Mod (fun _ => False) w w' → K (.pointer (some ⟨b, 0, none⟩)) w') : Ca Tryz.prog 25 #[] w K := by
  apply ca25
  unfold F25
  refine ca_cnew fun b1 w1 m1 => ?_
  refine ca_lnew fun b2 w2 m2 => ?_
  simp [go_sem]
  exact hK _ _ ((((m1.trans m2).alloc _).alloc _).alloc _)
/-- A machine that has done nothing, at m. -/
structure MchAt (w : World) (m : Nat) : Prop where
  out : ∃ v mm, hp w m = some (.cells #[.pointer (some ⟨v, 0, none⟩), .map (some mm)] 56 (0, 0)) ∧ MapAt encU64 kepV w mm []
theorem MchAt.mod {w w' : World} {m : Nat} (h : MchAt w m) (hm : Mod (fun _ => False) w w') : MchAt w' m := by
  obtain ⟨v, mm, h1, h2⟩ := h.out
  exact ⟨v, mm, hm.hpk h1 id, h2.mod hm id⟩
theorem ca_snew {w : World} {K : Kont} (hK : ∀ m w', MchAt w' m → Mod (fun _ => False) w w' → K (.pointer (some ⟨m, 0, none⟩)) w') : Ca Tryz.prog 10 #[] w K := by
  apply ca10
  unfold F10
  refine ca_vnew fun b w1 m1 => ?_
  simp [go_sem]
  refine hK _ _ ⟨b, w1.heap.size, ?_, MapAt.empty ?_⟩ ((m1.alloc _).alloc _)
  · simp [go_sem]
  · simp [go_sem]

/-- Bytes that are no first turn do nothing. -/
theorem ca_sapply {w : World} {K : Kont} {m : Nat} {v : Value} {l : List UInt8} (h : MchAt w m) (hv : Rd w 1 v l.length (bv l)) (hl : l.length ≤ 1000000000) (hq : (rdT l).2 ≠ 0 ∨ (rdT l).1.q ≠ 1) (hq' : (rdT l).1.q < 18446744073709551616)
    (hK : ∀ w', Mod (fun _ => False) w w' → K (.tuple #[.int .u64 0, .int .u64 0, .bool false]) w') : Ca Tryz.prog 11 #[.pointer (some ⟨m, 0, none⟩), v] w K := by
  apply ca11
  unfold F11
  refine ca_sread hv hl fun v2 w1 o1 m1 n1 => ?_
  generalize rdT l = T at *
  refine rvS (v := tnV T.1.c T.1.q v2) (w' := w1) (by simp [go_sem]) ?_
  refine rvS (v := .int .i64 T.2) (w' := w1) (by simp [go_sem]) ?_
  have m2 : Mod (fun _ => False) w1 (w1.alloc (.cells #[.int .u64 0, .int .u64 0, .slice none 0 0] 25)) := (Mod.refl _ w1).alloc _
  refine rvS (v := .pointer (some ⟨w1.heap.size, 0, none⟩)) (w' := w1.alloc (.cells #[.int .u64 0, .int .u64 0, .slice none 0 0] 25)) (by simp [go_sem]) ?_
  obtain ⟨p, hp0⟩ : ∃ p, p = w1.heap.size := ⟨_, rfl⟩
  have hb2 : hp (w1.alloc (.cells #[.int .u64 0, .int .u64 0, .slice none 0 0] 25)) p = some (.cells #[.int .u64 0, .int .u64 0, .slice none 0 0] 25 (0, 0)) := by rw [hp0]; simp [go_sem]
  rw [← hp0]
  have hpw : w.heap.size ≤ p := by have := m1.size; omega
  generalize w1.alloc (.cells #[.int .u64 0, .int .u64 0, .slice none 0 0] 25) = w2 at m2 hb2 ⊢
  obtain ⟨a2, c2, hv2, -⟩ := o1.isSl
  obtain ⟨w3, hs3, b3, m3⟩ := stTn (x := T.1.c) (y := T.1.q) (v := v2) hb2 ⟨_, _, _, hv2⟩
  refine ruS hs3 ?_
  have M3 : Mod (fun _ => False) w w3 := (m1.trans m2).on m3 fun b hb => .inr (by rw [hb]; exact hpw)
  have h3 := h.mod M3
  obtain ⟨vv, mm, hm3, hA3⟩ := h3.out
  refine JoinW.at (fun st W => st = (.bool (decide (T.2 ≠ 0)), ()) ∧ W = w3) ?_ ?_
  · apply ca26
    unfold F26
    refine rvS (v := .bool false) (w' := w3) (by simp [go_sem]) ?_
    rw [ifB_bool, if_neg Bool.false_ne_true]
    simp only [nilK_ptr]
    refine rvS (v := .pointer (some ⟨m, 0, none⟩)) (w' := w3) (by simp [go_sem]) ?_
    refine rvS (v := .pointer (some ⟨vv, 0, none⟩)) (w' := w3) (by simp [go_sem, hm3]) ?_
    refine rvS (v := .bool false) (w' := w3) (by simp [go_sem]) ?_
    rw [ifB_bool, if_neg Bool.false_ne_true]
    refine rvS (v := .bool false) (w' := w3) (by simp [go_sem]) ?_
    rw [ifB_bool, if_neg Bool.false_ne_true]
    by_cases he : T.2 = 0
    · refine rvS (v := .bool false) (w' := w3) (by simp [go_sem, he]) ?_
      simp [he]
    · refine rvS (v := .bool true) (w' := w3) (by simp [go_sem]; omega) ?_
      simp [he]
  rintro _ w3 ⟨rfl, rfl⟩
  unfold J11_1
  intro _
  by_cases he : T.2 = 0
  · rw [ifB_bool, if_neg (by simp [he])]
    have hq1 : T.1.q ≠ 1 := by rcases hq with h | h; exact absurd he h; exact h
    simp only [nilK_ptr]
    have md : Mod (fun _ => False) w3 w3.drew := (Mod.refl _ w3).drew
    have hmd := md.hpk hm3 id
    have bd := md.hpk b3 id
    have Ad := hA3.mod md id
    have Md := M3.trans md
    generalize w3.drew = w4 at hmd bd Ad Md ⊢
    refine rdPS (v := .pointer (some ⟨m, 1, none⟩)) (fun W => by simp [go_sem]) ?_
    refine rdWS (v := .map (some mm)) (by simp [go_sem, hmd]) ?_
    refine rdPS (v := .pointer (some ⟨p, 0, none⟩)) (fun W => by simp [go_sem]) ?_
    refine rdWS (v := encU64 T.1.c) (by simp [go_sem, bd, encU64]) ?_
    refine rdX_look (kepV (0, nilS)) uMapK kU64 zKep (.inr ⟨mm, rfl, Ad⟩) ?_
    simp only [lk, Option.elim, kepV]
    refine rdPS (v := .int .u64 0) (fun W => fldKep 0 nilS W) ?_
    refine JoinW.at (fun st W => st = (.bool true, ()) ∧ W = w4) ?_ ?_
    · refine rvS (v := .bool false) (w' := w4) (by simp [go_sem]) ?_
      rw [ifB_bool, if_neg Bool.false_ne_true]
      refine rvS (v := .pointer (some ⟨p, 1, none⟩)) (w' := w4) (by simp [go_sem]) ?_
      refine rvS (v := .int .u64 T.1.q) (w' := w4) (by simp [go_sem, bd]) ?_
      refine rvS (v := .int .u64 1) (w' := w4) (by simp [go_sem]; try rw [wrapU (by omega) (by omega)]) ?_
      refine rvS (v := .bool true) (w' := w4) (by simp [go_sem]; omega) ?_
      exact ⟨rfl, rfl⟩
    rintro _ _ ⟨rfl, rfl⟩
    unfold J11_0
    intro _
    rw [ifB_bool, if_pos rfl]
    exact hK _ Md
  · rw [ifB_bool, if_pos (by simpa using he)]
    exact hK _ M3

theorem ca_slast {w : World} {K : Kont} {m c : Nat} (h : MchAt w m) (hK : K (.int .u64 0) w) : Ca Tryz.prog 12 #[.pointer (some ⟨m, 0, none⟩), encU64 c] w K := by
  obtain ⟨vv, mm, hm, hA⟩ := h.out
  apply ca12
  unfold F12
  refine rvS (v := .bool false) (w' := w) (by simp [go_sem]) ?_
  rw [ifB_bool, if_neg Bool.false_ne_true]
  simp only [nilK_ptr]
  refine rvS (v := .pointer (some ⟨m, 1, none⟩)) (w' := w) (by simp [go_sem]) ?_
  refine rvS (v := .map (some mm)) (w' := w) (by simp [go_sem, hm]) ?_
  refine rx_look (kepV (0, nilS)) uMapK kU64 zKep (.inr ⟨mm, rfl, hA⟩) ?_
  simp only [lk, Option.elim, kepV]
  refine rvS (v := .int .u64 0) (w' := w) (fldKep 0 nilS w) ?_
  exact hK

/-- The law's known turn. -/
theorem ca_sknown {w : World} {K : Kont} (hK : ∀ w', Mod (fun _ => False) w w' → K (.bool true) w') : Ca Tryz.prog 4 #[] w K := by
  apply ca4
  unfold F4
  refine rx_lit [.int .u8 120] uBs (elemT_of u8E) rfl rfl (by simp [Value.cells]) (by omega) ?_
  have m1 : Mod (fun _ => False) w (w.alloc (.cells #[.int .u8 120] 5)) := (Mod.refl _ w).alloc _
  have e0 : (([.int .u8 120] : List Value).flatMap (·.cells.toList)).toArray = #[.int .u8 120] := rfl
  rw [e0]
  have hb1 : (w.alloc (.cells #[.int .u8 120] 5)).heap[w.heap.size]? = some (.cells #[.int .u8 120] 5 (0, 0)) := by rw [heap_alloc, if_pos rfl]
  refine rx_mark uBs uU8 hb1 ?_
  have m2 : Mod (fun _ => False) w ((w.alloc (.cells #[.int .u8 120] 5)).freeze ⟨w.heap.size, 1, none⟩ 1) := m1.freeze (.inr (Nat.le_refl _)) _
  have r2 : Rd ((w.alloc (.cells #[.int .u8 120] 5)).freeze ⟨w.heap.size, 1, none⟩ 1) 1 (.slice (some ⟨w.heap.size, 0, none⟩) 1 1) 1 (bv [120]) := by
    refine ⟨rfl, .inr ⟨_, 0, 1, rfl, Nat.le_refl _, ⟨#[.int .u8 120], 5, markFz (0, 0) 1, ?_, by simp, rfl⟩⟩⟩
    rw [heap_freeze1, if_pos rfl, hb1]
  show rv _ _ ((w.alloc (.cells #[.int .u8 120] 5)).freeze ⟨w.heap.size, 1, none⟩ 1) _
  generalize (w.alloc (.cells #[.int .u8 120] 5)).freeze ⟨w.heap.size, 1, none⟩ 1 = w2 at m2 r2 ⊢
  refine rvS (v := tnV 1 2 (.slice (some ⟨w.heap.size, 0, none⟩) 1 1)) (w' := w2) (by simp [go_sem, tnV]) ?_
  refine ca_sbytes (o := ⟨1, 2, [120]⟩) r2 (by decide) (by decide) (by decide) fun s l e w3 hle o3 m3 n3 => ?_
  have hmay : (⟨1, 2, [120]⟩ : Tn).May := by decide
  rw [if_pos hmay] at hle
  obtain ⟨hl, rfl⟩ := hle
  have hT : turnB ⟨1, 2, [120]⟩ = [1, 2, 1, 120] := by
    simp [turnB, textB, natB_lt]
  rw [hT] at hl
  subst hl
  refine rvS (v := s) (w' := w3) (by simp [go_sem]) ?_
  refine rvS (v := .int .i64 0) (w' := w3) (by simp [go_sem]) ?_
  refine ca_snew fun m w4 h4 m4 => ?_
  have hR : rdT [1, 2, 1, 120] = (⟨1, 2, [120]⟩, 0) := by
    unfold rdT
    rw [← hT, turnR_of hmay (by decide)]
  refine ca_sapply (l := [1, 2, 1, 120]) h4 (o3.mod m4 fun _ _ h => h).rd (by decide) (.inr (by rw [hR]; decide)) (by rw [hR]; decide) fun w5 m5 => ?_
  refine rvS (v := .int .u64 0) (w' := w5) (by simp [go_sem]) ?_
  refine rvS (v := .int .u64 0) (w' := w5) (by simp [go_sem]) ?_
  refine rvS (v := .bool false) (w' := w5) (by simp [go_sem]) ?_
  refine rvS (v := .bool true) (w' := w5) (by simp [go_sem]) ?_
  rw [ifB_bool, if_pos rfl]
  refine rx_toStr uBs uU8 uStr ((o3.mod m4 fun _ _ h => h).mod m5 fun _ _ h => h).rd ?_
  refine rvS (v := .bool true) (w' := w5) (by simp [go_sem]; try rfl) ?_
  rw [ifB_bool, if_pos rfl]
  refine rvS (v := .bool true) (w' := w5) (by simp [go_sem]) ?_
  rw [ifB_bool, if_pos rfl]
  refine ca_slast (c := 1) (h4.mod m5) ?_
  refine rvS (v := .bool true) (w' := w5) (by simp [go_sem]) ?_
  exact hK _ (((m2.trans m3).trans m4).trans m5)
end Go.Proofs
