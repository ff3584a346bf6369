/-
  The contracts of law21's tried and broken.
  Conditions: where they ask for any, each theorem names them.
-/
import Derived.Test.YteldcaeicgobfaaShotP4
import Derived.Test.YteldcaeicgobfaaVoteE
set_option linter.unusedVariables false
set_option linter.unusedSimpArgs false
namespace Go.Proofs
open Go Go.Vc

theorem ca_tried21 {w : World} {K : Kont} {ts : List TryM} {a0 : Value} (h : Rd w 3 a0 ts.length (ts.flatMap tryCells)) (hok : ∀ t ∈ ts, TryOk w t) (hK : K (.bool (triedB ts)) w) : Ca Try.prog 45 #[a0] w K := by
  obtain ⟨la, lc, rfl⟩ := h.isSl
  apply ca45
  unfold F45
  simp [go_sem]
  by_cases h6 : ts.length ≤ 6
  · have h6' : ¬ (6 : Int) < ts.length := by omega
    simp only [h6', if_false]
    unfold L45_1
    refine loopK (fun s W => ∃ (i : Nat) (x : Value), i ≤ ts.length ∧ s = (x, .int .i64 i, ()) ∧ W = w ∧ (ts.take i).all goodT = true)
      (fun s _ => match s.2.1 with | .int _ i => ts.length - i.toNat | _ => 0) ⟨0, _, by omega, rfl, rfl, by simp⟩ ?_
    rintro ⟨_, _⟩ W ⟨i, x, hi, ⟨⟩, rfl, hg⟩ KN hKN _
    have hw1 : IntKind.i64.wrap ((i : Int) + 1) = ((i + 1 : Nat) : Int) := by rw [IntKind.wrap_i64]; omega
    by_cases hlt : i < ts.length
    · obtain ⟨b, off, cap, C, e, fz, hv, hC, c0, c1, c2⟩ := try_cells h hlt
      have ho := hok _ (List.getElem_mem hlt)
      have htk : (ts.take (i + 1)).all goodT = goodT ts[i] := by
        rw [List.take_succ_eq_append_getElem hlt, List.all_append, hg]
        simp
      have hal : goodT ts[i] = false → triedB ts = false := fun hb => by
        unfold triedB
        rw [Bool.and_eq_false_iff]
        right
        rw [← List.take_append_drop (i + 1) ts, List.all_append, htk, hb]
        rfl
      obtain ⟨t, hto⟩ : ∃ t, ts[i] = t := ⟨_, rfl⟩
      rw [hto] at c0 c1 c2 ho htk hal
      obtain ⟨ba, bc, hoB⟩ := ho.rd.isSl
      rw [hoB] at c2
      rw [hv]
      have hlt' : (i : Int) < ts.length := by omega
      simp [-Int.natCast_add, go_sem, hlt, hC, c0, c1, c2]
      refine joinK (fun s W2 => W2 = W ∧ s = (Value.bool (!goodT t), ())) (fun JJ hJJ => ?_) ?_
      · by_cases hk0 : t.keep < 0
        · simp [hk0]
          exact hJJ _ _ ⟨rfl, by have : ¬ (0 : Int) ≤ t.keep := by omega
                                 simp [goodT, this]⟩
        · simp [hk0]
          refine hJJ _ _ ⟨rfl, ?_⟩
          have : (0 : Int) ≤ t.keep := by omega
          by_cases hb : t.bs.length ≤ 1000
          · simp [goodT, this, hb]; omega
          · simp [goodT, this, hb]; omega
      rintro _ _ ⟨rfl, rfl⟩
      unfold J45_0
      intro _
      cases hg' : goodT t
      · simp
        rw [hal hg'] at hK
        exact hK
      · simp [-Int.natCast_add, go_sem, hw1]
        exact hKN _ _ ⟨i + 1, _, hlt, rfl, rfl, htk.trans hg'⟩ (by simp; omega)
    · have : i = ts.length := by omega
      subst this
      have hT : triedB ts = true := by
        unfold triedB
        rw [List.take_length] at hg
        simp [h6, hg]
      rw [hT] at hK
      simp [go_sem]
      exact hK
  · have h6' : (6 : Int) < ts.length := by omega
    have hT : triedB ts = false := by simp [triedB, h6]
    rw [hT] at hK
    simp [h6']
    exact hK

theorem rn_lenT21 {a : Option Addr} {n c : Nat} {w : World} {K : Kont} (hK : K (.int .i64 (n : Int)) w) : rn Try.prog (builtin .len #[96] 3 #[false] #[.slice a n c]) w K := by
  simp [go_sem]
  exact hK
theorem rn_lenO21 {a : Option Addr} {n c : Nat} {w : World} {K : Kont} (hK : K (.int .i64 (n : Int)) w) : rn Try.prog (builtin .len #[95] 3 #[false] #[.slice a n c]) w K := by
  simp [go_sem]
  exact hK
def fs42 : Nat → Int := fun i => if i = 0 then 4 else 2
theorem fs42_ne : fs42 0 ≠ fs42 1 := by decide
theorem fs42_ok (j : Nat) : 0 ≤ fs42 j ∧ fs42 j < 5 := by
  unfold fs42
  split <;> omega

set_option maxRecDepth 10000 in
theorem ca_broken21 {w0 w : World} {K : Kont} {d : Nat} {F : Nat → Prop} {D : DM} {ts : List TryM} {a1 : Value} {k : Nat} {m : ShotM} {m' : Option ShotM} (h : DiskR w d F D) (hpd : SPend D fs42 k m m') (harm : D.armed = false)
    (hr : Rd w0 3 a1 ts.length (ts.flatMap tryCells)) (hok : ∀ t ∈ ts, TryOk w0 t) (ht : triedB ts = true) (m0 : Mod (fun _ => False) w0 w) (hF : ∀ b, F b → w0.heap.size ≤ b)
    (hK : ∀ w' F' D', DiskR w' d F' D' → SPend D' fs42 k m m' → D'.armed = false → Stp F w w' F' → K (.bool true) w') : Ca Try.prog 46 #[dptr d, a1] w K := by
  obtain ⟨la, lc, rfl⟩ := hr.isSl
  have h6 : ts.length ≤ 6 ∧ ∀ t ∈ ts, 0 ≤ t.keep := by
    unfold triedB at ht
    rw [Bool.and_eq_true, List.all_eq_true] at ht
    refine ⟨by simpa using ht.1, fun t h => ?_⟩
    have := ht.2 t h
    simp [goodT] at this
    exact this.1
  apply ca46
  unfold F46
  unfold L46_1
  refine loopK (fun s W => ∃ (i : Nat) (x : Value) (D' : DM) (F' : Nat → Prop), i ≤ ts.length ∧ s = (x, .int .i64 i, ()) ∧ DiskR W d F' D' ∧ SPend D' fs42 k m m' ∧ D'.armed = false ∧ Stp F w W F')
    (fun s _ => match s.2.1 with | .int _ i => ts.length - i.toNat | _ => 0) ⟨0, _, D, F, by omega, rfl, h, hpd, harm, Stp.refl _ _⟩ ?_
  rintro ⟨_, _⟩ W ⟨i, x, D1, F1, hi, ⟨⟩, d1, p1, a1, s1⟩ KN hKN _
  have hw1 : IntKind.i64.wrap ((i : Int) + 1) = ((i + 1 : Nat) : Int) := by rw [IntKind.wrap_i64]; omega
  by_cases hlt : i < ts.length
  · obtain ⟨b, off, cap, C, e, fz, hv, hC, c0, c1, c2⟩ := try_cells hr hlt
    have ho := hok _ (List.getElem_mem hlt)
    have hk0 := h6.2 _ (List.getElem_mem hlt)
    obtain ⟨t, hto⟩ : ∃ t, ts[i] = t := ⟨_, rfl⟩
    rw [hto] at c0 c1 c2 ho hk0
    obtain ⟨ba, bc, hoB⟩ := ho.rd.isSl
    rw [hoB] at c2
    rw [hv]
    have hlt' : (i : Int) < ts.length := by omega
    have mW : Mod (fun _ => False) w0 W := m0.on s1.mod fun b hb => .inr (hF b hb)
    have F1old : ∀ b, F1 b → w0.heap.size ≤ b := fun b hb => by
      rcases s1.sub b hb with h | h
      · exact hF b h
      · have := m0.size; omega
    have hC0 : ∀ W', Mod (fun _ => False) w0 W' → hp W' b = some (.cells C e fz) := fun W' m => m.keep hC id
    have hCW := hC0 W mW
    have hsl := slot_conv (k := 9) (by omega) (by omega) t.arm
    rw [show ((9 : Nat) : Int) = 9 from rfl] at hsl
    have hs9 := slot_lt (k := 9) (by omega) t.arm
    obtain ⟨ar1, ar2⟩ := p1.arm (a := (slot 9 t.arm : Int)) (by omega)
    have ix : ∀ W, (Instr.indexAt 96 (.slice (some ⟨b, off, none⟩) ts.length cap) (.int .i64 i)).run Try.prog W = .ok (.pointer (some ⟨b, off + i * 3, none⟩)) W := fun W => by simp [go_sem, hlt]
    have f0 : ∀ W, (Instr.fieldAt 140 (.pointer (some ⟨b, off + i * 3, none⟩)) 0).run Try.prog W = .ok (.pointer (some ⟨b, off + i * 3, none⟩)) W := fun W => by simp [go_sem]
    have f1 : ∀ W, (Instr.fieldAt 140 (.pointer (some ⟨b, off + i * 3, none⟩)) 1).run Try.prog W = .ok (.pointer (some ⟨b, off + (i * 3 + 1), none⟩)) W := fun W => by simp [go_sem]
    have f2 : ∀ W, (Instr.fieldAt 140 (.pointer (some ⟨b, off + i * 3, none⟩)) 2).run Try.prog W = .ok (.pointer (some ⟨b, off + (i * 3 + 2), none⟩)) W := fun W => by simp [go_sem]
    have l0 : ∀ W, Mod (fun _ => False) w0 W → (Instr.loadAt 3 (.pointer (some ⟨b, off + i * 3, none⟩))).run Try.prog W = .ok (.int .i64 t.arm) W := fun W m => by simp [go_sem, hC0 W m, c0]
    have l1 : ∀ W, Mod (fun _ => False) w0 W → (Instr.loadAt 3 (.pointer (some ⟨b, off + (i * 3 + 1), none⟩))).run Try.prog W = .ok (.int .i64 t.keep) W := fun W m => by simp [go_sem, hC0 W m, c1]
    have l2 : ∀ W, Mod (fun _ => False) w0 W → (Instr.loadAt 23 (.pointer (some ⟨b, off + (i * 3 + 2), none⟩))).run Try.prog W = .ok (.slice ba t.bs.length bc) W := fun W m => by simp [go_sem, hC0 W m, c2]
    refine rn_lenT21 ?_
    refine rv_of (v := .bool true) (w' := W) (by simp [go_sem, hlt']) ?_
    rw [ifB_bool, if_pos rfl]
    refine rv_of (ix W) ?_
    refine rv_of (f0 W) ?_
    refine rv_of (l0 W mW) ?_
    refine rv_of (v := .int .u64 (IntKind.u64.wrap t.arm)) (w' := W) (by simp [go_sem]) ?_
    refine rv_of (v := .int .u64 ((IntKind.u64.wrap t.arm).tmod 9)) (w' := W) (by simp [go_sem]) ?_
    refine rv_of (v := .int .i64 (slot 9 t.arm : Int)) (w' := W) (by simp [go_sem, hsl]) ?_
    refine ca_arm d1 (by omega) fun W2 d2 m2 => ?_
    rw [ar1]
    refine rv_of (v := .bool false) (w' := W2) (by simp [go_sem]) ?_
    rw [ifB_bool, if_neg (by simp)]
    generalize (D1.arm (slot 9 t.arm : Int)).2 = D2 at d2 ar2
    have s2 : Stp F w W2 F1 := s1.trans ⟨m2.mono fun b _ hb => hb ▸ d1.self, fun b hb => .inl hb⟩
    obtain ⟨o1, o2, -, o4⟩ := open_law d2.len fs42_ne fs42_ok ar2
    have hD2w : D2.waits.length < 137438953472 := by rw [ar2.waits]; decide
    -- behind the opening: the crash
    have fin : ∀ W3 F3, DiskR W3 d F3 (D2.sopen fs42).2.D → Stp F w W3 F3 → ∀ JJ : Value × Unit → World → Prop, (∀ W4, (∃ F4 D4, DiskR W4 d F4 D4 ∧ SPend D4 fs42 k m m' ∧ D4.armed = false ∧ Stp F w W4 F4) → JJ (.bool false, ()) W4) →
        rdP Try.prog (Instr.indexAt 96 (.slice (some ⟨b, off, none⟩) ts.length cap) (.int .i64 i)) fun v37 => rdP Try.prog (Instr.fieldAt 140 v37 1) fun v38 => rdW Try.prog (Instr.loadAt 3 v38) W3 fun v39 =>
        rdP Try.prog (Instr.indexAt 96 (.slice (some ⟨b, off, none⟩) ts.length cap) (.int .i64 i)) fun v40 => rdP Try.prog (Instr.fieldAt 140 v40 2) fun v41 => rdW Try.prog (Instr.loadAt 23 v41) W3 fun v42 =>
        Ca Try.prog 19 #[dptr d, v39, v42] W3 fun v43 w44 => rdP Try.prog (bin .neq 28 true v43 (.int .i64 0)) fun v45 => JJ (v45, ()) w44 := by
      intro W3 F3 d3 s3 JJ hJJ
      have m3 : Mod (fun _ => False) w0 W3 := m0.on s3.mod fun b hb => .inr (hF b hb)
      have F3old : ∀ b, F3 b → w0.heap.size ≤ b := fun b hb => by
        rcases s3.sub b hb with h | h
        · exact hF b h
        · have := m0.size; omega
      refine rdP_of ix ?_
      refine rdP_of f1 ?_
      refine rdW_of (l1 W3 m3) ?_
      refine rdP_of ix ?_
      refine rdP_of f2 ?_
      refine rdW_of (l2 W3 m3) ?_
      have hrd := ho.rd
      have hkr := ho.keep
      rw [hoB] at hrd
      obtain ⟨kp, hkp⟩ : ∃ kp : Nat, t.keep = (kp : Int) := ⟨t.keep.toNat, by omega⟩
      rw [hkp] at hkr ⊢
      refine ca_crash (keep := kp) (torn := t.bs) d3 (by omega) (by have := hkr.2; omega) (hrd.mod m3 fun _ _ h => h) (fun b' hb' => ?_) fun W4 F4 d4 s4 => ?_
      · have := hrd.lt hb'
        exact ⟨fun h => by have := F3old b' h; omega, by have := m3.size; omega⟩
      refine rdP_of (v := .bool false) (fun w => by simp [go_sem]) ?_
      exact hJJ W4 ⟨F4, _, d4, o2 kp t.bs, rfl, s3.trans s4⟩
    have fin2 : ∀ y W4, (∃ F4 D4, DiskR W4 d F4 D4 ∧ SPend D4 fs42 k m m' ∧ D4.armed = false ∧ Stp F w W4 F4) → J46_0 K (y, .int .i64 i, ()) KN (.bool false, ()) W4 := by
      rintro y W4 ⟨F4, D4, d4, p4, a4, s4⟩
      unfold J46_0
      intro _
      rw [ifB_bool, if_neg (by simp)]
      refine rv_of (v := .int .i64 ((i + 1 : Nat) : Int)) (w' := W4) (by simp [-Int.natCast_add, go_sem, hw1]) ?_
      exact hKN _ _ ⟨i + 1, _, D4, F4, hlt, rfl, d4, p4, a4, s4⟩ (by simp; omega)
    refine ca_sopen (fs := fs42) d2 hD2w (fun W3 F3 he d3 s3 => ?_) fun W3 F3 v G R he d3 s3 hv nG => ?_
    · have h180 : (D2.sopen fs42).1 = 180 ∧ (D2.sopen fs42).2.D.off = true := o1.resolve_left fun h => he h.1
      rw [h180.1]
      refine rv_of (v := .pointer none) (w' := W3) (by simp [go_sem]) ?_
      refine rv_of (v := .int .i64 180) (w' := W3) (by simp [go_sem]) ?_
      refine joinK (fun s W4 => s = (.bool false, ()) ∧ ∃ F4 D4, DiskR W4 d F4 D4 ∧ SPend D4 fs42 k m m' ∧ D4.armed = false ∧ Stp F w W4 F4) (fun JJ hJJ => ?_) (by rintro _ W4 ⟨rfl, h4⟩; exact fin2 _ W4 h4)
      refine rdP_of (v := .bool true) (fun w => by simp [go_sem]) ?_
      rw [ifB_bool, if_pos rfl]
      refine rdP_of (v := .bool false) (fun w => by simp [go_sem]) ?_
      rw [ifB_bool, if_neg (by simp)]
      have dd : DiskR W3.drew d F3 (D2.sopen fs42).2.D := d3.mod ((Mod.refl (fun _ => False) W3).drew) fun _ _ h => h
      refine ca_down dd ?_
      rw [h180.2]
      refine rdP_of (v := .bool false) (fun w => by simp [go_sem]) ?_
      rw [ifB_bool, if_neg (by simp)]
      exact fin W3.drew F3 dd ((s2.trans s3).on ((Mod.refl (fun _ => False) W3).drew) fun _ h => h.elim) JJ fun W4 h4 => hJJ _ _ ⟨rfl, h4⟩
    · refine rv_of (v := dptr v) (w' := W3) (by simp [go_sem]) ?_
      refine rv_of (v := .int .i64 0) (w' := W3) (by simp [go_sem]) ?_
      refine joinK (fun s W4 => s = (.bool false, ()) ∧ ∃ F4 D4, DiskR W4 d F4 D4 ∧ SPend D4 fs42 k m m' ∧ D4.armed = false ∧ Stp F w W4 F4) (fun JJ hJJ => ?_) (by rintro _ W4 ⟨rfl, h4⟩; exact fin2 _ W4 h4)
      refine rdP_of (v := .bool false) (fun w => by simp [go_sem]) ?_
      rw [ifB_bool, if_neg (by simp)]
      have dd : DiskR W3.drew d F3 (D2.sopen fs42).2.D := d3.mod ((Mod.refl (fun _ => False) W3).drew) fun _ _ h => h
      exact fin W3.drew F3 dd ((s2.trans s3).on ((Mod.refl (fun _ => False) W3).drew) fun _ h => h.elim) JJ fun W4 h4 => hJJ _ _ ⟨rfl, h4⟩
  · have : i = ts.length := by omega
    subst this
    simp [go_sem]
    exact hK _ _ _ d1 p1 a1 s1
end Go.Proofs
