/-
  The contracts of law20's tried and broken, and of the document's May.
  The walk of VotePlays.
  The rounds of VotePlays.
  A crash, and the openings behind it.
  A mark set, and the power armed, in a round of VotePlays.
  The walk of VotePlays.
  Conditions: where they ask for any, each theorem names them.
-/
import Derived.Test.YteldcaeicgobfaaVoteD
set_option linter.unusedSimpArgs false
set_option linter.unusedVariables false
namespace Go.Proofs
open Go Go.Vc

theorem DiskR.len {w : World} {d : Nat} {F : Nat → Prop} {D : DM} (h : DiskR w d F D) : LenOk D := h.elim fun _ h => h.lasts
structure TryM where
  arm : Int
  keep : Int
  B : Value
  bs : List UInt8
def tryCells (t : TryM) : List Value := [.int .i64 t.arm, .int .i64 t.keep, t.B]
structure TryOk (w : World) (t : TryM) : Prop where
  arm : R64 t.arm
  keep : R64 t.keep
  rd : Rd w 1 t.B t.bs.length (bv t.bs)
  small : t.bs.length ≤ 140737488355328
theorem TryOk.mod {w w' : World} {t : TryM} (h : TryOk w t) (m : Mod (fun _ => False) w w') : TryOk w' t := ⟨h.arm, h.keep, h.rd.mod m fun _ _ h => h, h.small⟩
theorem tryCells_len (l : List TryM) : ∀ x ∈ l, (tryCells x).length = 3 := fun _ _ => rfl
theorem try_cells {w : World} {v : Value} {l : List TryM} (h : Rd w 3 v l.length (l.flatMap tryCells)) {i : Nat} (hi : i < l.length) :
    ∃ b off cap C e fz, v = .slice (some ⟨b, off, none⟩) l.length cap ∧ hp w b = some (.cells C e fz) ∧ C[off + i * 3]? = some (.int .i64 l[i].arm) ∧ C[off + (i * 3 + 1)]? = some (.int .i64 l[i].keep) ∧
      C[off + (i * 3 + 2)]? = some l[i].B := by
  obtain ⟨b, off, cap, C, e, fz, h1, h2, h3⟩ := rd_elem h hi
  rw [flat_get tryCells 3 _ _ (tryCells_len l) hi] at h3
  simp only [Nat.add_assoc] at h3
  exact ⟨b, off, cap, C, e, fz, h1, h2, h3 0 _ rfl, h3 1 _ rfl, h3 2 _ rfl⟩
def goodT (t : TryM) : Bool := decide (0 ≤ t.keep) && decide (t.bs.length ≤ 1000)
def triedB (ts : List TryM) : Bool := decide (ts.length ≤ 6) && ts.all goodT

theorem ca_tried {w : World} {K : Kont} {ts : List TryM} {a0 : Value} (h : Rd w 3 a0 ts.length (ts.flatMap tryCells)) (hok : ∀ t ∈ ts, TryOk w t) (hK : K (.bool (triedB ts)) w) : Ca Try.prog 36 #[a0] w K := by
  obtain ⟨la, lc, rfl⟩ := h.isSl
  apply ca36
  unfold F36
  simp [go_sem]
  by_cases h6 : ts.length ≤ 6
  · have h6' : ¬ (6 : Int) < ts.length := by omega
    simp only [h6', if_false]
    unfold L36_1
    refine loopK (fun s W => ∃ (i : Nat) (x : Value), i ≤ ts.length ∧ s = (x, .int .i64 i, ()) ∧ W = w ∧ (ts.take i).all goodT = true)
      (fun s _ => match s.2.1 with | .int _ i => ts.length - i.toNat | _ => 0) ⟨0, _, by omega, rfl, rfl, by simp⟩ ?_
    rintro ⟨_, _⟩ W ⟨i, x, hi, ⟨⟩, rfl, hg⟩ KN hKN _
    have hw1 : IntKind.i64.wrap ((i : Int) + 1) = ((i + 1 : Nat) : Int) := by rw [IntKind.wrap_i64]; omega
    by_cases hlt : i < ts.length
    · obtain ⟨b, off, cap, C, e, fz, hv, hC, c0, c1, c2⟩ := try_cells h hlt
      have ho := hok _ (List.getElem_mem hlt)
      have htk : (ts.take (i + 1)).all goodT = goodT ts[i] := by
        rw [List.take_succ_eq_append_getElem hlt, List.all_append, hg]
        simp
      have hal : goodT ts[i] = false → triedB ts = false := fun hb => by
        unfold triedB
        rw [Bool.and_eq_false_iff]
        right
        rw [← List.take_append_drop (i + 1) ts, List.all_append, htk, hb]
        rfl
      obtain ⟨t, hto⟩ : ∃ t, ts[i] = t := ⟨_, rfl⟩
      rw [hto] at c0 c1 c2 ho htk hal
      obtain ⟨ba, bc, hoB⟩ := ho.rd.isSl
      rw [hoB] at c2
      rw [hv]
      have hlt' : (i : Int) < ts.length := by omega
      simp [-Int.natCast_add, go_sem, hlt, hC, c0, c1, c2]
      refine joinK (fun s W2 => W2 = W ∧ s = (Value.bool (!goodT t), ())) (fun JJ hJJ => ?_) ?_
      · by_cases hk0 : t.keep < 0
        · simp [hk0]
          exact hJJ _ _ ⟨rfl, by have : ¬ (0 : Int) ≤ t.keep := by omega
                                 simp [goodT, this]⟩
        · simp [hk0]
          refine hJJ _ _ ⟨rfl, ?_⟩
          have : (0 : Int) ≤ t.keep := by omega
          by_cases hb : t.bs.length ≤ 1000
          · simp [goodT, this, hb]; omega
          · simp [goodT, this, hb]; omega
      rintro _ _ ⟨rfl, rfl⟩
      unfold J36_0
      intro _
      cases hg' : goodT t
      · simp
        rw [hal hg'] at hK
        exact hK
      · simp [-Int.natCast_add, go_sem, hw1]
        exact hKN _ _ ⟨i + 1, _, hlt, rfl, rfl, htk.trans hg'⟩ (by simp; omega)
    · have : i = ts.length := by omega
      subst this
      have hT : triedB ts = true := by
        unfold triedB
        rw [List.take_length] at hg
        simp [h6, hg]
      rw [hT] at hK
      simp [go_sem]
      exact hK
  · have h6' : (6 : Int) < ts.length := by omega
    have hT : triedB ts = false := by simp [triedB, h6]
    rw [hT] at hK
    simp [h6']
    exact hK

theorem rn_lenT {a : Option Addr} {n c : Nat} {w : World} {K : Kont} (hK : K (.int .i64 (n : Int)) w) : rn Try.prog (builtin .len #[70] 3 #[false] #[.slice a n c]) w K := by
  simp [go_sem]
  exact hK
theorem rn_lenO {a : Option Addr} {n c : Nat} {w : World} {K : Kont} (hK : K (.int .i64 (n : Int)) w) : rn Try.prog (builtin .len #[69] 3 #[false] #[.slice a n c]) w K := by
  simp [go_sem]
  exact hK
theorem rn_lenB {a : Option Addr} {n c : Nat} {w : World} {K : Kont} (hK : K (.int .i64 (n : Int)) w) : rn Try.prog (builtin .len #[23] 3 #[false] #[.slice a n c]) w K := by
  simp [go_sem]
  exact hK
theorem slot_conv {k : Nat} (h1 : 0 < k) (h2 : k < 100) (x : Int) : IntKind.i64.wrap ((IntKind.u64.wrap x).tmod (k : Int)) = (slot k x : Int) := by
  rw [IntKind.wrap_u64, Int.tmod_eq_emod_of_nonneg (by omega), slot_eq h1, IntKind.wrap_i64]
  have := slot_lt h1 x
  omega

set_option maxRecDepth 10000 in
theorem ca_broken {w0 w : World} {K : Kont} {d : Nat} {F : Nat → Prop} {D : DM} {ts : List TryM} {a1 : Value} {n k : Nat} {m m' : MarkM} (h : DiskR w d F D) (hpd : Pend D n m k m') (harm : D.armed = false) (hn : n + 1 < 18446744073709551616) (hm' : m'.ok)
    (hr : Rd w0 3 a1 ts.length (ts.flatMap tryCells)) (hok : ∀ t ∈ ts, TryOk w0 t) (ht : triedB ts = true) (m0 : Mod (fun _ => False) w0 w) (hF : ∀ b, F b → w0.heap.size ≤ b)
    (hK : ∀ w' F' D', DiskR w' d F' D' → Pend D' n m k m' → D'.armed = false → Stp F w w' F' → K (.bool true) w') : Ca Try.prog 37 #[dptr d, a1] w K := by
  obtain ⟨la, lc, rfl⟩ := hr.isSl
  have h6 : ts.length ≤ 6 ∧ ∀ t ∈ ts, 0 ≤ t.keep := by
    unfold triedB at ht
    rw [Bool.and_eq_true, List.all_eq_true] at ht
    refine ⟨by simpa using ht.1, fun t h => ?_⟩
    have := ht.2 t h
    simp [goodT] at this
    exact this.1
  apply ca37
  unfold F37
  unfold L37_1
  refine loopK (fun s W => ∃ (i : Nat) (x : Value) (D' : DM) (F' : Nat → Prop), i ≤ ts.length ∧ s = (x, .int .i64 i, ()) ∧ DiskR W d F' D' ∧ Pend D' n m k m' ∧ D'.armed = false ∧ Stp F w W F')
    (fun s _ => match s.2.1 with | .int _ i => ts.length - i.toNat | _ => 0) ⟨0, _, D, F, by omega, rfl, h, hpd, harm, Stp.refl _ _⟩ ?_
  rintro ⟨_, _⟩ W ⟨i, x, D1, F1, hi, ⟨⟩, d1, p1, a1, s1⟩ KN hKN _
  have hw1 : IntKind.i64.wrap ((i : Int) + 1) = ((i + 1 : Nat) : Int) := by rw [IntKind.wrap_i64]; omega
  by_cases hlt : i < ts.length
  · obtain ⟨b, off, cap, C, e, fz, hv, hC, c0, c1, c2⟩ := try_cells hr hlt
    have ho := hok _ (List.getElem_mem hlt)
    have hk0 := h6.2 _ (List.getElem_mem hlt)
    obtain ⟨t, hto⟩ : ∃ t, ts[i] = t := ⟨_, rfl⟩
    rw [hto] at c0 c1 c2 ho hk0
    obtain ⟨ba, bc, hoB⟩ := ho.rd.isSl
    rw [hoB] at c2
    rw [hv]
    have hlt' : (i : Int) < ts.length := by omega
    have mW : Mod (fun _ => False) w0 W := m0.on s1.mod fun b hb => .inr (hF b hb)
    have F1old : ∀ b, F1 b → w0.heap.size ≤ b := fun b hb => by
      rcases s1.sub b hb with h | h
      · exact hF b h
      · have := m0.size; omega
    have hC0 : ∀ W', Mod (fun _ => False) w0 W' → hp W' b = some (.cells C e fz) := fun W' m => m.keep hC id
    have hCW := hC0 W mW
    have hsl := slot_conv (k := 9) (by omega) (by omega) t.arm
    rw [show ((9 : Nat) : Int) = 9 from rfl] at hsl
    have hs9 := slot_lt (k := 9) (by omega) t.arm
    obtain ⟨ar1, ar2⟩ := p1.arm (a := (slot 9 t.arm : Int)) (by omega)
    have ix : ∀ W, (Instr.indexAt 70 (.slice (some ⟨b, off, none⟩) ts.length cap) (.int .i64 i)).run Try.prog W = .ok (.pointer (some ⟨b, off + i * 3, none⟩)) W := fun W => by simp [go_sem, hlt]
    have f0 : ∀ W, (Instr.fieldAt 132 (.pointer (some ⟨b, off + i * 3, none⟩)) 0).run Try.prog W = .ok (.pointer (some ⟨b, off + i * 3, none⟩)) W := fun W => by simp [go_sem]
    have f1 : ∀ W, (Instr.fieldAt 132 (.pointer (some ⟨b, off + i * 3, none⟩)) 1).run Try.prog W = .ok (.pointer (some ⟨b, off + (i * 3 + 1), none⟩)) W := fun W => by simp [go_sem]
    have f2 : ∀ W, (Instr.fieldAt 132 (.pointer (some ⟨b, off + i * 3, none⟩)) 2).run Try.prog W = .ok (.pointer (some ⟨b, off + (i * 3 + 2), none⟩)) W := fun W => by simp [go_sem]
    have l0 : ∀ W, Mod (fun _ => False) w0 W → (Instr.loadAt 3 (.pointer (some ⟨b, off + i * 3, none⟩))).run Try.prog W = .ok (.int .i64 t.arm) W := fun W m => by simp [go_sem, hC0 W m, c0]
    have l1 : ∀ W, Mod (fun _ => False) w0 W → (Instr.loadAt 3 (.pointer (some ⟨b, off + (i * 3 + 1), none⟩))).run Try.prog W = .ok (.int .i64 t.keep) W := fun W m => by simp [go_sem, hC0 W m, c1]
    have l2 : ∀ W, Mod (fun _ => False) w0 W → (Instr.loadAt 23 (.pointer (some ⟨b, off + (i * 3 + 2), none⟩))).run Try.prog W = .ok (.slice ba t.bs.length bc) W := fun W m => by simp [go_sem, hC0 W m, c2]
    refine rn_lenT ?_
    refine rv_of (v := .bool true) (w' := W) (by simp [go_sem, hlt']) ?_
    rw [ifB_bool, if_pos rfl]
    refine rv_of (ix W) ?_
    refine rv_of (f0 W) ?_
    refine rv_of (l0 W mW) ?_
    refine rv_of (v := .int .u64 (IntKind.u64.wrap t.arm)) (w' := W) (by simp [go_sem]) ?_
    refine rv_of (v := .int .u64 ((IntKind.u64.wrap t.arm).tmod 9)) (w' := W) (by simp [go_sem]) ?_
    refine rv_of (v := .int .i64 (slot 9 t.arm : Int)) (w' := W) (by simp [go_sem, hsl]) ?_
    refine ca_arm d1 (by omega) fun W2 d2 m2 => ?_
    rw [ar1]
    refine rv_of (v := .bool false) (w' := W2) (by simp [go_sem]) ?_
    rw [ifB_bool, if_neg (by simp)]
    generalize (D1.arm (slot 9 t.arm : Int)).2 = D2 at d2 ar2
    have s2 : Stp F w W2 F1 := s1.trans ⟨m2.mono fun b _ hb => hb ▸ d1.self, fun b hb => .inl hb⟩
    obtain ⟨o1, o2, -, o4, -⟩ := open_try d2.len ar2 hn hm'
    have hD2w : D2.waits.length < 137438953472 := by rw [ar2.waits]; decide
    -- behind the opening: the crash
    have fin : ∀ W3 F3, DiskR W3 d F3 (D2.vopen 2).2.D → Stp F w W3 F3 → ∀ JJ : Value × Unit → World → Prop, (∀ W4, (∃ F4 D4, DiskR W4 d F4 D4 ∧ Pend D4 n m k m' ∧ D4.armed = false ∧ Stp F w W4 F4) → JJ (.bool false, ()) W4) →
        rdP Try.prog (Instr.indexAt 70 (.slice (some ⟨b, off, none⟩) ts.length cap) (.int .i64 i)) fun v37 => rdP Try.prog (Instr.fieldAt 132 v37 1) fun v38 => rdW Try.prog (Instr.loadAt 3 v38) W3 fun v39 =>
        rdP Try.prog (Instr.indexAt 70 (.slice (some ⟨b, off, none⟩) ts.length cap) (.int .i64 i)) fun v40 => rdP Try.prog (Instr.fieldAt 132 v40 2) fun v41 => rdW Try.prog (Instr.loadAt 23 v41) W3 fun v42 =>
        Ca Try.prog 19 #[dptr d, v39, v42] W3 fun v43 w44 => rdP Try.prog (bin .neq 28 true v43 (.int .i64 0)) fun v45 => JJ (v45, ()) w44 := by
      intro W3 F3 d3 s3 JJ hJJ
      have m3 : Mod (fun _ => False) w0 W3 := m0.on s3.mod fun b hb => .inr (hF b hb)
      have F3old : ∀ b, F3 b → w0.heap.size ≤ b := fun b hb => by
        rcases s3.sub b hb with h | h
        · exact hF b h
        · have := m0.size; omega
      refine rdP_of ix ?_
      refine rdP_of f1 ?_
      refine rdW_of (l1 W3 m3) ?_
      refine rdP_of ix ?_
      refine rdP_of f2 ?_
      refine rdW_of (l2 W3 m3) ?_
      have hrd := ho.rd
      have hkr := ho.keep
      rw [hoB] at hrd
      obtain ⟨kp, hkp⟩ : ∃ kp : Nat, t.keep = (kp : Int) := ⟨t.keep.toNat, by omega⟩
      rw [hkp] at hkr ⊢
      refine ca_crash (keep := kp) (torn := t.bs) d3 (by omega) (by have := hkr.2; omega) (hrd.mod m3 fun _ _ h => h) (fun b' hb' => ?_) fun W4 F4 d4 s4 => ?_
      · have := hrd.lt hb'
        exact ⟨fun h => by have := F3old b' h; omega, by have := m3.size; omega⟩
      refine rdP_of (v := .bool false) (fun w => by simp [go_sem]) ?_
      exact hJJ W4 ⟨F4, _, d4, o2 kp t.bs, rfl, s3.trans s4⟩
    have fin2 : ∀ y W4, (∃ F4 D4, DiskR W4 d F4 D4 ∧ Pend D4 n m k m' ∧ D4.armed = false ∧ Stp F w W4 F4) → J37_0 K (y, .int .i64 i, ()) KN (.bool false, ()) W4 := by
      rintro y W4 ⟨F4, D4, d4, p4, a4, s4⟩
      unfold J37_0
      intro _
      rw [ifB_bool, if_neg (by simp)]
      refine rv_of (v := .int .i64 ((i + 1 : Nat) : Int)) (w' := W4) (by simp [-Int.natCast_add, go_sem, hw1]) ?_
      exact hKN _ _ ⟨i + 1, _, D4, F4, hlt, rfl, d4, p4, a4, s4⟩ (by simp; omega)
    refine ca_vopen d2 hD2w (fun W3 F3 he d3 s3 => ?_) fun W3 F3 v he d3 s3 lv vF hv => ?_
    · have h180 : (D2.vopen 2).1 = 180 ∧ (D2.vopen 2).2.D.off = true := o1.resolve_left he
      rw [h180.1]
      refine rv_of (v := .pointer none) (w' := W3) (by simp [go_sem]) ?_
      refine rv_of (v := .int .i64 180) (w' := W3) (by simp [go_sem]) ?_
      refine joinK (fun s W4 => s = (.bool false, ()) ∧ ∃ F4 D4, DiskR W4 d F4 D4 ∧ Pend D4 n m k m' ∧ D4.armed = false ∧ Stp F w W4 F4) (fun JJ hJJ => ?_) (by rintro _ W4 ⟨rfl, h4⟩; exact fin2 _ W4 h4)
      refine rdP_of (v := .bool true) (fun w => by simp [go_sem]) ?_
      rw [ifB_bool, if_pos rfl]
      refine rdP_of (v := .bool false) (fun w => by simp [go_sem]) ?_
      rw [ifB_bool, if_neg (by simp)]
      have dd : DiskR W3.drew d F3 (D2.vopen 2).2.D := d3.mod ((Mod.refl (fun _ => False) W3).drew) fun _ _ h => h
      refine ca_down dd ?_
      rw [h180.2]
      refine rdP_of (v := .bool false) (fun w => by simp [go_sem]) ?_
      rw [ifB_bool, if_neg (by simp)]
      exact fin W3.drew F3 dd ((s2.trans s3).on ((Mod.refl (fun _ => False) W3).drew) fun _ h => h.elim) JJ fun W4 h4 => hJJ _ _ ⟨rfl, h4⟩
    · refine rv_of (v := dptr v) (w' := W3) (by simp [go_sem]) ?_
      refine rv_of (v := .int .i64 0) (w' := W3) (by simp [go_sem]) ?_
      refine joinK (fun s W4 => s = (.bool false, ()) ∧ ∃ F4 D4, DiskR W4 d F4 D4 ∧ Pend D4 n m k m' ∧ D4.armed = false ∧ Stp F w W4 F4) (fun JJ hJJ => ?_) (by rintro _ W4 ⟨rfl, h4⟩; exact fin2 _ W4 h4)
      refine rdP_of (v := .bool false) (fun w => by simp [go_sem]) ?_
      rw [ifB_bool, if_neg (by simp)]
      have dd : DiskR W3.drew d F3 (D2.vopen 2).2.D := d3.mod ((Mod.refl (fun _ => False) W3).drew) fun _ _ h => h
      exact fin W3.drew F3 dd ((s2.trans s3).on ((Mod.refl (fun _ => False) W3).drew) fun _ h => h.elim) JJ fun W4 h4 => hJJ _ _ ⟨rfl, h4⟩
  · have : i = ts.length := by omega
    subst this
    simp [go_sem]
    exact hK _ _ _ d1 p1 a1 s1
end Go.Proofs

namespace Go.Proofs
open Go Go.Vc

theorem ca_refMay {w : World} {K : Kont} {m : MarkM} (hK : ∀ w', Mod (fun _ => False) w w' → K (.bool m.may) w') : Ca Try.prog 38 #[.agg (markV m).toArray] w K := by
  apply ca38
  unfold F38 markV
  simp [go_sem]
  generalize hW : w.alloc _ = W
  have mW : Mod (fun _ => False) w W := by subst hW; exact (Mod.refl _ w).alloc _
  have := hK W mW
  unfold MarkM.may at this
  have e : ((m.file.toNat : Int) ≤ 1) = (m.file.toNat ≤ 1) := by apply propext; omega
  by_cases h1 : -1 ≤ m.for_
  · by_cases h2 : m.for_ ≤ 6
    · simpa [h1, h2, e] using this
    · simpa [h1, h2] using this
  · simpa [h1] using this

structure VOp where
  kind : Int
  n : Int
  m : MarkM
  B : Value
  bs : List UInt8
  More : Value
  ts : List TryM
def vopCells (o : VOp) : List Value := [.int .i64 o.kind, .int .i64 o.n, .int .u64 (o.m.term : Int), .int .i8 o.m.for_, .int .u8 (o.m.file.toNat : Int), .int .u64 (o.m.base : Int), .int .u64 (o.m.bt : Int), o.B, o.More]
structure VOpOk (w : World) (o : VOp) : Prop where
  kind : R64 o.kind
  n : R64 o.n
  m : o.m.ok
  rd : Rd w 1 o.B o.bs.length (bv o.bs)
  small : o.bs.length ≤ 140737488355328
  more : Rd w 3 o.More o.ts.length (o.ts.flatMap tryCells)
  tries : ∀ t ∈ o.ts, TryOk w t
theorem vopCells_len (l : List VOp) : ∀ x ∈ l, (vopCells x).length = 9 := fun _ _ => rfl
theorem vop_cells {w : World} {v : Value} {l : List VOp} (h : Rd w 9 v l.length (l.flatMap vopCells)) {i : Nat} (hi : i < l.length) :
    ∃ b off cap C e fz, v = .slice (some ⟨b, off, none⟩) l.length cap ∧ hp w b = some (.cells C e fz) ∧ C[off + i * 9]? = some (.int .i64 l[i].kind) ∧ C[off + (i * 9 + 1)]? = some (.int .i64 l[i].n) ∧
      C[off + (i * 9 + 2)]? = some (.int .u64 (l[i].m.term : Int)) ∧ C[off + (i * 9 + 3)]? = some (.int .i8 l[i].m.for_) ∧ C[off + (i * 9 + 4)]? = some (.int .u8 (l[i].m.file.toNat : Int)) ∧
      C[off + (i * 9 + 5)]? = some (.int .u64 (l[i].m.base : Int)) ∧ C[off + (i * 9 + 6)]? = some (.int .u64 (l[i].m.bt : Int)) ∧ C[off + (i * 9 + 7)]? = some l[i].B ∧ C[off + (i * 9 + 8)]? = some l[i].More := by
  obtain ⟨b, off, cap, C, e, fz, h1, h2, h3⟩ := rd_elem h hi
  rw [flat_get vopCells 9 _ _ (vopCells_len l) hi] at h3
  simp only [Nat.add_assoc] at h3
  exact ⟨b, off, cap, C, e, fz, h1, h2, h3 0 _ rfl, h3 1 _ rfl, h3 2 _ rfl, h3 3 _ rfl, h3 4 _ rfl, h3 5 _ rfl, h3 6 _ rfl, h3 7 _ rfl, h3 8 _ rfl⟩

/-- A copy of a call in a block of its own. -/
theorem vop_copy {W : World} {K : World → Prop} {p : Nat} {o : VOp} {c : List Value} (hl : c.length = 9) (hB : ∃ a n c, o.B = .slice a n c) (hM : ∃ a n c, o.More = .slice a n c) (hP : hp W p = some (.cells c.toArray 72 (0, 0)))
    (hK : ∀ W', Mod (fun b => b = p) W W' → hp W' p = some (.cells (vopCells o).toArray 72 (0, 0)) → K W') :
    ru Try.prog (Instr.storeAt 72 (.pointer (some ⟨p, 0, none⟩)) (.agg (vopCells o).toArray)) W K := by
  match c, hl with
  | [c0, c1, c2, c3, c4, c5, c6, c7, c8], _ =>
    obtain ⟨k, n, m, B, bs, More, ts⟩ := o
    obtain ⟨a1, n1, c1', rfl⟩ := hB
    obtain ⟨a2, n2, c2', rfl⟩ := hM
    unfold vopCells at *
    simp only at *
    simp [go_sem, hP]
    refine hK _ ?_ ?_
    · exact ((((((((((Mod.refl (fun b => b = p) W).setCell (.inl rfl) _ _).setCell (.inl rfl) _ _).setCell (.inl rfl) _ _).setCell (.inl rfl) _ _).setCell (.inl rfl) _ _).setCell (.inl rfl) _ _).setCell (.inl rfl) _ _).setCell (.inl rfl) _ _).setCell (.inl rfl) _ _)
    · simp [go_sem, hP]
end Go.Proofs

namespace Go.Proofs
open Go Go.Vc

structure St (w W : World) (d q1 q2 : Nat) (F : Nat → Prop) (D : DM) (n k : Nat) (m m2 : MarkM) : Prop where
  disk : DiskR W d F D
  mod : Mod (fun _ => False) w W
  new : ∀ b, F b → w.heap.size ≤ b
  q1F : ¬ F q1
  q2F : ¬ F q2
  q12 : q1 ≠ q2
  q1n : w.heap.size ≤ q1
  q2n : w.heap.size ≤ q2
  sure : hp W q1 = some (.cells (markV m).toArray 59 (0, 0))
  may : hp W q2 = some (.cells (markV m2).toArray 59 (0, 0))
  ok : m2.ok
  few : D.waits.length ≤ 3
  pend : ∀ keep torn, Pend (D.crash keep torn) n m k m2
structure On (w W : World) (d q1 q2 vb : Nat) (F : Nat → Prop) (D : DM) (n k : Nat) (m : MarkM) : Prop where
  idle : Idle D n m k
  vF : ¬ F vb
  vn : w.heap.size ≤ vb
  v1 : vb ≠ q1
  v2 : vb ≠ q2
  at_ : VoteAt W vb d 2 m n k
def Good (w W : World) (d q1 q2 : Nat) (v : Value) (off : Bool) (c : Nat) : Prop :=
  ∃ F D n k m m2, St w W d q1 q2 F D n k m m2 ∧ n ≤ c ∧ (off = false → m2 = m ∧ ∃ vb, v = dptr vb ∧ On w W d q1 q2 vb F D n k m)

theorem Stp.not {F F' : Nat → Prop} {W W' : World} (s : Stp F W W' F') {b : Nat} (hb : b < W.heap.size) (hf : ¬ F b) : ¬ F' b := fun h => by
  rcases s.sub b h with h | h
  · exact hf h
  · omega
section
variable {w W W' : World} {d q1 q2 vb : Nat} {F F' : Nat → Prop} {D D' : DM} {n k : Nat} {m m2 : MarkM}
theorem St.step (h : St w W d q1 q2 F D n k m m2) (d' : DiskR W' d F' D') (s : Stp F W W' F') (hf : D'.waits.length ≤ 3) (hp : ∀ keep torn, Pend (D'.crash keep torn) n m k m2) : St w W' d q1 q2 F' D' n k m m2 :=
  ⟨d', h.mod.on s.mod fun b hb => .inr (h.new b hb), fun b hb => by
    rcases s.sub b hb with hb | hb
    · exact h.new b hb
    · have := h.mod.size; omega, s.not (lt_of_heap h.sure) h.q1F, s.not (lt_of_heap h.may) h.q2F, h.q12, h.q1n, h.q2n, s.mod.keep h.sure h.q1F, s.mod.keep h.may h.q2F, h.ok, hf, hp⟩
theorem St.mod0 (h : St w W d q1 q2 F D n k m m2) (m0 : Mod (fun _ => False) W W') : St w W' d q1 q2 F D n k m m2 :=
  ⟨h.disk.mod m0 fun _ _ h => h, h.mod.trans m0, h.new, h.q1F, h.q2F, h.q12, h.q1n, h.q2n, m0.keep h.sure id, m0.keep h.may id, h.ok, h.few, h.pend⟩
theorem On.mod0 (h : On w W d q1 q2 vb F D n k m) (m0 : Mod (fun _ => False) W W') : On w W' d q1 q2 vb F D n k m :=
  ⟨h.idle, h.vF, h.vn, h.v1, h.v2, m0.keep h.at_ id⟩
end

/-- The fields of a call's copy. -/
theorem vop_ld {p : Nat} {o : VOp} (hB : ∃ a n c, o.B = .slice a n c) (hM : ∃ a n c, o.More = .slice a n c) :
    (∀ W, (Instr.fieldAt 72 (.pointer (some ⟨p, 0, none⟩)) 0).run Try.prog W = .ok (.pointer (some ⟨p, 0, none⟩)) W) ∧
    (∀ W, (Instr.fieldAt 72 (.pointer (some ⟨p, 0, none⟩)) 1).run Try.prog W = .ok (.pointer (some ⟨p, 1, none⟩)) W) ∧
    (∀ W, (Instr.fieldAt 72 (.pointer (some ⟨p, 0, none⟩)) 2).run Try.prog W = .ok (.pointer (some ⟨p, 2, none⟩)) W) ∧
    (∀ W, (Instr.fieldAt 72 (.pointer (some ⟨p, 0, none⟩)) 3).run Try.prog W = .ok (.pointer (some ⟨p, 7, none⟩)) W) ∧
    (∀ W, (Instr.fieldAt 72 (.pointer (some ⟨p, 0, none⟩)) 4).run Try.prog W = .ok (.pointer (some ⟨p, 8, none⟩)) W) ∧
    ∀ W, hp W p = some (.cells (vopCells o).toArray 72 (0, 0)) →
      (Instr.loadAt 3 (.pointer (some ⟨p, 0, none⟩))).run Try.prog W = .ok (.int .i64 o.kind) W ∧
      (Instr.loadAt 3 (.pointer (some ⟨p, 1, none⟩))).run Try.prog W = .ok (.int .i64 o.n) W ∧
      (Instr.loadAt 59 (.pointer (some ⟨p, 2, none⟩))).run Try.prog W = .ok (.agg (markV o.m).toArray) W ∧
      (Instr.loadAt 23 (.pointer (some ⟨p, 7, none⟩))).run Try.prog W = .ok o.B W ∧
      (Instr.loadAt 70 (.pointer (some ⟨p, 8, none⟩))).run Try.prog W = .ok o.More W := by
  obtain ⟨kd, n, m, B, bs, More, ts⟩ := o
  obtain ⟨a1, n1, c1', rfl⟩ := hB
  obtain ⟨a2, n2, c2', rfl⟩ := hM
  refine ⟨fun W => by simp [go_sem], fun W => by simp [go_sem], fun W => by simp [go_sem], fun W => by simp [go_sem], fun W => by simp [go_sem], fun W hP => ?_⟩
  unfold vopCells at hP
  simp only at hP
  refine ⟨?_, ?_, ?_, ?_, ?_⟩ <;> simp [go_sem, hP, markV]
end Go.Proofs

namespace Go.Proofs
open Go Go.Vc

theorem n_lt {n i : Nat} (h : n ≤ i) (hi : i < 100) : n + 1 < 18446744073709551616 := by omega
set_option maxRecDepth 10000 in
theorem round_crash {w W : World} {d q1 q2 p n k i : Nat} {F : Nat → Prop} {D : DM} {m m2 : MarkM} {o : VOp} {K : Kont} {J35 : Value × Value × Value × Unit → World → Prop} {s26 : Value × Value × Value × Value × Unit}
    (hS : St w W d q1 q2 F D n k m m2) (hP : hp W p = some (.cells (vopCells o).toArray 72 (0, 0))) (pF : ¬ F p) (ho : VOpOk w o) (hn0 : 0 ≤ o.n) (ht : triedB o.ts = true) (hn : n ≤ i) (hi : i < 100)
    (hJ : ∀ W' v' off', Good w W' d q1 q2 v' off' (i + 1) → J35 (.bool off', v', s26.1, ()) W') :
    J8_5 (.pointer (some ⟨p, 0, none⟩)) (dptr d) K (.pointer (some ⟨q1, 0, none⟩)) (.pointer (some ⟨q2, 0, none⟩)) J35 s26 (.bool true, ()) W := by
  obtain ⟨ba, bc, hoB⟩ := ho.rd.isSl
  obtain ⟨ma, mc, hoM⟩ := ho.more.isSl
  obtain ⟨f0, f1, f2, f3, f4, hld⟩ := vop_ld (p := p) (o := o) ⟨_, _, _, hoB⟩ ⟨_, _, _, hoM⟩
  have hN := n_lt hn hi
  unfold J8_5
  intro _
  rw [ifB_bool, if_pos rfl]
  refine joinK (fun s W2 => s = (.bool false, ()) ∧ ∃ F2 D2, St w W2 d q1 q2 F2 D2 n k m m2 ∧ Pend D2 n m k m2 ∧ D2.armed = false) (fun JJ hJJ => ?_) ?_
  · obtain ⟨-, l1, -, l3, -⟩ := hld W hP
    refine rv_of (f1 W) ?_
    refine rv_of l1 ?_
    refine rv_of (f3 W) ?_
    refine rv_of l3 ?_
    have hk64 := ho.n
    obtain ⟨kp, hkp⟩ : ∃ kp : Nat, o.n = (kp : Int) := ⟨o.n.toNat, by omega⟩
    rw [hkp] at hk64 ⊢
    have hfew := hS.few
    refine ca_crash (keep := kp) (torn := o.bs) hS.disk (by omega) (by have := hk64.2; omega) (ho.rd.mod hS.mod fun _ _ h => h) (fun b' hb' => ?_) fun W2 F2 d2 s2 => ?_
    · have := ho.rd.lt hb'
      exact ⟨fun h => by have := hS.new b' h; omega, by have := hS.mod.size; omega⟩
    have pe := hS.pend kp o.bs
    have S2 : St w W2 d q1 q2 F2 (D.crash kp o.bs) n k m m2 := hS.step d2 s2 (by simp [DM.crash]) fun keep torn => pe.crash keep torn
    have hP2 := s2.mod.keep hP pF
    obtain ⟨-, -, -, -, l4⟩ := hld W2 hP2
    refine rv_of (v := .bool false) (w' := W2) (by simp [go_sem]) ?_
    rw [ifB_bool, if_neg (by simp)]
    refine rv_of (f4 W2) ?_
    refine rv_of l4 ?_
    refine ca_broken (w0 := w) d2 pe rfl hN hS.ok ho.more ho.tries ht S2.mod S2.new fun W3 F3 D3 d3 p3 a3 s3 => ?_
    refine rv_of (v := .bool false) (w' := W3) (by simp [go_sem]) ?_
    exact hJJ _ _ ⟨rfl, F3, D3, S2.step d3 s3 (by rw [p3.waits]; simp) (fun keep torn => p3.crash keep torn), p3, a3⟩
  rintro _ W2 ⟨rfl, F2, D2, S2, p2, a2⟩
  unfold J8_1
  intro _
  rw [ifB_bool, if_neg (by simp)]
  obtain ⟨o1, o2, o3, o4, o5⟩ := open_try S2.disk.len p2 hN S2.ok
  have h0 := o3 a2
  obtain ⟨hid, hmn⟩ := o5 h0
  refine ca_vopen S2.disk (by rw [p2.waits]; decide) (fun W3 F3 he _ _ => absurd h0 he) fun W3 F3 v he d3 s3 lv vF hv => ?_
  generalize (D2.vopen 2).2 = R at d3 hv o2 o4 hid hmn
  obtain ⟨D3, m3, n3, k3, cl3⟩ := R
  simp only at d3 hv o2 o4 hid hmn
  have S3 : St w W3 d q1 q2 F3 D3 n k m m2 := S2.step d3 s3 o4 o2
  refine rv_of (v := dptr v) (w' := W3) (by simp [go_sem]) ?_
  refine rv_of (v := .int .i64 0) (w' := W3) (by simp [go_sem]) ?_
  refine joinK (fun s W4 => s = (.bool false, ()) ∧ Mod (fun _ => False) W3 W4) (fun JJ hJJ => ?_) ?_
  · have md : Mod (fun _ => False) W3 W3.drew := (Mod.refl (fun _ => False) W3).drew
    refine rdP_of (v := .bool false) (fun w => by simp [go_sem]) ?_
    rw [ifB_bool, if_neg (by simp)]
    refine rdW_of (ld_mark (S3.mod0 md).sure) ?_
    refine ca_mark (md.keep hv id) fun W4 m4 => ?_
    have t4 := md.trans m4
    refine ⟨ld_mark (S3.mod0 t4).sure, ?_⟩
    refine rdP_of neq_mark ?_
    by_cases e1 : m3 = m
    · rw [ifB_bool, if_neg (by simp [e1])]
      exact hJJ _ _ ⟨rfl, t4⟩
    · rw [ifB_bool, if_pos (by simp [e1])]
      have e2 : m3 = m2 := by
        rcases hmn with h | h
        · exact absurd h.1 e1
        · exact h.1
      refine rdW_of (ld_mark (S3.mod0 t4).may) ?_
      refine ca_mark (t4.keep hv id) fun W5 m5 => ?_
      have t5 := t4.trans m5
      refine ⟨ld_mark (S3.mod0 t5).may, ?_⟩
      refine rdP_of neq_mark ?_
      exact hJJ _ _ ⟨by simp [e2], t5⟩
  rintro _ W4 ⟨rfl, m4⟩
  have S4 := S3.mod0 m4
  have hv4 := m4.keep hv id
  unfold J8_0
  intro _
  rw [ifB_bool, if_neg (by simp)]
  refine ca_mark hv4 fun W5 m5 => ?_
  have S5 := S4.mod0 m5
  have hv5 : VoteAt W5 v d 2 m3 n3 k3 := m5.keep hv4 id
  have v1 : v ≠ q1 := fun e => by have := lt_of_heap S2.sure; omega
  have v2 : v ≠ q2 := fun e => by have := lt_of_heap S2.may; omega
  have vn : w.heap.size ≤ v := by have := S2.mod.size; omega
  refine ru_mark S5.sure fun W6 m6 h6 => ?_
  refine rv_of (ld_mark h6) ?_
  refine ru_mark (m6.keep S5.may (fun e => S5.q12 e.symm)) fun W7 m7 h7 => ?_
  have m57 : Mod (fun b => b = q1 ∨ b = q2) W5 W7 := (m6.mono fun b _ h => .inl h).trans (m7.mono fun b _ h => .inr h)
  have vF' : ¬ F3 v := vF
  refine hJ W7 (dptr v) false ⟨F3, D3, n3, k3, m3, m3, ⟨S5.disk.mod m57 fun b hb h => ?_, S5.mod.on m57 fun b h => .inr ?_, S5.new, S5.q1F, S5.q2F, S5.q12, S5.q1n, S5.q2n, m7.keep h6 S5.q12, h7, hid.holds.ok, o4, fun keep torn => (hid.pend S5.disk.len).crash keep torn⟩, ?_, fun _ => ⟨rfl, v, rfl, hid, vF, vn, v1, v2, m57.keep hv5 fun h => ?_⟩⟩
  · rcases h with rfl | rfl
    · exact S5.q1F hb
    · exact S5.q2F hb
  · rcases h with rfl | rfl
    · exact S5.q1n
    · exact S5.q2n
  · rcases hmn with ⟨-, h⟩ | ⟨-, h⟩ <;> omega
  · rcases h with h | h
    · exact v1 h
    · exact v2 h
end Go.Proofs

namespace Go.Proofs
open Go Go.Vc

set_option maxRecDepth 10000 in
theorem round_set {w W : World} {d q1 q2 p n k i vb : Nat} {F : Nat → Prop} {D : DM} {m : MarkM} {o : VOp} {K : Kont} {J35 : Value × Value × Value × Unit → World → Prop} {x y : Value}
    (hS : St w W d q1 q2 F D n k m m) (hO : On w W d q1 q2 vb F D n k m) (hP : hp W p = some (.cells (vopCells o).toArray 72 (0, 0))) (pF : ¬ F p) (pv : p ≠ vb) (p1 : p ≠ q1) (p2 : p ≠ q2) (ho : VOpOk w o) (hk : o.kind = 0) (hn : n ≤ i) (hi : i < 100)
    (hJ : ∀ W' v' off', Good w W' d q1 q2 v' off' (i + 1) → J35 (.bool off', v', x, ()) W') :
    J8_5 (.pointer (some ⟨p, 0, none⟩)) (dptr d) K (.pointer (some ⟨q1, 0, none⟩)) (.pointer (some ⟨q2, 0, none⟩)) J35 (x, dptr vb, .bool false, y, ()) (.bool false, ()) W := by
  obtain ⟨ba, bc, hoB⟩ := ho.rd.isSl
  obtain ⟨ma, mc, hoM⟩ := ho.more.isSl
  obtain ⟨f0, f1, f2, f3, f4, hld⟩ := vop_ld (p := p) (o := o) ⟨_, _, _, hoB⟩ ⟨_, _, _, hoM⟩
  have hN := n_lt hn hi
  have hle := hO.idle.holds.le
  have lM : ∀ W, hp W p = some (.cells (vopCells o).toArray 72 (0, 0)) → (Instr.loadAt 59 (.pointer (some ⟨p, 2, none⟩))).run Try.prog W = .ok (.agg (markV o.m).toArray) W := fun W h => (hld W h).2.2.1
  unfold J8_5
  intro _
  rw [ifB_bool, if_neg (by simp)]
  show ifB (.bool false) _ _
  rw [ifB_bool, if_neg (by simp)]
  refine rv_of (f0 W) ?_
  refine rv_of (hld W hP).1 ?_
  refine rv_of (v := .bool true) (w' := W) (by simp [go_sem, hk]) ?_
  rw [ifB_bool, if_pos rfl]
  refine rv_of (f2 W) ?_
  refine rv_of (lM W hP) ?_
  have hw : D.waits.length < 137438953472 := by have := hS.few; omega
  refine ca_vset hO.at_ hO.vF hS.disk hw hN hle ho.m (fun hmay W2 m2 => ?_) (fun hmay he W2 F2 d2 s2 hv2 vF2 => ?_) (fun hmay he W2 F2 d2 s2 hv2 vF2 => ?_)
  · -- it may not be
    have hP2 := m2.keep hP id
    refine rv_of (f2 W2) ?_
    refine rv_of (lM W2 hP2) ?_
    refine ca_refMay fun W3 m3 => ?_
    rw [hmay]
    have m23 := m2.trans m3
    refine rv_of (v := .bool true) (w' := W3) (by simp [go_sem]) ?_
    rw [ifB_bool, if_pos rfl]
    refine joinK (fun s W4 => s = (.bool false, ()) ∧ Mod (fun _ => False) W W4) (fun JJ hJJ => ?_) ?_
    · have md : Mod (fun _ => False) W W3.drew := m23.drew
      refine rdP_of (v := .bool false) (fun w => by simp [go_sem]) ?_
      rw [ifB_bool, if_neg (by simp)]
      refine rdW_of (ld_mark (hS.mod0 md).sure) ?_
      refine ca_mark (hO.mod0 md).at_ fun W4 m4 => ?_
      refine ⟨ld_mark (hS.mod0 (md.trans m4)).sure, ?_⟩
      refine rdP_of neq_mark ?_
      exact hJJ _ _ ⟨by simp, md.trans m4⟩
    rintro _ W4 ⟨rfl, m4⟩
    unfold J8_2
    intro _
    rw [ifB_bool, if_neg (by simp)]
    exact hJ W4 (dptr vb) false ⟨F, D, n, k, m, m, hS.mod0 m4, by omega, fun _ => ⟨rfl, vb, rfl, hO.mod0 m4⟩⟩
  · -- the power went
    have hsp := (set_spec hS.disk.len hO.idle hN ho.m hmay).resolve_left fun h => he h.1
    obtain ⟨h180, hoff, hfew, hpe⟩ := hsp
    rw [h180]
    have hP2 := s2.mod.keep hP pF
    refine rv_of (f2 W2) ?_
    refine rv_of (lM W2 hP2) ?_
    refine ca_refMay fun W3 m3 => ?_
    rw [hmay]
    have hP3 := m3.keep hP2 id
    have d3 := d2.mod m3 fun _ _ h => h
    refine rv_of (v := .bool false) (w' := W3) (by simp [go_sem]) ?_
    rw [ifB_bool, if_neg (by simp)]
    refine joinK (fun s W4 => s = (.bool true, ()) ∧ W4 = W3) (fun JJ hJJ => ?_) ?_
    · refine rv_of (v := .bool true) (w' := W3) (by simp [go_sem]) ?_
      rw [ifB_bool, if_pos rfl]
      refine ca_down d3 ?_
      rw [hoff]
      exact hJJ _ _ ⟨rfl, rfl⟩
    rintro _ _ ⟨rfl, rfl⟩
    unfold J8_4
    intro _
    rw [ifB_bool, if_pos rfl]
    refine rv_of (f2 _) ?_
    refine rv_of (lM _ hP3) ?_
    have s3 : Stp F W _ F2 := s2.trans ⟨m3.mono fun _ _ h => h.elim, fun b hb => .inl hb⟩
    have q1F2 := s2.not (lt_of_heap hS.sure) hS.q1F
    have q2F2 := s2.not (lt_of_heap hS.may) hS.q2F
    refine ru_mark (s3.mod.keep hS.may hS.q2F) fun W4 m4 h4 => ?_
    refine hJ W4 _ true ⟨F2, _, n, k, m, o.m, ⟨d3.mod m4 fun b hb e => q2F2 (e ▸ hb), (hS.mod.on s3.mod fun b hb => .inr (hS.new b hb)).on m4 fun b e => .inr (e ▸ hS.q2n), fun b hb => ?_, q1F2, q2F2, hS.q12, hS.q1n, hS.q2n, m4.keep (s3.mod.keep hS.sure hS.q1F) hS.q12, h4, ho.m, hfew, hpe⟩, by omega, fun h => by cases h⟩
    rcases s2.sub b hb with h | h
    · exact hS.new b h
    · have := hS.mod.size; omega
  · -- it lasts
    have hsp := (set_spec hS.disk.len hO.idle hN ho.m hmay).resolve_right fun h => by rw [he] at h; exact absurd h.1 (by decide)
    have hid := hsp.2
    have nG : ∀ b, b < W.heap.size → ¬ F b → ¬ F2 b := fun b hb hf h => by
      rcases s2.sub b h with (h' | h') | h'
      · exact hf h'
      · exact vF2 (h' ▸ h)
      · omega
    have hP2 := s2.mod.keep hP fun h => by
      rcases h with h | h
      · exact pF h
      · exact pv h
    have q1F2 := nG q1 (lt_of_heap hS.sure) hS.q1F
    have q2F2 := nG q2 (lt_of_heap hS.may) hS.q2F
    have pF2 := nG p (lt_of_heap hP) pF
    have k1 := s2.mod.keep hS.sure fun h => by
      rcases h with h | h
      · exact hS.q1F h
      · exact hO.v1 h.symm
    have k2 := s2.mod.keep hS.may fun h => by
      rcases h with h | h
      · exact hS.q2F h
      · exact hO.v2 h.symm
    have mw2 : Mod (fun _ => False) w W2 := hS.mod.on s2.mod fun b hb => .inr (by
      rcases hb with hb | hb
      · exact hS.new b hb
      · exact hb ▸ hO.vn)
    have new2 : ∀ b, F2 b → w.heap.size ≤ b := fun b hb => by
      rcases s2.sub b hb with (h | h) | h
      · exact hS.new b h
      · exact h ▸ hO.vn
      · have := hS.mod.size; omega
    generalize (D.vset 2 n k o.m).2 = D2 at d2 hid
    refine rv_of (f2 W2) ?_
    refine rv_of (lM W2 hP2) ?_
    refine ca_refMay fun W3 m3 => ?_
    rw [hmay]
    refine rv_of (v := .bool false) (w' := W3) (by simp [go_sem]) ?_
    rw [ifB_bool, if_neg (by simp)]
    refine joinK (fun s W4 => s = (.bool false, ()) ∧ W4 = W3) (fun JJ hJJ => ?_) ?_
    · refine rv_of (v := .bool false) (w' := W3) (by simp [go_sem]) ?_
      rw [ifB_bool, if_neg (by simp)]
      exact hJJ _ _ ⟨rfl, rfl⟩
    rintro _ _ ⟨rfl, rfl⟩
    rename_i W3'
    unfold J8_4
    intro _
    rw [ifB_bool, if_neg (by simp)]
    refine joinK (fun s W5 => s = (.bool false, ()) ∧ Mod (fun _ => False) W2 W5) (fun JJ hJJ => ?_) ?_
    · have md := m3.drew
      refine rdP_of (v := .bool false) (fun w => by simp [go_sem]) ?_
      rw [ifB_bool, if_neg (by simp)]
      refine rdP_of f2 ?_
      refine rdW_of (lM _ (md.keep hP2 id)) ?_
      refine ca_mark (md.keep hv2 id) fun W5 m5 => ?_
      refine ⟨lM _ ((md.trans m5).keep hP2 id), ?_⟩
      refine rdP_of neq_mark ?_
      exact hJJ _ _ ⟨by simp, md.trans m5⟩
    rintro _ W5 ⟨rfl, m5⟩
    unfold J8_3
    intro _
    rw [ifB_bool, if_neg (by simp)]
    refine rv_of (f2 W5) ?_
    refine rv_of (lM W5 (m5.keep hP2 id)) ?_
    refine ru_mark (m5.keep k1 id) fun W6 m6 h6 => ?_
    refine rv_of (ld_mark h6) ?_
    refine ru_mark (m6.keep (m5.keep k2 id) (fun e => hS.q12 e.symm)) fun W7 m7 h7 => ?_
    have m57 : Mod (fun b => b = q1 ∨ b = q2) W5 W7 := (m6.mono fun b _ h => .inl h).trans (m7.mono fun b _ h => .inr h)
    have d5 := d2.mod m5 fun _ _ h => h
    refine hJ W7 (dptr vb) false ⟨F2, D2, n + 1, 1 - k, o.m, o.m, ⟨d5.mod m57 fun b hb h => ?_, (mw2.trans m5).on m57 fun b h => .inr ?_, new2, q1F2, q2F2, hS.q12, hS.q1n, hS.q2n, m7.keep h6 hS.q12, h7, ho.m, by rw [hid.waits]; simp, fun keep torn => (hid.pend d2.len).crash keep torn⟩, by omega, fun _ => ⟨rfl, vb, rfl, hid, vF2, hO.vn, hO.v1, hO.v2, m57.keep (m5.keep hv2 id) fun h => ?_⟩⟩
    · rcases h with rfl | rfl
      · exact q1F2 hb
      · exact q2F2 hb
    · rcases h with rfl | rfl
      · exact hS.q1n
      · exact hS.q2n
    · rcases h with h | h
      · exact hO.v1 h
      · exact hO.v2 h

set_option maxRecDepth 10000 in
theorem round_arm {w W : World} {d q1 q2 p n k i vb : Nat} {F : Nat → Prop} {D : DM} {m : MarkM} {o : VOp} {K : Kont} {J35 : Value × Value × Value × Unit → World → Prop} {x y : Value}
    (hS : St w W d q1 q2 F D n k m m) (hO : On w W d q1 q2 vb F D n k m) (hP : hp W p = some (.cells (vopCells o).toArray 72 (0, 0))) (pF : ¬ F p) (ho : VOpOk w o) (hk : o.kind ≠ 0) (hn : n ≤ i) (hi : i < 100)
    (hJ : ∀ W' v' off', Good w W' d q1 q2 v' off' (i + 1) → J35 (.bool off', v', x, ()) W') :
    J8_5 (.pointer (some ⟨p, 0, none⟩)) (dptr d) K (.pointer (some ⟨q1, 0, none⟩)) (.pointer (some ⟨q2, 0, none⟩)) J35 (x, dptr vb, .bool false, y, ()) (.bool false, ()) W := by
  obtain ⟨ba, bc, hoB⟩ := ho.rd.isSl
  obtain ⟨ma, mc, hoM⟩ := ho.more.isSl
  obtain ⟨f0, f1, f2, f3, f4, hld⟩ := vop_ld (p := p) (o := o) ⟨_, _, _, hoB⟩ ⟨_, _, _, hoM⟩
  obtain ⟨l0, l1, -⟩ := hld W hP
  unfold J8_5
  intro _
  rw [ifB_bool, if_neg (by simp)]
  show ifB (.bool false) _ _
  rw [ifB_bool, if_neg (by simp)]
  refine rv_of (f0 W) ?_
  refine rv_of l0 ?_
  refine rv_of (v := .bool false) (w' := W) (by simp [go_sem, hk]) ?_
  rw [ifB_bool, if_neg (by simp)]
  refine rv_of (f0 W) ?_
  refine rv_of l0 ?_
  by_cases h1 : o.kind = 1
  · refine rv_of (v := .bool true) (w' := W) (by simp [go_sem, h1]) ?_
    rw [ifB_bool, if_pos rfl]
    refine rv_of (f1 W) ?_
    refine rv_of l1 ?_
    have hsl := slot_conv (k := 20) (by omega) (by omega) o.n
    rw [show ((20 : Nat) : Int) = 20 from rfl] at hsl
    have hs9 := slot_lt (k := 20) (by omega) o.n
    refine rv_of (v := .int .u64 (IntKind.u64.wrap o.n)) (w' := W) (by simp [go_sem]) ?_
    refine rv_of (v := .int .u64 ((IntKind.u64.wrap o.n).tmod 20)) (w' := W) (by simp [go_sem]) ?_
    refine rv_of (v := .int .i64 (slot 20 o.n : Int)) (w' := W) (by simp [go_sem, hsl]) ?_
    obtain ⟨ar1, ar2⟩ := hO.idle.arm (a := (slot 20 o.n : Int)) (by omega)
    refine ca_arm hS.disk (by omega) fun W2 d2 m2 => ?_
    rw [ar1]
    refine rv_of (v := .bool false) (w' := W2) (by simp [go_sem]) ?_
    rw [ifB_bool, if_neg (by simp)]
    have s2 : Stp F W W2 F := ⟨m2.mono fun b _ hb => hb ▸ hS.disk.self, fun b hb => .inl hb⟩
    refine hJ W2 (dptr vb) false ⟨F, _, n, k, m, m, hS.step d2 s2 (by rw [ar2.waits]; simp) (fun keep torn => (ar2.pend d2.len).crash keep torn), by omega, fun _ => ⟨rfl, vb, rfl, ar2, hO.vF, hO.vn, hO.v1, hO.v2, m2.keep hO.at_ fun e => hO.vF (e ▸ hS.disk.self)⟩⟩
  · refine rv_of (v := .bool false) (w' := W) (by simp [go_sem, h1]) ?_
    rw [ifB_bool, if_neg (by simp)]
    exact hJ W (dptr vb) false ⟨F, D, n, k, m, m, hS, by omega, fun _ => ⟨rfl, vb, rfl, hO⟩⟩
end Go.Proofs

namespace Go.Proofs
open Go Go.Vc

def crashB (o : VOp) : Bool := decide (o.kind = 2) && decide (0 ≤ o.n) && decide (o.bs.length ≤ 1000) && triedB o.ts

set_option maxRecDepth 10000 in
theorem ca_votePlays {w : World} {K : Kont} {l : List VOp} {a0 : Value} (h : Rd w 9 a0 l.length (l.flatMap vopCells)) (hok : ∀ o ∈ l, VOpOk w o) (hK : ∀ w', Mod (fun _ => False) w w' → K (.bool true) w') :
    Ca Try.prog 8 #[a0] w K := by
  obtain ⟨la, lc, rfl⟩ := h.isSl
  apply ca8
  unfold F8
  refine rn_lenO ?_
  by_cases h100 : 100 < l.length
  · have h100' : (100 : Int) < l.length := by omega
    refine rv_of (v := .bool true) (w' := w) (by simp [go_sem, h100']) ?_
    rw [ifB_bool, if_pos rfl]
    exact ca_known20 hK
  have h100' : ¬ (100 : Int) < l.length := by omega
  refine rv_of (v := .bool false) (w' := w) (by simp [go_sem, h100']) ?_
  rw [ifB_bool, if_neg (by simp)]
  refine ca_new fun w1 d1 m1 => ?_
  have e := vopen_new (file := 2) (by decide) (by decide)
  refine ca_vopen d1 (by simp [DM.new]) (fun w' F' h => absurd (by rw [e]) h) fun w2 F2 vb _ d2 s2 lv vF hv => ?_
  rw [e] at d2 hv
  obtain ⟨d, hd⟩ : ∃ d, w.heap.size = d := ⟨_, rfl⟩
  rw [hd] at d1 d2 s2 hv
  have hd1 : d < w1.heap.size := d1.lt d1.self
  have mw2 : Mod (fun _ => False) w w2 := m1.on s2.mod fun b hb => .inr (by show w.heap.size ≤ b; omega)
  have new2 : ∀ b, F2 b → w.heap.size ≤ b := fun b hb => by
    rcases s2.sub b hb with h | h
    · omega
    · have := m1.size; omega
  have vn : w.heap.size ≤ vb := by have := m1.size; omega
  rw [hd]
  refine rv_of (v := dptr vb) (w' := w2) (by simp [go_sem]) ?_
  refine rv_of (v := .int .i64 0) (w' := w2) (by simp [go_sem]) ?_
  refine rv_of (v := .bool false) (w' := w2) (by simp [go_sem]) ?_
  rw [ifB_bool, if_neg (by simp)]
  refine rv_of (v := .agg (markV mK0).toArray) (w' := w2) (by simp [go_sem, markV, mK0]) ?_
  have hal : ∀ W, (Instr.alloc 59 true (.tuple #[])).run Try.prog W = .ok (.pointer (some ⟨W.heap.size, 0, none⟩)) (W.alloc (.cells (markV mark0).toArray 59)) := fun W => by simp [go_sem, markV, mark0]
  have vlt := lt_of_heap hv
  refine rv_of (hal w2) ?_
  have mA : Mod (fun _ => False) w2 (w2.alloc (.cells (markV mark0).toArray 59)) := (Mod.refl _ w2).alloc _
  have hA : hp (w2.alloc (.cells (markV mark0).toArray 59)) w2.heap.size = some (.cells (markV mark0).toArray 59 (0, 0)) := by simp only [hp_alloc, if_pos]
  generalize (w2.alloc (.cells (markV mark0).toArray 59)) = w3 at mA hA
  obtain ⟨q1, hq1⟩ : ∃ q, w2.heap.size = q := ⟨_, rfl⟩
  rw [hq1] at hA ⊢
  refine ru_mark hA fun w4 m4 h4 => ?_
  refine rv_of (ld_mark h4) ?_
  refine rv_of (hal w4) ?_
  have mB : Mod (fun _ => False) w4 (w4.alloc (.cells (markV mark0).toArray 59)) := (Mod.refl _ w4).alloc _
  have hB : hp (w4.alloc (.cells (markV mark0).toArray 59)) w4.heap.size = some (.cells (markV mark0).toArray 59 (0, 0)) := by simp only [hp_alloc, if_pos]
  generalize (w4.alloc (.cells (markV mark0).toArray 59)) = w5 at mB hB
  obtain ⟨q2, hq2⟩ : ∃ q, w4.heap.size = q := ⟨_, rfl⟩
  rw [hq2] at hB ⊢
  refine ru_mark hB fun w6 m6 h6 => ?_
  have l1 := lt_of_heap hA
  have l2 := lt_of_heap h4
  have m26 : Mod (fun _ => False) w2 w6 := ((mA.on m4 fun b e => .inr (by omega)).trans mB).on m6 fun b e => .inr (by have := m4.size; omega)
  have q12 : q1 ≠ q2 := by omega
  have hQ1 : hp w6 q1 = some (.cells (markV mK0).toArray 59 (0, 0)) := m6.keep (mB.keep h4 id) q12
  have S0 : St w w6 d q1 q2 F2 DM.new 0 1 mK0 mK0 := ⟨d2.mod m26 fun _ _ h => h, mw2.trans m26, new2, fun h => by have := d2.lt h; omega, fun h => by have := d2.lt h; have := mA.size; have := m4.size; omega, q12, by have := mw2.size; omega, by have := mw2.size; have := mA.size; have := m4.size; omega, hQ1, h6, by simp [MarkM.ok, mK0], by simp [DM.new], fun keep torn => (idle_new.pend d2.len).crash keep torn⟩
  have O0 : On w w6 d q1 q2 vb F2 DM.new 0 1 mK0 := ⟨idle_new, vF, vn, by omega, by have := mA.size; have := m4.size; omega, m26.keep hv id⟩
  unfold L8_7
  refine loopK (fun s W => ∃ (i : Nat) (x v : Value) (off : Bool), i ≤ l.length ∧ s = (x, v, .bool off, .int .i64 i, ()) ∧ Good w W d q1 q2 v off i)
    (fun s _ => match s.2.2.2.1 with | .int _ i => l.length - i.toNat | _ => 0) ⟨0, _, _, false, by omega, rfl, F2, DM.new, 0, 1, mK0, mK0, S0, Nat.le_refl _, fun _ => ⟨rfl, vb, rfl, O0⟩⟩ ?_
  clear S0 O0 hQ1 m26 l1 l2 h6 m6 hB mB h4 m4 hA mA hv vlt vF lv s2 d2 d1 m1 mw2 new2 vn
  rintro ⟨x0, _⟩ W ⟨i, x, v, off, hi, ⟨⟩, hG⟩ KN hKN _
  have hw1 : IntKind.i64.wrap ((i : Int) + 1) = ((i + 1 : Nat) : Int) := by rw [IntKind.wrap_i64]; omega
  obtain ⟨F, D, n, k, m, m2, hS, hn, hO⟩ := hG
  by_cases hlt : i < l.length
  · have hlt' : (i : Int) < l.length := by omega
    obtain ⟨b, of, cap, C, e, fz, hv, hC, c0, c1, c2, c3, c4, c5, c6, c7, c8⟩ := vop_cells h hlt
    have ho := hok _ (List.getElem_mem hlt)
    have hCW : hp W b = some (.cells C e fz) := hS.mod.keep hC id
    obtain ⟨o, hoo⟩ : ∃ o, l[i] = o := ⟨_, rfl⟩
    rw [hoo] at c0 c1 c2 c3 c4 c5 c6 c7 c8 ho
    obtain ⟨ba, bc, hoB⟩ := ho.rd.isSl
    obtain ⟨ma, mc, hoM⟩ := ho.more.isSl
    have hi100 : i < 100 := by omega
    refine rn_lenO ?_
    refine rv_of (v := .bool true) (w' := W) (by simp [go_sem, hlt']) ?_
    rw [ifB_bool, if_pos rfl]
    refine joinK (fun s W' => ∃ v' off', s = (.bool off', v', x0, ()) ∧ Good w W' d q1 q2 v' off' (i + 1)) (fun JJ hJJ => ?_) ?_
    · rw [hv]
      refine rv_of (v := .pointer (some ⟨b, of + i * 9, none⟩)) (w' := W) (by simp [go_sem, hlt]) ?_
      refine rv_of (v := .agg (vopCells o).toArray) (w' := W) (by simp [go_sem, hCW, c0, c1, c2, c3, c4, c5, c6, c7, c8, vopCells]) ?_
      have hal2 : (Instr.alloc 72 true (.tuple #[])).run Try.prog W = .ok (.pointer (some ⟨W.heap.size, 0, none⟩)) (W.alloc (.cells [.int .i64 0, .int .i64 0, .int .u64 0, .int .i8 0, .int .u8 0, .int .u64 0, .int .u64 0, .slice none 0 0, .slice none 0 0].toArray 72)) := by simp [go_sem]
      refine rv_of hal2 ?_
      have mA : Mod (fun _ => False) W (W.alloc (.cells [.int .i64 0, .int .i64 0, .int .u64 0, .int .i8 0, .int .u8 0, .int .u64 0, .int .u64 0, .slice none 0 0, .slice none 0 0].toArray 72)) := (Mod.refl _ W).alloc _
      have hA : hp (W.alloc (.cells [.int .i64 0, .int .i64 0, .int .u64 0, .int .i8 0, .int .u8 0, .int .u64 0, .int .u64 0, .slice none 0 0, .slice none 0 0].toArray 72)) W.heap.size = some (.cells [.int .i64 0, .int .i64 0, .int .u64 0, .int .i8 0, .int .u8 0, .int .u64 0, .int .u64 0, .slice none 0 0, .slice none 0 0].toArray 72 (0, 0)) := by simp only [hp_alloc, if_pos]
      generalize (W.alloc (.cells [.int .i64 0, .int .i64 0, .int .u64 0, .int .i8 0, .int .u8 0, .int .u64 0, .int .u64 0, .slice none 0 0, .slice none 0 0].toArray 72)) = W1 at mA hA
      obtain ⟨p, hp0⟩ : ∃ p, W.heap.size = p := ⟨_, rfl⟩
      rw [hp0] at hA ⊢
      refine vop_copy rfl ⟨_, _, _, hoB⟩ ⟨_, _, _, hoM⟩ hA fun W2 mp hP => ?_
      have mW : Mod (fun _ => False) W W2 := mA.on mp fun b e => .inr (by omega)
      have S2 := hS.mod0 mW
      have pF : ¬ F p := fun h => by have := hS.disk.lt h; omega
      have pq1 : p ≠ q1 := fun e => by have := lt_of_heap hS.sure; omega
      have pq2 : p ≠ q2 := fun e => by have := lt_of_heap hS.may; omega
      have hO2 : off = false → m2 = m ∧ ∃ vb, v = dptr vb ∧ vb < p ∧ On w W2 d q1 q2 vb F D n k m := fun h => by
        obtain ⟨h1, vb, h2, h3⟩ := hO h
        exact ⟨h1, vb, h2, by have := lt_of_heap h3.at_; omega, h3.mod0 mW⟩
      obtain ⟨f0, f1, f2, f3, f4, hld⟩ := vop_ld (p := p) (o := o) ⟨_, _, _, hoB⟩ ⟨_, _, _, hoM⟩
      obtain ⟨l0, l1, l2, l3, l4⟩ := hld W2 hP
      have hJ : ∀ W' v' off', Good w W' d q1 q2 v' off' (i + 1) → JJ (.bool off', v', x0, ()) W' := fun W' v' off' hg => hJJ _ _ ⟨v', off', rfl, hg⟩
      refine joinK (fun s W' => s = (.bool (crashB o), ()) ∧ W' = W2) (fun JC hJC => ?_) ?_
      · refine rv_of (f0 W2) ?_
        refine rv_of l0 ?_
        by_cases hk2 : o.kind = 2
        · refine rv_of (v := .bool true) (w' := W2) (by simp [go_sem, hk2]) ?_
          rw [ifB_bool, if_pos rfl]
          refine rv_of (f1 W2) ?_
          refine rv_of l1 ?_
          by_cases hn0 : 0 ≤ o.n
          · refine rv_of (v := .bool true) (w' := W2) (by simp [go_sem, hn0]) ?_
            rw [ifB_bool, if_pos rfl]
            refine rv_of (f3 W2) ?_
            refine rv_of l3 ?_
            rw [hoB]
            refine rn_lenB ?_
            by_cases hb : o.bs.length ≤ 1000
            · refine rv_of (v := .bool true) (w' := W2) (by have : (o.bs.length : Int) ≤ 1000 := by omega
                                                            simp [go_sem, this]) ?_
              rw [ifB_bool, if_pos rfl]
              refine rv_of (f4 W2) ?_
              refine rv_of l4 ?_
              refine ca_tried (ho.more.mod S2.mod fun _ _ h => h) (fun t ht => (ho.tries t ht).mod S2.mod) ?_
              exact hJC _ _ ⟨by simp [crashB, hk2, hn0, hb], rfl⟩
            · refine rv_of (v := .bool false) (w' := W2) (by have : ¬ (o.bs.length : Int) ≤ 1000 := by omega
                                                             simp [go_sem, this]) ?_
              rw [ifB_bool, if_neg (by simp)]
              exact hJC _ _ ⟨by simp [crashB, hb], rfl⟩
          · refine rv_of (v := .bool false) (w' := W2) (by simp [go_sem, hn0]) ?_
            rw [ifB_bool, if_neg (by simp)]
            exact hJC _ _ ⟨by simp [crashB, hn0], rfl⟩
        · refine rv_of (v := .bool false) (w' := W2) (by simp [go_sem, hk2]) ?_
          rw [ifB_bool, if_neg (by simp)]
          exact hJC _ _ ⟨by simp [crashB, hk2], rfl⟩
      rintro _ _ ⟨rfl, rfl⟩
      cases hc : crashB o
      · cases off
        · obtain ⟨rfl, vb', rfl, vlt', hO'⟩ := hO2 rfl
          by_cases hk0 : o.kind = 0
          · exact round_set S2 hO' hP pF (by omega) pq1 pq2 ho hk0 hn hi100 hJ
          · exact round_arm S2 hO' hP pF ho hk0 hn hi100 hJ
        · unfold J8_5
          intro _
          rw [ifB_bool, if_neg (by simp)]
          show ifB (.bool true) _ _
          rw [ifB_bool, if_pos rfl]
          exact hJ _ v true ⟨F, D, n, k, m, m2, S2, by omega, fun h => by cases h⟩
      · have hc' := hc
        simp only [crashB, Bool.and_eq_true, decide_eq_true_eq] at hc'
        exact round_crash S2 hP pF ho hc'.1.1.2 hc'.2 hn hi100 hJ
    rintro _ W' ⟨v', off', rfl, hg⟩
    unfold J8_6
    intro _
    refine rv_of (v := .int .i64 ((i + 1 : Nat) : Int)) (w' := W') (by simp [-Int.natCast_add, go_sem, hw1]) ?_
    exact hKN _ _ ⟨i + 1, _, v', off', hlt, rfl, hg⟩ (by simp; omega)
  · have : i = l.length := by omega
    subst this
    refine rn_lenO ?_
    refine rv_of (v := .bool false) (w' := W) (by simp [go_sem]) ?_
    rw [ifB_bool, if_neg (by simp)]
    exact ca_known20 fun w' m' => hK _ (hS.mod.trans m')
end Go.Proofs
