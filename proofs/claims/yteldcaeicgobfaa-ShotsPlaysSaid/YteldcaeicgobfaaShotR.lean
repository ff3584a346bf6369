/-
  The rounds of ShotsPlays.
  Conditions: where they ask for any, each theorem names them.
-/
import Derived.Test.YteldcaeicgobfaaShotQ
set_option linter.unusedVariables false
set_option linter.unusedSimpArgs false
namespace Go.Proofs
open Go Go.Vc

structure SOp where
  kind : Int
  n : Int
  x : ShotM
  sl : Value
  B : Value
  bs : List UInt8
  More : Value
  ts : List TryM
def sopCells (o : SOp) : List Value := [.int .i64 o.kind, .int .i64 o.n, .int .u64 (o.x.idx : Int), .int .u64 (o.x.term : Int), o.sl, o.B, o.More]
structure SOpOk (w : World) (o : SOp) : Prop where
  kind : R64 o.kind
  n : R64 o.n
  x : o.x.fit
  sl : ShR w o.x o.sl
  rd : Rd w 1 o.B o.bs.length (bv o.bs)
  small : o.bs.length ≤ 140737488355328
  more : Rd w 3 o.More o.ts.length (o.ts.flatMap tryCells)
  tries : ∀ t ∈ o.ts, TryOk w t
theorem sopCells_len (l : List SOp) : ∀ x ∈ l, (sopCells x).length = 7 := fun _ _ => rfl
theorem sop_cells {w : World} {v : Value} {l : List SOp} (h : Rd w 7 v l.length (l.flatMap sopCells)) {i : Nat} (hi : i < l.length) :
    ∃ b off cap C e fz, v = .slice (some ⟨b, off, none⟩) l.length cap ∧ hp w b = some (.cells C e fz) ∧ C[off + i * 7]? = some (.int .i64 l[i].kind) ∧ C[off + (i * 7 + 1)]? = some (.int .i64 l[i].n) ∧
      C[off + (i * 7 + 2)]? = some (.int .u64 (l[i].x.idx : Int)) ∧ C[off + (i * 7 + 3)]? = some (.int .u64 (l[i].x.term : Int)) ∧ C[off + (i * 7 + 4)]? = some l[i].sl ∧
      C[off + (i * 7 + 5)]? = some l[i].B ∧ C[off + (i * 7 + 6)]? = some l[i].More := by
  obtain ⟨b, off, cap, C, e, fz, h1, h2, h3⟩ := rd_elem h hi
  rw [flat_get sopCells 7 _ _ (sopCells_len l) hi] at h3
  simp only [Nat.add_assoc] at h3
  exact ⟨b, off, cap, C, e, fz, h1, h2, h3 0 _ rfl, h3 1 _ rfl, h3 2 _ rfl, h3 3 _ rfl, h3 4 _ rfl, h3 5 _ rfl, h3 6 _ rfl⟩
/-- A copy of a call in a block of its own. -/
theorem sop_copy {W : World} {K : World → Prop} {p : Nat} {o : SOp} {c : List Value} (hl : c.length = 7) (hS : ∃ a n c, o.sl = .slice a n c) (hB : ∃ a n c, o.B = .slice a n c) (hM : ∃ a n c, o.More = .slice a n c) (hP : hp W p = some (.cells c.toArray 98 (0, 0)))
    (hK : ∀ W', Mod (fun b => b = p) W W' → hp W' p = some (.cells (sopCells o).toArray 98 (0, 0)) → K W') :
    ru Try.prog (Instr.storeAt 98 (.pointer (some ⟨p, 0, none⟩)) (.agg (sopCells o).toArray)) W K := by
  match c, hl with
  | [c0, c1, c2, c3, c4, c5, c6], _ =>
    obtain ⟨k, n, x, sl, B, bs, More, ts⟩ := o
    obtain ⟨a0, n0, c0', rfl⟩ := hS
    obtain ⟨a1, n1, c1', rfl⟩ := hB
    obtain ⟨a2, n2, c2', rfl⟩ := hM
    unfold sopCells at *
    simp only at *
    simp [go_sem, hP]
    refine hK _ ?_ ?_
    · exact ((((((((Mod.refl (fun b => b = p) W).setCell (.inl rfl) _ _).setCell (.inl rfl) _ _).setCell (.inl rfl) _ _).setCell (.inl rfl) _ _).setCell (.inl rfl) _ _).setCell (.inl rfl) _ _).setCell (.inl rfl) _ _)
    · simp [go_sem, hP]
/-- The fields of a call's copy. -/
theorem sop_ld {p : Nat} {o : SOp} (hS : ∃ a n c, o.sl = .slice a n c) (hB : ∃ a n c, o.B = .slice a n c) (hM : ∃ a n c, o.More = .slice a n c) :
    (∀ W, (Instr.fieldAt 98 (.pointer (some ⟨p, 0, none⟩)) 0).run Try.prog W = .ok (.pointer (some ⟨p, 0, none⟩)) W) ∧
    (∀ W, (Instr.fieldAt 98 (.pointer (some ⟨p, 0, none⟩)) 1).run Try.prog W = .ok (.pointer (some ⟨p, 1, none⟩)) W) ∧
    (∀ W, (Instr.fieldAt 98 (.pointer (some ⟨p, 0, none⟩)) 2).run Try.prog W = .ok (.pointer (some ⟨p, 2, none⟩)) W) ∧
    (∀ W, (Instr.fieldAt 98 (.pointer (some ⟨p, 0, none⟩)) 3).run Try.prog W = .ok (.pointer (some ⟨p, 5, none⟩)) W) ∧
    (∀ W, (Instr.fieldAt 98 (.pointer (some ⟨p, 0, none⟩)) 4).run Try.prog W = .ok (.pointer (some ⟨p, 6, none⟩)) W) ∧
    ∀ W, hp W p = some (.cells (sopCells o).toArray 98 (0, 0)) →
      (Instr.loadAt 3 (.pointer (some ⟨p, 0, none⟩))).run Try.prog W = .ok (.int .i64 o.kind) W ∧
      (Instr.loadAt 3 (.pointer (some ⟨p, 1, none⟩))).run Try.prog W = .ok (.int .i64 o.n) W ∧
      (Instr.loadAt 83 (.pointer (some ⟨p, 2, none⟩))).run Try.prog W = .ok (.agg (shotC o.x o.sl).toArray) W ∧
      (Instr.loadAt 27 (.pointer (some ⟨p, 2, none⟩))).run Try.prog W = .ok (.int .u64 (o.x.idx : Int)) W ∧
      (Instr.loadAt 23 (.pointer (some ⟨p, 4, none⟩))).run Try.prog W = .ok o.sl W ∧
      (Instr.loadAt 23 (.pointer (some ⟨p, 5, none⟩))).run Try.prog W = .ok o.B W ∧
      (Instr.loadAt 96 (.pointer (some ⟨p, 6, none⟩))).run Try.prog W = .ok o.More W := by
  obtain ⟨kd, n, x, sl, B, bs, More, ts⟩ := o
  obtain ⟨a0, n0, c0', rfl⟩ := hS
  obtain ⟨a1, n1, c1', rfl⟩ := hB
  obtain ⟨a2, n2, c2', rfl⟩ := hM
  refine ⟨fun W => by simp [go_sem], fun W => by simp [go_sem], fun W => by simp [go_sem], fun W => by simp [go_sem], fun W => by simp [go_sem], fun W hP => ?_⟩
  unfold sopCells at hP
  simp only at hP
  refine ⟨?_, ?_, ?_, ?_, ?_, ?_, ?_⟩ <;> simp [go_sem, hP, shotC]

/-- A snapshot that a variable has, in memory that nobody writes. -/
structure Var (w W : World) (q1 q2 q : Nat) (F : Nat → Prop) (x : ShotM) (sl : Value) : Prop where
  at_ : hp W q = some (.cells (shotC x sl).toArray 83 (0, 0))
  rd : ShR W x sl
  nF : ∀ y, inRd sl y → ¬ F y
  nq : ∀ y, inRd sl y → y ≠ q1 ∧ y ≠ q2
structure SSt (w W : World) (d q1 q2 : Nat) (F : Nat → Prop) (D : DM) (k : Nat) (x : ShotM) (o : Option ShotM) (x2 : ShotM) (sl1 sl2 : Value) : Prop where
  disk : DiskR W d F D
  mod : Mod (fun _ => False) w W
  new : ∀ b, F b → w.heap.size ≤ b
  q1F : ¬ F q1
  q2F : ¬ F q2
  q12 : q1 ≠ q2
  q1n : w.heap.size ≤ q1
  q2n : w.heap.size ≤ q2
  sure : Var w W q1 q2 q1 F x sl1
  may : Var w W q1 q2 q2 F x2 sl2
  two : (o = none ∧ x2 = x) ∨ o = some x2
  few : D.waits.length ≤ 10000
  pend : ∀ keep torn, SPend (D.crash keep torn) fs42 k x o
structure SOn (w W : World) (d q1 q2 vb : Nat) (F : Nat → Prop) (D : DM) (k : Nat) (x : ShotM) (ms : Nat → List UInt8) (G R : Nat → Prop) (sl1 sl2 : Value) : Prop where
  idle : SIdle D fs42 k x ms
  at_ : ShQ W vb d fs42 k x ms G R
  nF : ∀ y, G y ∨ R y → ¬ F y
  Gn : ∀ y, G y → w.heap.size ≤ y
  nq : ∀ y, G y ∨ R y → y ≠ q1 ∧ y ≠ q2
  ns : ∀ y, G y → ¬ inRd sl1 y ∧ ¬ inRd sl2 y
def SGood (w W : World) (d q1 q2 : Nat) (v : Value) (off : Bool) : Prop :=
  ∃ F D k x o x2 sl1 sl2, SSt w W d q1 q2 F D k x o x2 sl1 sl2 ∧ (off = false → o = none ∧ ∃ vb ms G R, v = dptr vb ∧ SOn w W d q1 q2 vb F D k x ms G R sl1 sl2)
section
variable {w W W' : World} {d q1 q2 vb q : Nat} {F F' G R : Nat → Prop} {D D' : DM} {k : Nat} {x x2 : ShotM} {o : Option ShotM} {sl1 sl2 sl : Value} {ms : Nat → List UInt8}
theorem Var.isSl (h : Var w W q1 q2 q F x sl) : ∃ a n c, sl = .slice a n c := by
  obtain ⟨a, c, e⟩ := h.rd.isSl
  exact ⟨a, _, c, e⟩
theorem Var.ld (h : Var w W q1 q2 q F x sl) : (Instr.loadAt 83 (.pointer (some ⟨q, 0, none⟩))).run Try.prog W = .ok (.agg (shotC x sl).toArray) W := by
  obtain ⟨a, n, c, rfl⟩ := h.isSl
  exact (sload h.at_).2.2.2
theorem Var.ldi (h : Var w W q1 q2 q F x sl) : (Instr.loadAt 27 (.pointer (some ⟨q, 0, none⟩))).run Try.prog W = .ok (.int .u64 (x.idx : Int)) W := by
  obtain ⟨a, n, c, rfl⟩ := h.isSl
  exact (sload h.at_).1
theorem Var.mod0 (h : Var w W q1 q2 q F x sl) (m0 : Mod (fun _ => False) W W') : Var w W' q1 q2 q F x sl := ⟨m0.keep h.at_ id, h.rd.mod m0 fun _ _ h => h, h.nF, h.nq⟩
theorem Var.step (h : Var w W q1 q2 q F x sl) (hq : ¬ F q) (s : Stp F W W' F') : Var w W' q1 q2 q F' x sl :=
  ⟨s.mod.keep h.at_ hq, h.rd.mod s.mod fun b hb => h.nF b hb, fun b hb => s.not (h.rd.lt hb) (h.nF b hb), h.nq⟩
theorem SSt.step (h : SSt w W d q1 q2 F D k x o x2 sl1 sl2) (d' : DiskR W' d F' D') (s : Stp F W W' F') (hf : D'.waits.length ≤ 10000) (hp : ∀ keep torn, SPend (D'.crash keep torn) fs42 k x o) : SSt w W' d q1 q2 F' D' k x o x2 sl1 sl2 :=
  ⟨d', h.mod.on s.mod fun b hb => .inr (h.new b hb), fun b hb => by
    rcases s.sub b hb with hb | hb
    · exact h.new b hb
    · have := h.mod.size; omega, s.not (lt_of_heap h.sure.at_) h.q1F, s.not (lt_of_heap h.may.at_) h.q2F, h.q12, h.q1n, h.q2n, h.sure.step h.q1F s, h.may.step h.q2F s, h.two, hf, hp⟩
theorem SSt.mod0 (h : SSt w W d q1 q2 F D k x o x2 sl1 sl2) (m0 : Mod (fun _ => False) W W') : SSt w W' d q1 q2 F D k x o x2 sl1 sl2 :=
  ⟨h.disk.mod m0 fun _ _ h => h, h.mod.trans m0, h.new, h.q1F, h.q2F, h.q12, h.q1n, h.q2n, h.sure.mod0 m0, h.may.mod0 m0, h.two, h.few, h.pend⟩
theorem SOn.mod0 (h : SOn w W d q1 q2 vb F D k x ms G R sl1 sl2) (m0 : Mod (fun _ => False) W W') : SOn w W' d q1 q2 vb F D k x ms G R sl1 sl2 :=
  ⟨h.idle, h.at_.mod m0 fun _ _ h => h, h.nF, h.Gn, h.nq, h.ns⟩
end
theorem spend_shot {D : DM} {fs : Nat → Int} {k : Nat} {x : ShotM} {ms : Nat → List UInt8} (hl : LenOk D) (h : SIdle D fs k x ms) : x.data.length ≤ 524288 ∧ (x.idx = 0 → x = shot0) := by
  rcases h.holds with ⟨h0, h1⟩ | ⟨rfl, -, -⟩
  · rcases countF_cases (CF_len hl (fs k)) with hc | ⟨hok, hm, -⟩
    · rw [hc] at h1
      subst h1
      exact absurd rfl h0
    · rw [h1] at hm
      refine ⟨?_, fun h => absurd h h0⟩
      simp [ShotM.may] at hm
      exact hm.2
  · exact ⟨by simp [shot0], fun _ => rfl⟩
/-- Whether what is read is one of both. -/
theorem same_two {w W : World} {d q1 q2 q : Nat} {F : Nat → Prop} {D : DM} {k : Nat} {x x2 y : ShotM} {o : Option ShotM} {sl1 sl2 : Value} {a : Option Addr} {n c : Nat} {J : Value × Unit → World → Prop} (hS : SSt w W d q1 q2 F D k x o x2 sl1 sl2) (hq : hp W q = some (.cells (shotC y (.slice a n c)).toArray 83 (0, 0))) (hr : ShR W y (.slice a n c)) (hy : y = x ∨ o = some y)
    (hJ : ∀ W', Mod (fun _ => False) W W' → J (.bool false, ()) W') :
    rv Try.prog (Instr.loadAt 83 (.pointer (some ⟨q, 0, none⟩))) W fun v141 w142 =>
    rv Try.prog (Instr.loadAt 83 (.pointer (some ⟨q1, 0, none⟩))) w142 fun v143 w144 =>
    Ca Try.prog 47 #[v141, v143] w144 fun v145 w146 =>
    rv Try.prog (Op.unary .not v145) w146 fun v147 w148 =>
    ifB v147
    (rv Try.prog (Instr.loadAt 83 (.pointer (some ⟨q, 0, none⟩))) w148 fun v149 w150 =>
    rv Try.prog (Instr.loadAt 83 (.pointer (some ⟨q2, 0, none⟩))) w150 fun v151 w152 =>
    Ca Try.prog 47 #[v149, v151] w152 fun v153 w154 =>
    rv Try.prog (Op.unary .not v153) w154 fun v155 w156 =>
    J (v155, ()) w156)
    (J ((.bool false), ()) w148) := by
  refine rv_of (sload hq).2.2.2 ?_
  refine rv_of hS.sure.ld ?_
  refine ca_sameS hr hS.sure.rd fun W1 m1 => ?_
  by_cases e : y = x
  · refine rv_of (v := .bool false) (w' := W1) (by simp [go_sem, e]) ?_
    rw [ifB_bool, if_neg (by simp)]
    exact hJ W1 m1
  · refine rv_of (v := .bool true) (w' := W1) (by simp [go_sem, e]) ?_
    rw [ifB_bool, if_pos rfl]
    have ho := hy.resolve_left e
    have e2 : y = x2 := by
      rcases hS.two with ⟨h, -⟩ | h
      · rw [h] at ho; cases ho
      · rw [h] at ho; injection ho with ho; exact ho.symm
    have S1 := hS.mod0 m1
    refine rv_of (sload (m1.keep hq id)).2.2.2 ?_
    refine rv_of S1.may.ld ?_
    refine ca_sameS (hr.mod m1 fun _ _ h => h) S1.may.rd fun W2 m2 => ?_
    refine rv_of (v := .bool false) (w' := W2) (by simp [go_sem, e2]) ?_
    exact hJ W2 (m1.trans m2)
end Go.Proofs
