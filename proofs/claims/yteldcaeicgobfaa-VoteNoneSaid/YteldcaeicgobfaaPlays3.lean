/-
  A round of DiskPlays: what it has.
  Conditions: the memory holds the calls.
-/
import Derived.Test.YteldcaeicgobfaaPlays2
set_option linter.unusedSimpArgs false
set_option linter.unusedVariables false
namespace Go.Proofs
open Go Go.Vc

/-- What a round has: the call's block p, the bytes' block q. -/
structure Rnd (w0 W : World) (o : OpM) (p q cap : Nat) (rest : List Value) (d r : Nat) (F G : Nat → Prop) (D R : DM) : Prop where
  both : Both w0 W d r F G D R
  op : hp W p = some (.cells (opCells o).toArray 48 (0, 0))
  row : hp W q = some (.cells (bv (o.bs ++ [77]) ++ rest).toArray 5 (0, 0))
  p0 : w0.heap.size ≤ p
  q0 : w0.heap.size ≤ q
  pf : ¬ F p ∧ ¬ G p
  qf : ¬ F q ∧ ¬ G q
  pq : p ≠ q
  cap1 : o.bs.length + 1 ≤ cap
  restl : rest.length = cap - (o.bs.length + 1)
  sW : D.waits.length + R.lasts.length < 4398046511104

theorem Rnd.rdIn {w0 W : World} {o : OpM} {p q cap : Nat} {rest : List Value} {d r : Nat} {F G : Nat → Prop} {D R : DM} (h : Rnd w0 W o p q cap rest d r F G D R) : Rd W 1 (.slice (some ⟨q, 0, none⟩) o.bs.length cap) o.bs.length (bv o.bs) := by
  have h1 := h.cap1
  have h2 := h.row
  refine ⟨by simp, .inr ⟨q, 0, cap, rfl, by omega, _, _, _, h2, by simp, ?_⟩⟩
  simp only [List.drop_zero, bv_append, List.append_assoc, bv_length]
  rw [List.take_append_of_le_length (by simp), List.take_of_length_le (by simp)]
theorem inRd_at {a : Addr} {n c b : Nat} (h : inRd (.slice (some a) n c) b) : b = a.block := by
  obtain ⟨a', n', c', e, _, rfl⟩ := h
  injection e with e1
  injection e1 with e1
  rw [e1]
theorem Rnd.two {w0 W W1 W2 : World} {o : OpM} {p q cap : Nat} {rest : List Value} {d r : Nat} {F G F1 G2 : Nat → Prop} {D R D1 R2 : DM} (h : Rnd w0 W o p q cap rest d r F G D R) (d1 : DiskR W1 d F1 D1) (s1 : Stp F W W1 F1) (r2 : RefQ W2 r G2 R2) (s2 : Stp G W1 W2 G2) (hs : Sim D1 R2)
    (hw : D1.waits.length + R2.lasts.length < 4398046511104) : Rnd w0 W2 o p q cap rest d r F1 G2 D1 R2 := by
  have lp := lt_of_heap h.op
  have lq := lt_of_heap h.row
  have l1 := s1.mod.size
  have no : ∀ b, b < W.heap.size → ¬ F b ∧ ¬ G b → ¬ F1 b ∧ ¬ G2 b := fun b hb hn => by
    refine ⟨fun h => ?_, fun h => ?_⟩
    · rcases s1.sub b h with h | h
      · exact hn.1 h
      · omega
    · rcases s2.sub b h with h | h
      · exact hn.2 h
      · omega
  exact ⟨h.both.two d1 s1 r2 s2 hs, keep2 s1 s2 h.op h.pf.1 h.pf.2, keep2 s1 s2 h.row h.qf.1 h.qf.2, h.p0, h.q0, no p lp h.pf, no q lq h.qf, h.pq, h.cap1, h.restl, hw⟩
theorem ref_new {w : World} {r : Nat} (h : hp w r = some (.cells #[.slice none 0 0, .slice none 0 0, .int .i64 0, .bool false, .bool false] 46 (0, 0))) : RefQ w r (fun b => b = r) DM.new :=
  ⟨⟨_, _, h, Own.nil .., Own.nil .., fun b => by simp [inSl, slBlk], by simp [inSl, slBlk], by simp [inSl, slBlk], by simp [inSl, slBlk]⟩, by simp [DM.new]⟩

theorem lit0 {w : World} {K : Kont} (hK : ∀ v w', Own w' 5 1 v 0 (bv []) → Mod (fun _ => False) w w' → (∀ b, inSl v b → w.heap.size ≤ b) → K v w') : rx Try.prog (xLit 23 0 []) w K := by
  refine rx_lit [] Try.underlying23 (elemT_of uT1) rfl rfl (by simp) (by decide) ?_
  refine hK _ _ ⟨by simp, .inr ⟨_, 0, [], rfl, Nat.le_refl _, by show hp _ _ = _; simp [go_sem], by simp, by simp⟩⟩ ((Mod.refl _ w).alloc _) fun b hb => ?_
  have : b = w.heap.size := by cases hb; rfl
  omega
theorem lit1 {w : World} {K : Kont} {u : UInt8} (hK : ∀ v w', Own w' 5 1 v 1 (bv [u]) → Mod (fun _ => False) w w' → (∀ b, inSl v b → w.heap.size ≤ b) → K v w') : rx Try.prog (xLit 23 1 [(0, .int .u8 u.toNat)]) w K := by
  refine rx_lit [.int .u8 u.toNat] Try.underlying23 (elemT_of uT1) rfl rfl (by simp [Value.cells]) (by decide) ?_
  refine hK _ _ ⟨by simp, .inr ⟨_, 1, [], rfl, Nat.le_refl _, by show hp _ _ = _; simp [go_sem, bv, Value.cells], by simp, by simp⟩⟩ ((Mod.refl _ w).alloc _) fun b hb => ?_
  have : b = w.heap.size := by cases hb; rfl
  omega

/-- The bytes handed in, with one more behind them. -/
theorem in_made {w0 W W2 : World} {o : OpM} {p d r : Nat} {F G : Nat → Prop} {D R : DM} {v : Value} (hB : Both w0 W d r F G D R) (hm : Mod (fun _ => False) W W2) (hP : hp W2 p = some (.cells (opCells o).toArray 48 (0, 0))) (p0 : w0.heap.size ≤ p) (pF : ¬ F p ∧ ¬ G p)
    (o2 : Own W2 5 1 v (0 + o.bs.length + 1) (bv [] ++ bv o.bs ++ bv [77])) (hn : ∀ b, inSl v b → W.heap.size ≤ b ∧ b ≠ p) (sW : D.waits.length + R.lasts.length < 4398046511104) :
    ∃ q cap rest, v = .slice (some ⟨q, 0, none⟩) (o.bs.length + 1) cap ∧ Rnd w0 W2 o p q cap rest d r F G D R := by
  have e : (bv [] ++ bv o.bs ++ bv [77]) = bv (o.bs ++ [77]) := by simp
  rw [e, Nat.zero_add] at o2
  obtain ⟨hl, ⟨_, h0⟩ | ⟨q, cap, rest, rfl, hc, hh, hr1, hr2⟩⟩ := o2
  · omega
  · obtain ⟨h1, h2⟩ := hn q rfl
    have l0 := hB.mod.size
    exact ⟨q, cap, rest, rfl, hB.on hm (fun _ _ h => h) (fun _ _ h => h) (fun _ h => h.elim), hP, hh, p0, by omega, pF, ⟨fun h => by have := hB.disk.lt h; omega, fun h => by have := hB.ref.lt h; omega⟩, fun e => h2 e.symm, hc, by simpa using hr1, sW⟩

end Go.Proofs
