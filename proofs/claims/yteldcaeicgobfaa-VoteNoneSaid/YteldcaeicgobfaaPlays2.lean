/-
  Calls on a disk as data, the contract of tame, and both disks behind a call.
  Conditions: the memory holds the calls.
-/
import Derived.Test.YteldcaeicgobfaaPlays1
set_option linter.unusedSimpArgs false
set_option linter.unusedVariables false
namespace Go.Proofs
open Go Go.Vc

structure OpM where
  kind : Int
  file : Int
  at_ : Int
  n : Int
  B : Value
  bs : List UInt8
def opCells (o : OpM) : List Value := [.int .i64 o.kind, .int .i64 o.file, .int .i64 o.at_, .int .i64 o.n, o.B]
structure OpOk (w : World) (o : OpM) : Prop where
  kind : R64 o.kind
  file : R64 o.file
  at_ : R64 o.at_
  n : R64 o.n
  rd : Rd w 1 o.B o.bs.length (bv o.bs)
  small : o.bs.length ≤ 140737488355328

theorem rd_elem {w : World} {sz : Nat} {v : Value} {n : Nat} {cs : List Value} (h : Rd w sz v n cs) {i : Nat} (hi : i < n) :
    ∃ b off cap C e fz, v = .slice (some ⟨b, off, none⟩) n cap ∧ hp w b = some (.cells C e fz) ∧ ∀ j u, ((cs.drop (i * sz)).take sz)[j]? = some u → C[off + i * sz + j]? = some u := by
  obtain ⟨hl, ⟨rfl, a, c, rfl⟩ | ⟨b, off, cap, rfl, hc, hh⟩⟩ := h
  · omega
  · obtain ⟨C, e, fz, h1, h2⟩ := hh.get
    refine ⟨b, off, cap, C, e, fz, rfl, h1, fun j u hj => ?_⟩
    rw [Nat.add_assoc]
    refine h2 _ _ ?_
    rw [List.getElem?_take] at hj
    split at hj
    · rw [List.getElem?_drop] at hj
      exact hj
    · cases hj
theorem opCells_len (l : List OpM) : ∀ x ∈ l, (opCells x).length = 5 := fun _ _ => rfl
/-- A call's cells. -/
theorem op_cells {w : World} {v : Value} {l : List OpM} (h : Rd w 5 v l.length (l.flatMap opCells)) {i : Nat} (hi : i < l.length) :
    ∃ b off cap C e fz, v = .slice (some ⟨b, off, none⟩) l.length cap ∧ hp w b = some (.cells C e fz) ∧ C[off + i * 5]? = some (.int .i64 l[i].kind) ∧ C[off + (i * 5 + 1)]? = some (.int .i64 l[i].file) ∧
      C[off + (i * 5 + 2)]? = some (.int .i64 l[i].at_) ∧ C[off + (i * 5 + 3)]? = some (.int .i64 l[i].n) ∧ C[off + (i * 5 + 4)]? = some l[i].B := by
  obtain ⟨b, off, cap, C, e, fz, h1, h2, h3⟩ := rd_elem h hi
  rw [flat_get opCells 5 _ _ (opCells_len l) hi] at h3
  simp only [Nat.add_assoc] at h3
  exact ⟨b, off, cap, C, e, fz, h1, h2, h3 0 _ rfl, h3 1 _ rfl, h3 2 _ rfl, h3 3 _ rfl, h3 4 _ rfl⟩

def tot : List OpM → Nat
  | [] => 0
  | o :: l => o.bs.length + tot l
theorem tot_append : ∀ a b : List OpM, tot (a ++ b) = tot a + tot b
  | [], b => by simp [tot]
  | x :: a, b => by simp [tot, tot_append a b, Nat.add_assoc]
theorem tot_take (l : List OpM) (i : Nat) (hi : i < l.length) : tot (l.take (i + 1)) = tot (l.take i) + l[i].bs.length := by
  rw [List.take_succ_eq_append_getElem hi, tot_append]
  simp [tot]
theorem tot_le (l : List OpM) (i : Nat) : tot (l.take i) ≤ tot l := by
  conv => rhs; rw [← List.take_append_drop i l, tot_append]
  omega

set_option maxRecDepth 10000 in
theorem ca_tame {w : World} {v : Value} {l : List OpM} {K : Kont} (h : Rd w 5 v l.length (l.flatMap opCells)) (hok : ∀ o ∈ l, OpOk w o)
    (hK : K (.bool (decide ((l.length : Int) ≤ 100 ∧ (tot l : Int) ≤ 131072))) w) : Ca Try.prog 22 #[v, .int .i64 100] w K := by
  obtain ⟨va, vc, rfl⟩ := h.isSl
  apply ca22
  unfold F22
  simp [go_sem]
  by_cases hlen : (l.length : Int) ≤ 100
  · have hlen' : ¬ (100 : Int) < l.length := by omega
    simp [hlen']
    simp [hlen] at hK
    unfold L22_0
    refine loopK (fun s W => W = w ∧ ∃ i : Nat, i ≤ l.length ∧ s = (.int .i64 (tot (l.take i)), .int .i64 i, ()) ∧ tot (l.take i) ≤ i * 140737488355328)
      (fun s _ => match s.2.1 with | .int _ i => l.length - i.toNat | _ => 0) ⟨rfl, 0, by omega, rfl, by simp [tot]⟩ ?_
    rintro ⟨_, _⟩ W ⟨rfl, i, hi, ⟨⟩, hb⟩ KN hKN _
    have hw1 : IntKind.i64.wrap ((i : Int) + 1) = ((i + 1 : Nat) : Int) := by rw [IntKind.wrap_i64]; omega
    by_cases hlt : i < l.length
    · obtain ⟨b, off, cap, C, e, fz, hv, hC, c0, c1, c2, c3, c4⟩ := op_cells h hlt
      have ho := hok _ (List.getElem_mem hlt)
      obtain ⟨ba, bc, hB⟩ := ho.rd.isSl
      rw [hB] at c4
      have hs := ho.small
      have hw2 : IntKind.i64.wrap ((tot (l.take i) : Int) + (l[i].bs.length : Int)) = ((tot (l.take (i + 1)) : Nat) : Int) := by rw [tot_take l i hlt, IntKind.wrap_i64]; omega
      rw [hv]
      simp [-Int.natCast_add, go_sem, hlt, hC, c4, hw1, hw2]
      refine hKN _ _ ⟨rfl, i + 1, hlt, rfl, ?_⟩ (by simp; omega)
      rw [tot_take l i hlt]
      omega
    · have hil : i = l.length := by omega
      subst hil
      simp [go_sem]
      rw [List.take_length] at *
      simpa using hK
  · have hlen' : (100 : Int) < l.length := by omega
    simp [hlen']
    simp [hlen] at hK
    exact hK

structure Both (w0 W : World) (d r : Nat) (F G : Nat → Prop) (D R : DM) : Prop where
  disk : DiskR W d F D
  ref : RefQ W r G R
  sim : Sim D R
  mod : Mod (fun _ => False) w0 W
  f : ∀ b, F b → w0.heap.size ≤ b
  g : ∀ b, G b → w0.heap.size ≤ b
  apart : ∀ b, F b → ¬ G b
theorem Both.lens {w0 W : World} {d r : Nat} {F G : Nat → Prop} {D R : DM} (h : Both w0 W d r F G D R) : ∀ p ∈ D.waits, p.2.length = 128 := by
  obtain ⟨s, hq⟩ := h.disk
  exact fun p hp => (hq.waits p hp).1
theorem Both.on {w0 W W' : World} {d r : Nat} {F G X : Nat → Prop} {D R : DM} (h : Both w0 W d r F G D R) (hm : Mod X W W') (h1 : ∀ b, F b → ¬ X b) (h2 : ∀ b, G b → ¬ X b) (h3 : ∀ b, X b → w0.heap.size ≤ b) : Both w0 W' d r F G D R :=
  ⟨h.disk.mod hm h1, h.ref.mod hm h2, h.sim, h.mod.on hm fun b hb => .inr (h3 b hb), h.f, h.g, h.apart⟩
/-- Behind a call on each of them. -/
theorem Both.two {w0 W W1 W2 : World} {d r : Nat} {F G F1 G2 : Nat → Prop} {D R D1 R2 : DM} (h : Both w0 W d r F G D R) (d1 : DiskR W1 d F1 D1) (s1 : Stp F W W1 F1) (r2 : RefQ W2 r G2 R2) (s2 : Stp G W1 W2 G2) (hs : Sim D1 R2) :
    Both w0 W2 d r F1 G2 D1 R2 := by
  have l0 := h.mod.size
  have l1 := s1.mod.size
  have hx : ∀ b, F1 b → ¬ G b := fun b hb hg => by
    rcases s1.sub b hb with h1 | h1
    · exact h.apart b h1 hg
    · have := h.ref.lt hg; omega
  refine ⟨d1.mod s2.mod hx, r2, hs, (h.mod.on s1.mod fun b hb => .inr (h.f b hb)).on s2.mod fun b hb => .inr (h.g b hb), fun b hb => ?_, fun b hb => ?_, fun b hb hg => ?_⟩
  · rcases s1.sub b hb with h1 | h1
    · exact h.f b h1
    · omega
  · rcases s2.sub b hb with h1 | h1
    · exact h.g b h1
    · omega
  · rcases s2.sub b hg with h1 | h1
    · exact hx b hb h1
    · have := d1.lt hb; omega
theorem Both.refAt {w0 W W1 : World} {d r : Nat} {F G F1 : Nat → Prop} {D R : DM} (h : Both w0 W d r F G D R) (s1 : Stp F W W1 F1) : RefQ W1 r G R :=
  h.ref.mod s1.mod fun b hg hf => h.apart b hf hg
theorem keep2 {W W1 W2 : World} {F G F1 G2 : Nat → Prop} (s1 : Stp F W W1 F1) (s2 : Stp G W1 W2 G2) {b : Nat} {o : Obj} (h : hp W b = some o) (hf : ¬ F b) (hg : ¬ G b) : hp W2 b = some o := s2.mod.keep (s1.mod.keep h hf) hg

theorem write1_len : ∀ (cs : List Sec) (D : DM) (f a : Int), (D.write1 f a cs).2.waits.length ≤ D.waits.length + cs.length ∧ (D.write1 f a cs).2.lasts = D.lasts
  | [], D, f, a => ⟨Nat.le_refl _, rfl⟩
  | c :: cs, D, f, a => by
    simp only [DM.write1]
    split
    · obtain ⟨h1, h2⟩ := write1_len cs { D.step.2 with waits := D.step.2.waits ++ [((f, a), c)] } f (a + 1)
      rw [h2]
      simp only [D.step_waits, D.step_lasts] at h1 ⊢
      simp at h1 ⊢
      omega
    · simp only [D.step_waits, D.step_lasts]
      simp
theorem write_len (D : DM) (f a : Int) (bs : List UInt8) : (D.write f a bs).2.waits.length ≤ D.waits.length + bs.length ∧ (D.write f a bs).2.lasts = D.lasts := by
  unfold DM.write
  split
  · simp
  · split
    · obtain ⟨h1, h2⟩ := write1_len (chunks bs (bs.length / 128)) D f a
      refine ⟨?_, h2⟩
      have : (chunks bs (bs.length / 128)).length = bs.length / 128 := by simp [chunks]
      omega
    · simp
theorem sync_len (D : DM) : D.sync.2.waits.length ≤ D.waits.length := by
  unfold DM.sync
  split
  · simp
  · split
    · simp
    · simp [D.step_waits]
theorem rsync_len (R : DM) : R.rsync.2.lasts.length + R.rsync.2.waits.length = R.lasts.length + R.waits.length := by
  unfold DM.rsync
  split
  · simp
  · split
    · simp [R.step_waits, R.step_lasts]
    · simp [R.step_waits, R.step_lasts]
theorem rcrash_len (R : DM) (keep : Nat) (torn : List UInt8) : (R.rcrash keep torn).lasts.length + (R.rcrash keep torn).waits.length ≤ R.lasts.length + R.waits.length + 1 := by
  simp only [DM.rcrash]
  cases hk : R.waits[keep]? with
  | none => simp; omega
  | some p =>
    simp only
    split
    · simp; omega
    · simp; omega
theorem arm_len (D : DM) (n : Int) : (D.arm n).2.waits = D.waits ∧ (D.arm n).2.lasts = D.lasts := by
  unfold DM.arm
  split
  · simp
  · split <;> simp
theorem ca_crash_neg {w : World} {d : Nat} {K : Kont} {n : Int} {v : Value} (hn : n < 0) (hK : K (.int .i64 2) w) : Ca Try.prog 19 #[dptr d, .int .i64 n, v] w K := by
  apply ca19
  unfold F19
  simp [go_sem, dptr, hn]
  exact hK
theorem ca_rcrash_neg {w : World} {d : Nat} {K : Kont} {n : Int} {v : Value} (hn : n < 0) (hK : K (.int .i64 2) w) : Ca Try.prog 27 #[dptr d, .int .i64 n, v] w K := by
  apply ca27
  unfold F27
  simp [go_sem, dptr, hn]
  exact hK
end Go.Proofs
