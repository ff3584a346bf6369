/-
  The two disks side by side: what they have in common, and the contracts of tame and same.
  Conditions: the memory holds both.
-/
import Derived.Test.YteldcaeicgobfaaRef5
set_option linter.unusedSimpArgs false
set_option linter.unusedVariables false
namespace Go.Proofs
open Go Go.Vc

/-- The document's disk has what the disk has. -/
structure Sim (D R : DM) : Prop where
  waits : D.waits = R.waits
  left : D.left = R.left
  armed : D.armed = R.armed
  off : D.off = R.off
  lk : ∀ k, lk D.lasts k = lk (putL [] R.lasts) k
  lens : ∀ p ∈ R.lasts, p.2.length = 128

theorem Sim.new : Sim DM.new DM.new := ⟨rfl, rfl, rfl, rfl, fun _ => rfl, by simp [DM.new]⟩
theorem Sim.step {D R : DM} (h : Sim D R) : D.step.1 = R.step.1 ∧ Sim D.step.2 R.step.2 := by
  obtain ⟨h1, h2, h3, h4, h5, h6⟩ := h
  unfold DM.step
  rw [h2, h3]
  split
  · exact ⟨rfl, h1, rfl, rfl, rfl, h5, h6⟩
  · split
    · exact ⟨rfl, h1, rfl, rfl, h4, h5, h6⟩
    · exact ⟨rfl, h1, h2, h3, h4, h5, h6⟩
theorem Sim.arm {D R : DM} (h : Sim D R) (n : Int) : (D.arm n).1 = (R.arm n).1 ∧ Sim (D.arm n).2 (R.arm n).2 := by
  have h0 := h
  obtain ⟨h1, h2, h3, h4, h5, h6⟩ := h
  unfold DM.arm
  rw [h4]
  split
  · exact ⟨rfl, h0⟩
  · split
    · exact ⟨rfl, h0⟩
    · exact ⟨rfl, h1, rfl, rfl, rfl, h5, h6⟩
theorem lk_both {D R : DM} (h : Sim D R) (ws : List (Pl × Sec)) (k : Pl) : lk (putL D.lasts ws) k = lk (putL [] (R.lasts ++ ws)) k := by
  rw [← putL_append, lk_putL_or ws D.lasts, lk_putL_or ws (putL [] R.lasts), h.lk]
theorem Sim.sync {D R : DM} (h : Sim D R) (hl : ∀ p ∈ D.waits, p.2.length = 128) : D.sync.1 = R.rsync.1 ∧ Sim D.sync.2 R.rsync.2 := by
  have h0 := h
  obtain ⟨s1, s2⟩ := h.step
  have hw := D.step_waits
  have hw' := R.step_waits
  obtain ⟨h1, h2, h3, h4, h5, h6⟩ := h
  unfold DM.sync DM.rsync
  rw [h4, s1]
  split
  · exact ⟨rfl, h0⟩
  · split
    · refine ⟨rfl, rfl, s2.left, s2.armed, s2.off, fun k => ?_, fun p hp => ?_⟩
      · simp only [s2.waits]
        exact lk_both s2 _ k
      · rcases List.mem_append.1 hp with hp | hp
        · exact s2.lens p hp
        · rw [hw', ← h1] at hp
          exact hl p hp
    · exact ⟨rfl, s2⟩
theorem Sim.crash {D R : DM} (h : Sim D R) (hl : ∀ p ∈ D.waits, p.2.length = 128) (keep : Nat) (torn : List UInt8) : Sim (D.crash keep torn) (R.rcrash keep torn) := by
  have h0 := h
  obtain ⟨h1, h2, h3, h4, h5, h6⟩ := h
  have hl' : ∀ p ∈ R.lasts ++ R.waits.take keep, p.2.length = 128 := by
    intro p hp
    rcases List.mem_append.1 hp with hp | hp
    · exact h6 p hp
    · exact hl p (by rw [h1]; exact List.mem_of_mem_take hp)
  refine ⟨rfl, h2, rfl, rfl, fun k => ?_, fun p hp => ?_⟩
  · simp only [DM.crash, DM.rcrash, h1]
    cases hk : R.waits[keep]? with
    | none => exact lk_both h0 _ k
    | some p =>
      simp only
      split
      · exact lk_both h0 _ k
      · rw [lk_put, ← putL_append]
        show _ = Go.Vc.lk (put (putL [] (R.lasts ++ R.waits.take keep)) p.1 (tornSec torn)) k
        rw [lk_put, lk_both h0]
  · simp only [DM.rcrash] at hp
    cases hk : R.waits[keep]? with
    | none => rw [hk] at hp; exact hl' p hp
    | some q =>
      rw [hk] at hp
      simp only at hp
      split at hp
      · exact hl' p hp
      · rcases List.mem_append.1 hp with hp | hp
        · exact hl' p hp
        · have : p = (q.1, tornSec torn) := by simpa using hp
          rw [this]
          exact tornSec_length torn
theorem Sim.write1 : ∀ (cs : List Sec) {D R : DM} (h : Sim D R) (f a : Int), (D.write1 f a cs).1 = (R.write1 f a cs).1 ∧ Sim (D.write1 f a cs).2 (R.write1 f a cs).2
  | [], D, R, h, f, a => ⟨rfl, h⟩
  | c :: cs, D, R, h, f, a => by
    obtain ⟨s1, s2⟩ := h.step
    simp only [DM.write1, s1]
    split
    · exact Sim.write1 cs (D := { D.step.2 with waits := D.step.2.waits ++ [((f, a), c)] }) (R := { R.step.2 with waits := R.step.2.waits ++ [((f, a), c)] }) ⟨by simp only [s2.waits], s2.left, s2.armed, s2.off, s2.lk, s2.lens⟩ f (a + 1)
    · exact ⟨rfl, s2⟩
theorem Sim.write {D R : DM} (h : Sim D R) (f a : Int) (bs : List UInt8) : (D.write f a bs).1 = (R.write f a bs).1 ∧ Sim (D.write f a bs).2 (R.write f a bs).2 := by
  unfold DM.write
  rw [h.off]
  split
  · exact ⟨rfl, h⟩
  · split
    · exact Sim.write1 _ h f a
    · exact ⟨rfl, h⟩
theorem Sim.read {D R : DM} (h : Sim D R) (f a : Int) (n : Nat) : D.readB f a n = rreadB R f a n := by
  unfold DM.readB rreadB
  congr 1
  funext j
  unfold DM.secAt rsec
  rw [lk_putL_or, h.waits, h.lk]

/-- A loop that adds one to each of a slice's bytes. -/
theorem u8_succ (x : UInt8) : IntKind.u8.wrap ((x.toNat : Int) + 1) = ((x + 1).toNat : Int) := by
  rw [IntKind.wrap_u8]
  have : (x + 1).toNat = (x.toNat + 1) % 256 := by simp [UInt8.toNat_add]
  omega

theorem u8_mod (x : UInt8) : ((x.toNat : Int) + 1) % 256 = ((x + 1).toNat : Int) := by
  have : (x + 1).toNat = (x.toNat + 1) % 256 := by simp [UInt8.toNat_add]
  omega
set_option maxRecDepth 10000 in
theorem ca_same {w : World} {d r : Nat} {F G : Nat → Prop} {D R : DM} {K : Kont} {f a n : Int} (h : DiskR w d F D) (hr : RefQ w r G R) (hs : Sim D R) (hn1 : D.waits.length < 549755813888) (hn2 : R.lasts.length < 549755813888)
    (hK : ∀ w', Mod (fun _ => False) w w' → K (.bool true) w') : Ca Try.prog 29 #[dptr d, dptr r, .int .i64 f, .int .i64 a, .int .i64 n] w K := by
  have hlens : (∀ p ∈ R.lasts, p.2.length = 128) ∧ ∀ p ∈ R.waits, p.2.length = 128 := ⟨hs.lens, fun p hp => by
    obtain ⟨s, hq⟩ := h
    exact (hq.waits p (by rw [hs.waits]; exact hp)).1⟩
  apply ca29
  unfold F29
  -- behind both readings
  have key : ∀ (W : World) (v : Value) (l : List UInt8), l.length < 1099511627776 → Mod (fun _ => False) w W → Own W 5 1 v l.length (bv l) → (∀ b, inSl v b → w.heap.size ≤ b) → J29_1 v K (.bool true, ()) W := by
    intro W v l hlb mW oW nW
    unfold J29_1
    intro _
    unfold L29_0
    refine loopK (fun s W' => ∃ (i : Nat) (l' : List UInt8), i ≤ l.length ∧ s = (.int .i64 i, ()) ∧ l'.length = l.length ∧ Mod (fun _ => False) w W' ∧ Own W' 5 1 v l.length (bv l'))
      (fun s _ => match s.1 with | .int _ i => l.length - i.toNat | _ => 0) ⟨0, l, by omega, rfl, rfl, mW, oW⟩ ?_
    clear mW oW
    rintro ⟨_, _⟩ W' ⟨i, l', hi, ⟨⟩, hl', mW, oW⟩ KN hKN _
    have hw1 : IntKind.i64.wrap ((i : Int) + 1) = ((i + 1 : Nat) : Int) := by rw [IntKind.wrap_i64]; omega
    obtain ⟨hl, ⟨rfl, h0⟩ | ⟨b, cap, rest, rfl, hc, hh, hr1, hr2⟩⟩ := oW
    · have hi0 : i = 0 := by omega
      subst hi0
      simp [go_sem, h0]
      exact hK _ mW
    · by_cases hlt : i < l.length
      · obtain ⟨C, hC⟩ : ∃ C, (bv l' ++ rest).toArray = C := ⟨_, rfl⟩
        have hh' : hp W' b = some (.cells C 5 (0, 0)) := by rw [← hC]; exact hh
        have hCi : C[i]? = some (.int .u8 (l'[i]'(by omega)).toNat) := by
          rw [← hC, List.getElem?_toArray, List.getElem?_append_left (by simp; omega), bv, List.getElem?_map, List.getElem?_eq_getElem (by omega)]
          rfl
        simp [-Int.natCast_add, go_sem, hlt, hh', hCi, hw1, u8_succ]
        refine hKN _ _ ⟨i + 1, l'.set i (l'[i]'(by omega) + 1), by omega, rfl, by simp [hl'], mW.setCell (.inr (nW b rfl)) _ _, by simp [hl'], .inr ⟨b, cap, rest, rfl, hc, ?_, hr1, hr2⟩⟩ (by simp; omega)
        show hp _ b = _
        simp [go_sem, hh']
        rw [← hC]
        apply Array.ext'
        rw [Array.toList_setIfInBounds]
        show (bv l' ++ rest).set i _ = _
        rw [List.set_append_left _ _ (by simp; omega), u8_mod, bv_set]
      · have hil : i = l.length := by omega
        subst hil
        simp [go_sem]
        exact hK _ mW
  have hrd : ∀ m, D.readB f a m = rreadB R f a m := fun m => hs.read f a m
  refine ca_read h (by omega) (fun ho => ?_) (fun ho hm => ?_) (fun ho hm w1 v1 o1 m1 n1 => ?_)
  · simp [go_sem]
    refine ca_rread hr hlens (by rw [← hs.waits]; omega) (by omega) (fun _ => ?_) (fun h => absurd (hs.off ▸ ho) (by rw [h]; simp)) (fun h => absurd (hs.off ▸ ho) (by rw [h]; simp))
    simp [go_sem]
    refine JoinW.at (fun s W => s = (.bool true, ()) ∧ Mod (fun _ => False) w W) ?_ ?_
    · refine rx_toStr (n := 0) (l := []) Try.underlying23 Try.underlying5 Try.underlying9 (Own.nil w 5 1).rd ?_
      refine rx_toStr (n := 0) (l := []) Try.underlying23 Try.underlying5 Try.underlying9 (Own.nil w 5 1).rd ?_
      simp [go_sem]
      exact Mod.refl _ _
    rintro _ W ⟨rfl, mW⟩
    exact key W _ [] (by simp) mW (Own.nil ..) fun b hb => by cases hb
  · simp [go_sem]
    refine ca_rread hr hlens (by rw [← hs.waits]; omega) (by omega) (fun h => absurd ho (by rw [hs.off, h]; simp)) (fun _ _ => ?_) (fun _ h => absurd hm (by rw [h]; simp))
    simp [go_sem]
    refine JoinW.at (fun s W => s = (.bool true, ()) ∧ Mod (fun _ => False) w W) ?_ ?_
    · refine rx_toStr (n := 0) (l := []) Try.underlying23 Try.underlying5 Try.underlying9 (Own.nil w 5 1).rd ?_
      refine rx_toStr (n := 0) (l := []) Try.underlying23 Try.underlying5 Try.underlying9 (Own.nil w 5 1).rd ?_
      simp [go_sem]
      exact Mod.refl _ _
    rintro _ W ⟨rfl, mW⟩
    exact key W _ [] (by simp) mW (Own.nil ..) fun b hb => by cases hb
  · simp [go_sem]
    refine ca_rread (hr.mod m1 fun _ _ h => h) hlens (by rw [← hs.waits]; omega) (by omega) (fun h => absurd ho (by rw [hs.off, h]; simp)) (fun _ h => absurd hm (by rw [h]; simp)) (fun _ _ w2 v2 o2 m2 n2 => ?_)
    simp [go_sem]
    have o1' := o1.mod m2 fun _ _ h => h
    have hbl : (D.readB f a n.toNat).length = n.toNat * 128 := by
      have := o1.1
      simpa using this
    have hnn : n.toNat ≤ 8192 := by simp [mayB] at hm; omega
    refine JoinW.at (fun s W => s = (.bool true, ()) ∧ W = w2) ?_ ?_
    · refine rx_toStr Try.underlying23 Try.underlying5 Try.underlying9 o1'.rd ?_
      refine rx_toStr Try.underlying23 Try.underlying5 Try.underlying9 o2.rd ?_
      simp [go_sem, hrd]
    rintro _ W ⟨rfl, rfl⟩
    exact key W _ (D.readB f a n.toNat) (by omega) (m1.trans m2) (by rw [hbl]; exact o1') n1
end Go.Proofs
