/-
  The disk's plain laws, of any file.
  Conditions: where they ask for any, each theorem names them.
-/
import Derived.Test.YteldcaeicgobfaaVoteD
import Derived.Test.YteldcaeicgobfaaRefW
set_option linter.unusedVariables false
set_option linter.unusedSimpArgs false
namespace Go.Proofs
open Go Go.Vc

/-- What lasts. -/
def cnt (D : DM) : Pl → Sec := fun k => (lk D.lasts k).getD zsec
def upd : (Pl → Sec) → List (Pl × Sec) → Pl → Sec
  | c, [] => c
  | c, (k, s) :: T => upd (fun j => if k = j then s else c j) T
theorem cnt_putL : ∀ (T L : List (Pl × Sec)), (fun k => (lk (putL L T) k).getD zsec) = upd (fun k => (lk L k).getD zsec) T
  | [], L => rfl
  | (a, s) :: T, L => by
    have h := cnt_putL T (put L a s)
    show (fun k => (lk (putL (put L a s) T) k).getD zsec) = upd (fun j => if a = j then s else (lk L j).getD zsec) T
    rw [h]
    congr 1
    funext i
    rw [lk_put]
    by_cases e : a = i
    · simp [e]
    · simp [e]
theorem upd_app : ∀ (T T' : List (Pl × Sec)) (c : Pl → Sec), upd c (T ++ T') = upd (upd c T) T'
  | [], T', c => rfl
  | (a, s) :: T, T', c => upd_app T T' _
theorem upd_not : ∀ (T : List (Pl × Sec)) (c : Pl → Sec) (i : Pl), (∀ x ∈ T, x.1 ≠ i) → upd c T i = c i
  | [], c, i, _ => rfl
  | (a, s) :: T, c, i, h => by
    unfold upd
    rw [upd_not T _ i fun x hx => h x (List.mem_cons_of_mem _ hx), if_neg (h (a, s) (List.mem_cons_self ..))]
theorem upd_len : ∀ (T : List (Pl × Sec)) (c : Pl → Sec), (∀ i, (c i).length = 128) → (∀ x ∈ T, x.2.length = 128) → ∀ i, (upd c T i).length = 128
  | [], c, h, _, i => h i
  | (a, s) :: T, c, h, ht, i => by
    unfold upd
    refine upd_len T _ (fun i => ?_) (fun x hx => ht x (List.mem_cons_of_mem _ hx)) i
    split
    · exact ht (a, s) (List.mem_cons_self ..)
    · exact h i
/-- Either not written, or what was written. -/
theorem upd_or : ∀ (T : List (Pl × Sec)) (c : Pl → Sec) (i : Pl), upd c T i = c i ∨ ∃ x ∈ T, x.1 = i ∧ upd c T i = x.2
  | [], c, i => .inl rfl
  | (a, s) :: T, c, i => by
    unfold upd
    rcases upd_or T (fun j => if a = j then s else c j) i with h | ⟨x, hx, h1, h2⟩
    · by_cases e : a = i
      · exact .inr ⟨(a, s), List.mem_cons_self .., e, by rw [h, if_pos e]⟩
      · exact .inl (by rw [h, if_neg e])
    · exact .inr ⟨x, List.mem_cons_of_mem _ hx, h1, h2⟩
theorem secAt_is (D : DM) (f a : Int) : D.secAt f a = upd (cnt D) D.waits (f, a) := congrFun (cnt_putL D.waits D.lasts) (f, a)
theorem cnt_len {D : DM} (h : LenOk D) (i : Pl) : (cnt D i).length = 128 := lk_sec h _
theorem readB_now {D : DM} (hw : D.waits = []) (f a : Int) (n : Nat) : D.readB f a n = (List.range n).flatMap fun j : Nat => cnt D (f, a + (j : Int)) := by
  unfold DM.readB
  congr 1
  funext j
  rw [secAt_is, hw]
  rfl

/-- Sectors from a on. -/
def tagS (f : Int) : Int → List Sec → List (Pl × Sec)
  | _, [] => []
  | a, s :: r => ((f, a), s) :: tagS f (a + 1) r
theorem tagS_length (f : Int) : ∀ (l : List Sec) (a : Int), (tagS f a l).length = l.length
  | [], _ => rfl
  | s :: r, a => by simp [tagS, tagS_length f r]
theorem tagS_get (f : Int) : ∀ (l : List Sec) (a : Int) (i : Nat) (h : i < l.length), (tagS f a l)[i]? = some ((f, a + (i : Int)), l[i])
  | s :: r, a, 0, _ => by simp [tagS]
  | s :: r, a, i + 1, h => by
    simp only [tagS, List.getElem?_cons_succ, List.getElem_cons_succ]
    rw [tagS_get f r (a + 1) i (by simpa using h)]
    congr 3
    omega
theorem tagS_mem {f : Int} {l : List Sec} {a : Int} {x : Pl × Sec} (h : x ∈ tagS f a l) : ∃ i, ∃ hi : i < l.length, x = ((f, a + (i : Int)), l[i]) := by
  obtain ⟨i, hi, he⟩ := List.getElem_of_mem h
  rw [tagS_length] at hi
  have := tagS_get f l a i hi
  rw [List.getElem?_eq_getElem (by rw [tagS_length]; exact hi), he] at this
  exact ⟨i, hi, Option.some.inj this⟩
/-- What stands at a place behind a row of sectors. -/
theorem upd_tag (c : Pl → Sec) (f : Int) : ∀ (l : List Sec) (a b : Int), upd c (tagS f a l) (f, b) = if h : a ≤ b ∧ (b - a).toNat < l.length then l[(b - a).toNat] else c (f, b)
  | [], a, b => by simp [tagS, upd]
  | s :: r, a, b => by
    simp only [tagS, upd]
    rw [upd_tag _ f r (a + 1) b]
    by_cases e : a = b
    · subst e
      rw [dif_neg (by omega), if_pos rfl, dif_pos (by simp)]
      simp
    · by_cases h : a + 1 ≤ b ∧ (b - (a + 1)).toNat < r.length
      · have e1 : (b - a).toNat = (b - (a + 1)).toNat + 1 := by omega
        rw [dif_pos h, dif_pos ⟨by omega, by simp; omega⟩]
        simp only [e1, List.getElem_cons_succ]
      · rw [dif_neg h, if_neg (by simpa using e), dif_neg (by simp; omega)]
theorem upd_tag_other (c : Pl → Sec) {f g : Int} (hfg : f ≠ g) (l : List Sec) (a b : Int) : upd c (tagS f a l) (g, b) = c (g, b) :=
  upd_not _ _ _ fun x hx e => by
    obtain ⟨i, _, rfl⟩ := tagS_mem hx
    injection e with e1 e2
    exact hfg e1

theorem write1_spec (f : Int) : ∀ (l : List Sec) (D : DM) (a : Int), D.off = false →
    ∃ j, (D.write1 f a l).2.lasts = D.lasts ∧ (D.write1 f a l).2.waits = D.waits ++ (tagS f a l).take j ∧
      (((D.write1 f a l).1 = 0 ∧ (tagS f a l).take j = tagS f a l ∧ (D.write1 f a l).2.off = false) ∨ ((D.write1 f a l).1 = 180 ∧ (D.write1 f a l).2.off = true)) ∧ (D.armed = false → (D.write1 f a l).1 = 0 ∧ (D.write1 f a l).2.armed = false)
  | [], D, a, ho => ⟨0, rfl, by simp [DM.write1], .inl ⟨rfl, rfl, ho⟩, fun h => ⟨rfl, h⟩⟩
  | s :: l, D, a, ho => by
    obtain ⟨s1, s2, s3, s4, s5⟩ := step_is D
    unfold DM.write1
    cases hs : D.step.1
    · refine ⟨0, ?_⟩
      simp only [Bool.false_eq_true, if_false]
      refine ⟨s1, by simp [s2], .inr ⟨trivial, s4 hs⟩, fun h => ?_⟩
      rw [s5 h] at hs
      cases hs
    · simp only [if_true]
      obtain ⟨j, g1, g2, g3, g4⟩ := write1_spec f l { D.step.2 with waits := D.step.2.waits ++ [((f, a), s)] } (a + 1) ((s3 hs).trans ho)
      refine ⟨j + 1, g1.trans s1, ?_, ?_, fun h => g4 ?_⟩
      · rw [g2]
        simp [tagS, s2]
      · rcases g3 with ⟨g3, g5, g6⟩ | g3
        · exact .inl ⟨g3, by simp only [tagS, List.take_succ_cons, g5], g6⟩
        · exact .inr g3
      · show D.step.2.armed = false
        rw [s5 h]
        exact h
/-- A write of whole sectors to places that are. -/
theorem write_spec {D : DM} {f a : Int} {bs : List UInt8} {k : Nat} (ho : D.off = false) (hl : bs.length = 128 * k) (hm : mayB f a k = true) :
    ∃ j, (D.write f a bs).2.lasts = D.lasts ∧ (D.write f a bs).2.waits = D.waits ++ (tagS f a (chunks bs k)).take j ∧
      (((D.write f a bs).1 = 0 ∧ (tagS f a (chunks bs k)).take j = tagS f a (chunks bs k) ∧ (D.write f a bs).2.off = false) ∨ ((D.write f a bs).1 = 180 ∧ (D.write f a bs).2.off = true)) ∧ (D.armed = false → (D.write f a bs).1 = 0 ∧ (D.write f a bs).2.armed = false) := by
  have e : bs.length / 128 = k := by omega
  have h0 : bs.length % 128 = 0 := by omega
  unfold DM.write
  rw [if_neg (by simp [ho]), e, if_pos ⟨h0, hm⟩]
  exact write1_spec f _ _ _ ho
/-- An unarmed disk takes them. -/
theorem write_ok {D : DM} {f a : Int} {bs : List UInt8} {k : Nat} (ho : D.off = false) (ha : D.armed = false) (hl : bs.length = 128 * k) (hm : mayB f a k = true) :
    (D.write f a bs).1 = 0 ∧ (D.write f a bs).2.lasts = D.lasts ∧ (D.write f a bs).2.waits = D.waits ++ tagS f a (chunks bs k) ∧ (D.write f a bs).2.off = false ∧ (D.write f a bs).2.armed = false := by
  obtain ⟨j, h1, h2, h3, h4⟩ := write_spec ho hl hm
  obtain ⟨h5, h6⟩ := h4 ha
  rcases h3 with ⟨h7, h8, h9⟩ | ⟨h7, h8⟩
  · exact ⟨h7, h1, by rw [h2, h8], h9, h6⟩
  · rw [h7] at h5; cases h5
theorem sync_ok {D : DM} (ho : D.off = false) (ha : D.armed = false) : D.sync.1 = 0 ∧ cnt D.sync.2 = upd (cnt D) D.waits ∧ D.sync.2.waits = [] ∧ D.sync.2.off = false ∧ D.sync.2.armed = false := by
  obtain ⟨h, h2⟩ := sync_is (D := D) ho
  obtain ⟨h3, h4⟩ := h2 ha
  rcases h with ⟨g1, g2, g3, g4⟩ | ⟨g1, _⟩
  · refine ⟨g1, ?_, g3, g4, h4⟩
    unfold cnt
    rw [g2]
    exact cnt_putL _ _
  · rw [g1] at h3; cases h3
/-- What lasts of what waited. -/
def CrashedP (l T : List (Pl × Sec)) : Prop := (∃ k, T = l.take k) ∨ ∃ k x t, t.length = 128 ∧ l[k]? = some x ∧ T = l.take k ++ [(x.1, t)]
theorem crash_cnt (D : DM) (keep : Nat) (torn : List UInt8) : ∃ T, CrashedP D.waits T ∧ cnt (D.crash keep torn) = upd (cnt D) T := by
  have h1 := cnt_putL (D.waits.take keep) D.lasts
  cases hk : D.waits[keep]? with
  | none =>
    refine ⟨D.waits.take keep, .inl ⟨_, rfl⟩, ?_⟩
    unfold cnt
    rw [← h1]
    funext i
    unfold DM.crash
    rw [hk]
  | some p =>
    by_cases ht : torn = []
    · refine ⟨D.waits.take keep, .inl ⟨_, rfl⟩, ?_⟩
      unfold cnt
      rw [← h1]
      funext i
      unfold DM.crash
      rw [hk]
      simp only [ht, if_true]
    · refine ⟨D.waits.take keep ++ [(p.1, tornSec torn)], .inr ⟨keep, p, tornSec torn, tornSec_length _, hk, rfl⟩, ?_⟩
      have h2 := cnt_putL (D.waits.take keep ++ [(p.1, tornSec torn)]) D.lasts
      unfold cnt
      rw [← h2, ← putL_append]
      funext i
      unfold DM.crash
      rw [hk]
      simp only [ht, if_false]
      rfl
theorem crash_off (D : DM) (keep : Nat) (torn : List UInt8) : (D.crash keep torn).off = false ∧ (D.crash keep torn).armed = false ∧ (D.crash keep torn).waits = [] := by
  exact ⟨rfl, rfl, rfl⟩
end Go.Proofs

namespace Go.Proofs
open Go Go.Vc

def tagF (f : Int) (x : Int × Sec) : Pl × Sec := ((f, x.1), x.2)
theorem upd_tagF (f : Int) : ∀ (l : List (Int × Sec)) (c : Pl → Sec), (fun i : Nat => upd c (l.map (tagF f)) (f, (i : Int))) = updC (fun i : Nat => c (f, (i : Int))) l
  | [], c => rfl
  | (a, s) :: l, c => by
    show (fun i : Nat => upd (fun j => if (f, a) = j then s else c j) (l.map (tagF f)) (f, (i : Int))) = updC (fun i : Nat => if a = (i : Int) then s else c (f, (i : Int))) l
    rw [upd_tagF f l]
    congr 1
    funext i
    simp
theorem writes_okF {f : Int} (hf : 0 ≤ f ∧ f < 5) : ∀ (l : List (Int × Sec)) (D : DM), D.off = false → D.armed = false → (∀ x ∈ l, x.2.length = 128 ∧ 0 ≤ x.1 ∧ x.1 < 8192) →
    (D.writes f l).1 = 0 ∧ (D.writes f l).2.lasts = D.lasts ∧ (D.writes f l).2.waits = D.waits ++ l.map (tagF f) ∧ (D.writes f l).2.off = false ∧ (D.writes f l).2.armed = false
  | [], D, ho, ha, _ => ⟨rfl, rfl, by simp [DM.writes], ho, ha⟩
  | (a, s) :: l, D, ho, ha, hl => by
    obtain ⟨h1, h2, h3⟩ := hl (a, s) (List.mem_cons_self ..)
    obtain ⟨g1, g2, g3, g4, g5⟩ := write_ok (f := f) (a := a) (bs := s) (k := 1) ho ha (by omega) (by simp [mayB]; omega)
    have hc : chunks s 1 = [s] := by simp [chunks, ← h1]
    rw [hc] at g3
    unfold DM.writes
    simp only [g1, if_true]
    obtain ⟨k1, k2, k3, k4, k5⟩ := writes_okF hf l _ g4 g5 fun x hx => hl x (List.mem_cons_of_mem _ hx)
    refine ⟨k1, k2.trans g2, ?_, k4, k5⟩
    rw [k3, g3]
    simp [tagS, tagF]

theorem neq0 (W : World) : (bin .neq 28 true (.int .i64 0) (.int .i64 0)).run Try.prog W = .ok (.bool false) W := by simp [go_sem]
theorem eql0 (W : World) : (bin .eql 28 true (.int .i64 0) (.int .i64 0)).run Try.prog W = .ok (.bool true) W := by simp [go_sem]

set_option maxRecDepth 10000 in
theorem DiskR.len {w : World} {d : Nat} {F : Nat → Prop} {D : DM} (h : DiskR w d F D) : LenOk D := h.elim fun _ h => h.lasts

end Go.Proofs
