/-
  The disk's plain laws, of any file: contents behind writes, syncs and crashes.
  What an opening makes of six sectors, plainly.
  The walk of the law VoteReads.
  Conditions: where they ask for any, each theorem names them.
-/
import Derived.Test.YteldcaeicgobfaaVoteD
import Derived.Test.YteldcaeicgobfaaRefV
set_option linter.unusedVariables false
set_option linter.unusedSimpArgs false
namespace Go.Proofs
open Go Go.Vc

/-- What lasts. -/
def cnt (D : DM) : Pl → Sec := fun k => (lk D.lasts k).getD zsec
def upd : (Pl → Sec) → List (Pl × Sec) → Pl → Sec
  | c, [] => c
  | c, (k, s) :: T => upd (fun j => if k = j then s else c j) T
theorem cnt_putL : ∀ (T L : List (Pl × Sec)), (fun k => (lk (putL L T) k).getD zsec) = upd (fun k => (lk L k).getD zsec) T
  | [], L => rfl
  | (a, s) :: T, L => by
    have h := cnt_putL T (put L a s)
    show (fun k => (lk (putL (put L a s) T) k).getD zsec) = upd (fun j => if a = j then s else (lk L j).getD zsec) T
    rw [h]
    congr 1
    funext i
    rw [lk_put]
    by_cases e : a = i
    · simp [e]
    · simp [e]
theorem upd_app : ∀ (T T' : List (Pl × Sec)) (c : Pl → Sec), upd c (T ++ T') = upd (upd c T) T'
  | [], T', c => rfl
  | (a, s) :: T, T', c => upd_app T T' _
theorem upd_not : ∀ (T : List (Pl × Sec)) (c : Pl → Sec) (i : Pl), (∀ x ∈ T, x.1 ≠ i) → upd c T i = c i
  | [], c, i, _ => rfl
  | (a, s) :: T, c, i, h => by
    unfold upd
    rw [upd_not T _ i fun x hx => h x (List.mem_cons_of_mem _ hx), if_neg (h (a, s) (List.mem_cons_self ..))]
theorem upd_len : ∀ (T : List (Pl × Sec)) (c : Pl → Sec), (∀ i, (c i).length = 128) → (∀ x ∈ T, x.2.length = 128) → ∀ i, (upd c T i).length = 128
  | [], c, h, _, i => h i
  | (a, s) :: T, c, h, ht, i => by
    unfold upd
    refine upd_len T _ (fun i => ?_) (fun x hx => ht x (List.mem_cons_of_mem _ hx)) i
    split
    · exact ht (a, s) (List.mem_cons_self ..)
    · exact h i
/-- Either not written, or what was written. -/
theorem upd_or : ∀ (T : List (Pl × Sec)) (c : Pl → Sec) (i : Pl), upd c T i = c i ∨ ∃ x ∈ T, x.1 = i ∧ upd c T i = x.2
  | [], c, i => .inl rfl
  | (a, s) :: T, c, i => by
    unfold upd
    rcases upd_or T (fun j => if a = j then s else c j) i with h | ⟨x, hx, h1, h2⟩
    · by_cases e : a = i
      · exact .inr ⟨(a, s), List.mem_cons_self .., e, by rw [h, if_pos e]⟩
      · exact .inl (by rw [h, if_neg e])
    · exact .inr ⟨x, List.mem_cons_of_mem _ hx, h1, h2⟩
theorem secAt_is (D : DM) (f a : Int) : D.secAt f a = upd (cnt D) D.waits (f, a) := congrFun (cnt_putL D.waits D.lasts) (f, a)
theorem cnt_len {D : DM} (h : LenOk D) (i : Pl) : (cnt D i).length = 128 := lk_sec h _
theorem readB_now {D : DM} (hw : D.waits = []) (f a : Int) (n : Nat) : D.readB f a n = (List.range n).flatMap fun j : Nat => cnt D (f, a + (j : Int)) := by
  unfold DM.readB
  congr 1
  funext j
  rw [secAt_is, hw]
  rfl

/-- Sectors from a on. -/
def tagS (f : Int) : Int → List Sec → List (Pl × Sec)
  | _, [] => []
  | a, s :: r => ((f, a), s) :: tagS f (a + 1) r
theorem tagS_length (f : Int) : ∀ (l : List Sec) (a : Int), (tagS f a l).length = l.length
  | [], _ => rfl
  | s :: r, a => by simp [tagS, tagS_length f r]
theorem tagS_get (f : Int) : ∀ (l : List Sec) (a : Int) (i : Nat) (h : i < l.length), (tagS f a l)[i]? = some ((f, a + (i : Int)), l[i])
  | s :: r, a, 0, _ => by simp [tagS]
  | s :: r, a, i + 1, h => by
    simp only [tagS, List.getElem?_cons_succ, List.getElem_cons_succ]
    rw [tagS_get f r (a + 1) i (by simpa using h)]
    congr 3
    omega
theorem tagS_mem {f : Int} {l : List Sec} {a : Int} {x : Pl × Sec} (h : x ∈ tagS f a l) : ∃ i, ∃ hi : i < l.length, x = ((f, a + (i : Int)), l[i]) := by
  obtain ⟨i, hi, he⟩ := List.getElem_of_mem h
  rw [tagS_length] at hi
  have := tagS_get f l a i hi
  rw [List.getElem?_eq_getElem (by rw [tagS_length]; exact hi), he] at this
  exact ⟨i, hi, Option.some.inj this⟩
/-- What stands at a place behind a row of sectors. -/
theorem upd_tag (c : Pl → Sec) (f : Int) : ∀ (l : List Sec) (a b : Int), upd c (tagS f a l) (f, b) = if h : a ≤ b ∧ (b - a).toNat < l.length then l[(b - a).toNat] else c (f, b)
  | [], a, b => by simp [tagS, upd]
  | s :: r, a, b => by
    simp only [tagS, upd]
    rw [upd_tag _ f r (a + 1) b]
    by_cases e : a = b
    · subst e
      rw [dif_neg (by omega), if_pos rfl, dif_pos (by simp)]
      simp
    · by_cases h : a + 1 ≤ b ∧ (b - (a + 1)).toNat < r.length
      · have e1 : (b - a).toNat = (b - (a + 1)).toNat + 1 := by omega
        rw [dif_pos h, dif_pos ⟨by omega, by simp; omega⟩]
        simp only [e1, List.getElem_cons_succ]
      · rw [dif_neg h, if_neg (by simpa using e), dif_neg (by simp; omega)]
theorem upd_tag_other (c : Pl → Sec) {f g : Int} (hfg : f ≠ g) (l : List Sec) (a b : Int) : upd c (tagS f a l) (g, b) = c (g, b) :=
  upd_not _ _ _ fun x hx e => by
    obtain ⟨i, _, rfl⟩ := tagS_mem hx
    injection e with e1 e2
    exact hfg e1

theorem write1_spec (f : Int) : ∀ (l : List Sec) (D : DM) (a : Int), D.off = false →
    ∃ j, (D.write1 f a l).2.lasts = D.lasts ∧ (D.write1 f a l).2.waits = D.waits ++ (tagS f a l).take j ∧
      (((D.write1 f a l).1 = 0 ∧ (tagS f a l).take j = tagS f a l ∧ (D.write1 f a l).2.off = false) ∨ ((D.write1 f a l).1 = 180 ∧ (D.write1 f a l).2.off = true)) ∧ (D.armed = false → (D.write1 f a l).1 = 0 ∧ (D.write1 f a l).2.armed = false)
  | [], D, a, ho => ⟨0, rfl, by simp [DM.write1], .inl ⟨rfl, rfl, ho⟩, fun h => ⟨rfl, h⟩⟩
  | s :: l, D, a, ho => by
    obtain ⟨s1, s2, s3, s4, s5⟩ := step_is D
    unfold DM.write1
    cases hs : D.step.1
    · refine ⟨0, ?_⟩
      simp only [Bool.false_eq_true, if_false]
      refine ⟨s1, by simp [s2], .inr ⟨trivial, s4 hs⟩, fun h => ?_⟩
      rw [s5 h] at hs
      cases hs
    · simp only [if_true]
      obtain ⟨j, g1, g2, g3, g4⟩ := write1_spec f l { D.step.2 with waits := D.step.2.waits ++ [((f, a), s)] } (a + 1) ((s3 hs).trans ho)
      refine ⟨j + 1, g1.trans s1, ?_, ?_, fun h => g4 ?_⟩
      · rw [g2]
        simp [tagS, s2]
      · rcases g3 with ⟨g3, g5, g6⟩ | g3
        · exact .inl ⟨g3, by simp only [tagS, List.take_succ_cons, g5], g6⟩
        · exact .inr g3
      · show D.step.2.armed = false
        rw [s5 h]
        exact h
/-- A write of whole sectors to places that are. -/
theorem write_spec {D : DM} {f a : Int} {bs : List UInt8} {k : Nat} (ho : D.off = false) (hl : bs.length = 128 * k) (hm : mayB f a k = true) :
    ∃ j, (D.write f a bs).2.lasts = D.lasts ∧ (D.write f a bs).2.waits = D.waits ++ (tagS f a (chunks bs k)).take j ∧
      (((D.write f a bs).1 = 0 ∧ (tagS f a (chunks bs k)).take j = tagS f a (chunks bs k) ∧ (D.write f a bs).2.off = false) ∨ ((D.write f a bs).1 = 180 ∧ (D.write f a bs).2.off = true)) ∧ (D.armed = false → (D.write f a bs).1 = 0 ∧ (D.write f a bs).2.armed = false) := by
  have e : bs.length / 128 = k := by omega
  have h0 : bs.length % 128 = 0 := by omega
  unfold DM.write
  rw [if_neg (by simp [ho]), e, if_pos ⟨h0, hm⟩]
  exact write1_spec f _ _ _ ho
/-- An unarmed disk takes them. -/
theorem write_ok {D : DM} {f a : Int} {bs : List UInt8} {k : Nat} (ho : D.off = false) (ha : D.armed = false) (hl : bs.length = 128 * k) (hm : mayB f a k = true) :
    (D.write f a bs).1 = 0 ∧ (D.write f a bs).2.lasts = D.lasts ∧ (D.write f a bs).2.waits = D.waits ++ tagS f a (chunks bs k) ∧ (D.write f a bs).2.off = false ∧ (D.write f a bs).2.armed = false := by
  obtain ⟨j, h1, h2, h3, h4⟩ := write_spec ho hl hm
  obtain ⟨h5, h6⟩ := h4 ha
  rcases h3 with ⟨h7, h8, h9⟩ | ⟨h7, h8⟩
  · exact ⟨h7, h1, by rw [h2, h8], h9, h6⟩
  · rw [h7] at h5; cases h5
theorem sync_ok {D : DM} (ho : D.off = false) (ha : D.armed = false) : D.sync.1 = 0 ∧ cnt D.sync.2 = upd (cnt D) D.waits ∧ D.sync.2.waits = [] ∧ D.sync.2.off = false ∧ D.sync.2.armed = false := by
  obtain ⟨h, h2⟩ := sync_is (D := D) ho
  obtain ⟨h3, h4⟩ := h2 ha
  rcases h with ⟨g1, g2, g3, g4⟩ | ⟨g1, _⟩
  · refine ⟨g1, ?_, g3, g4, h4⟩
    unfold cnt
    rw [g2]
    exact cnt_putL _ _
  · rw [g1] at h3; cases h3
/-- What lasts of what waited. -/
def CrashedP (l T : List (Pl × Sec)) : Prop := (∃ k, T = l.take k) ∨ ∃ k x t, t.length = 128 ∧ l[k]? = some x ∧ T = l.take k ++ [(x.1, t)]
theorem crash_cnt (D : DM) (keep : Nat) (torn : List UInt8) : ∃ T, CrashedP D.waits T ∧ cnt (D.crash keep torn) = upd (cnt D) T := by
  have h1 := cnt_putL (D.waits.take keep) D.lasts
  cases hk : D.waits[keep]? with
  | none =>
    refine ⟨D.waits.take keep, .inl ⟨_, rfl⟩, ?_⟩
    unfold cnt
    rw [← h1]
    funext i
    unfold DM.crash
    rw [hk]
  | some p =>
    by_cases ht : torn = []
    · refine ⟨D.waits.take keep, .inl ⟨_, rfl⟩, ?_⟩
      unfold cnt
      rw [← h1]
      funext i
      unfold DM.crash
      rw [hk]
      simp only [ht, if_true]
    · refine ⟨D.waits.take keep ++ [(p.1, tornSec torn)], .inr ⟨keep, p, tornSec torn, tornSec_length _, hk, rfl⟩, ?_⟩
      have h2 := cnt_putL (D.waits.take keep ++ [(p.1, tornSec torn)]) D.lasts
      unfold cnt
      rw [← h2, ← putL_append]
      funext i
      unfold DM.crash
      rw [hk]
      simp only [ht, if_false]
      rfl
theorem crash_off (D : DM) (keep : Nat) (torn : List UInt8) : (D.crash keep torn).off = false ∧ (D.crash keep torn).armed = false ∧ (D.crash keep torn).waits = [] := by
  exact ⟨rfl, rfl, rfl⟩
end Go.Proofs

namespace Go.Proofs
open Go Go.Vc

def tagF (f : Int) (x : Int × Sec) : Pl × Sec := ((f, x.1), x.2)
theorem upd_tagF (f : Int) : ∀ (l : List (Int × Sec)) (c : Pl → Sec), (fun i : Nat => upd c (l.map (tagF f)) (f, (i : Int))) = updC (fun i : Nat => c (f, (i : Int))) l
  | [], c => rfl
  | (a, s) :: l, c => by
    show (fun i : Nat => upd (fun j => if (f, a) = j then s else c j) (l.map (tagF f)) (f, (i : Int))) = updC (fun i : Nat => if a = (i : Int) then s else c (f, (i : Int))) l
    rw [upd_tagF f l]
    congr 1
    funext i
    simp
theorem writes_okF {f : Int} (hf : 0 ≤ f ∧ f < 5) : ∀ (l : List (Int × Sec)) (D : DM), D.off = false → D.armed = false → (∀ x ∈ l, x.2.length = 128 ∧ 0 ≤ x.1 ∧ x.1 < 8192) →
    (D.writes f l).1 = 0 ∧ (D.writes f l).2.lasts = D.lasts ∧ (D.writes f l).2.waits = D.waits ++ l.map (tagF f) ∧ (D.writes f l).2.off = false ∧ (D.writes f l).2.armed = false
  | [], D, ho, ha, _ => ⟨rfl, rfl, by simp [DM.writes], ho, ha⟩
  | (a, s) :: l, D, ho, ha, hl => by
    obtain ⟨h1, h2, h3⟩ := hl (a, s) (List.mem_cons_self ..)
    obtain ⟨g1, g2, g3, g4, g5⟩ := write_ok (f := f) (a := a) (bs := s) (k := 1) ho ha (by omega) (by simp [mayB]; omega)
    have hc : chunks s 1 = [s] := by simp [chunks, ← h1]
    rw [hc] at g3
    unfold DM.writes
    simp only [g1, if_true]
    obtain ⟨k1, k2, k3, k4, k5⟩ := writes_okF hf l _ g4 g5 fun x hx => hl x (List.mem_cons_of_mem _ hx)
    refine ⟨k1, k2.trans g2, ?_, k4, k5⟩
    rw [k3, g3]
    simp [tagS, tagF]

def xC (i : Nat) (p : List UInt8) : List (Int × Sec) := if (readP p).1 = 0 then cleanFrom i p 0 else []
theorem clean_z (g : Nat) : cleanFrom g z384 0 = [] := by
  have h0 : secI z384 0 = zsec := by rw [z384_three]; exact secI_0 zsec_length
  have h1 : secI z384 1 = zsec := by rw [z384_three]; exact secI_1 zsec_length zsec_length
  have h2 : secI z384 2 = zsec := by rw [z384_three]; exact secI_2 zsec_length zsec_length zsec_length
  rw [clean_is, h0, h1, h2]
  simp
theorem xC_addr {i : Nat} {p : List UInt8} : ∀ x ∈ xC i p, x.2 = zsec ∧ ∃ j, j < 3 ∧ x.1 = ((3 * i + j : Nat) : Int) := fun x hx => by
  unfold xC at hx
  split at hx
  · exact clean_addr x hx
  · cases hx
/-- One round, on a disk that is not armed. -/
theorem vround_ok {B : List UInt8} {i : Nat} {s : OpenS} (hi : i < 2) (ho : s.D.off = false) (ha : s.D.armed = false) : (vround 0 B i s).1 = 0 ∧
    (vround 0 B i s).2.D.off = false ∧ (vround 0 B i s).2.D.armed = false ∧ (vround 0 B i s).2.D.lasts = s.D.lasts ∧ (vround 0 B i s).2.D.waits = s.D.waits ++ (xC i (placeI B i)).map (tagF 0) ∧
    ((vround 0 B i s).2.cl = false → s.cl = false ∧ xC i (placeI B i) = []) ∧
    ((vround 0 B i s).2.n, (vround 0 B i s).2.m) = if s.n < (readP (placeI B i)).1 then readP (placeI B i) else (s.n, s.m) := by
  unfold vround
  by_cases h1 : (readP (placeI B i)).1 > s.n
  · have hx : xC i (placeI B i) = [] := by unfold xC; rw [if_neg (by omega)]
    rw [if_pos h1, if_pos h1, hx]
    exact ⟨rfl, ho, ha, rfl, by simp, fun h => ⟨h, rfl⟩, rfl⟩
  · rw [if_neg h1, if_neg h1]
    by_cases h2 : (readP (placeI B i)).1 = 0 ∧ placeI B i ≠ z384
    · have hx : xC i (placeI B i) = cleanFrom i (placeI B i) 0 := by unfold xC; rw [if_pos h2.1]
      rw [if_pos h2, hx]
      obtain ⟨g1, g2, g3, g4, g5⟩ := writes_okF (f := 0) (by omega) (cleanFrom i (placeI B i) 0) s.D ho ha fun x hx => by
        obtain ⟨e1, j, hj, e2⟩ := clean_addr x hx
        rw [e1, e2]
        exact ⟨zsec_length, by omega, by omega⟩
      exact ⟨g1, g4, g5, g2, g3, (fun h => by cases h), rfl⟩
    · rw [if_neg h2]
      have hx : xC i (placeI B i) = [] := by
        unfold xC
        by_cases h3 : (readP (placeI B i)).1 = 0
        · have : placeI B i = z384 := by
            apply Classical.byContradiction
            intro h4
            exact h2 ⟨h3, h4⟩
          rw [if_pos h3, this, clean_z]
        · rw [if_neg h3]
      rw [hx]
      exact ⟨rfl, ho, ha, rfl, by simp, fun h => ⟨h, rfl⟩, rfl⟩

/-- A disk with B at the beginning of file 0. -/
structure Laid (B : List UInt8) (D : DM) : Prop where
  len : LenOk D
  off : D.off = false
  arm : D.armed = false
  waits : D.waits = []
  read : D.readB 0 0 6 = B
theorem plS_cnt {B : List UInt8} {D : DM} (h : Laid B D) : placeI B 0 = plS (fun i : Nat => cnt D (0, (i : Int))) 0 ∧ placeI B 1 = plS (fun i : Nat => cnt D (0, (i : Int))) 1 := by
  have l := cnt_len h.len
  have e : B = (cnt D (0, 0) ++ (cnt D (0, 1) ++ cnt D (0, 2))) ++ (cnt D (0, 3) ++ (cnt D (0, 4) ++ cnt D (0, 5))) := by
    rw [← h.read, readB_now h.waits]
    simp [List.range_succ]
  rw [e]
  constructor
  · unfold placeI plS
    rw [Nat.mul_zero, List.drop_zero]
    exact List.take_left' (by simp [l])
  · unfold placeI plS
    rw [show 384 * 1 = (cnt D (0, 0) ++ (cnt D (0, 1) ++ cnt D (0, 2))).length by simp [l], List.drop_left]
    exact List.take_of_length_le (by simp [l])
theorem plS_other {c : Nat → Sec} {i k : Nat} {p : List UInt8} (h : i ≠ k) : plS (updC c (xC i p)) k = plS c k :=
  plS_congr fun j hj => updC_not _ _ _ fun x hx e => by
    obtain ⟨-, j', hj', e'⟩ := xC_addr x hx
    rw [e'] at e
    omega
theorem plS_same {c : Nat → Sec} {i : Nat} (hl : ∀ i, (c i).length = 128) : plS (updC c (xC i (plS c i))) i = cl1 (plS c i) := by
  unfold xC cl1
  split
  · exact clean_all hl
  · rfl

theorem vopen_reads {B : List UInt8} {D : DM} (h : Laid B D) : (D.vopen 0).1 = 0 ∧ ((D.vopen 0).2.n, (D.vopen 0).2.m) = fileP B ∧ (D.vopen 0).2.D.waits = [] ∧ (D.vopen 0).2.D.off = false ∧ (D.vopen 0).2.D.readB 0 0 6 = cleanL B 2 := by
  have hv : D.vopen 0 = vlast (vgo 0 B [0, 1] (open0 D)) := by
    unfold DM.vopen
    rw [if_neg (by simp [h.off]), if_neg (by decide), h.read]
  obtain ⟨a1, a2, a3, a4, a5, a6, a7⟩ := vround_ok (B := B) (i := 0) (s := open0 D) (by omega) h.off h.arm
  obtain ⟨b1, b2, b3, b4, b5, b6, b7⟩ := vround_ok (B := B) (i := 1) (s := (vround 0 B 0 (open0 D)).2) (by omega) a2 a3
  have hg : vgo 0 B [0, 1] (open0 D) = vround 0 B 1 (vround 0 B 0 (open0 D)).2 := by rw [vgo_two, if_pos a1]
  have hw : (open0 D).D.waits = [] := h.waits
  have hl : (open0 D).D.lasts = D.lasts := rfl
  rw [a5, hw, List.nil_append] at b5
  rw [a4, hl] at b4
  have hn : ((vgo 0 B [0, 1] (open0 D)).2.n, (vgo 0 B [0, 1] (open0 D)).2.m) = fileP B := by
    rw [hg, b7]
    have e0 : ((open0 D).n, (open0 D).m) = (0, mK0) := rfl
    have e1 : (open0 D).n = 0 := rfl
    rw [e0, e1] at a7
    unfold fileP
    obtain ⟨n0, m0, h0⟩ : ∃ n m, readP (placeI B 0) = (n, m) := ⟨_, _, rfl⟩
    obtain ⟨n1, m1, h1⟩ : ∃ n m, readP (placeI B 1) = (n, m) := ⟨_, _, rfl⟩
    rw [h0] at a7
    rw [h0, h1]
    simp only at a7 ⊢
    by_cases hz : 0 < n0
    · rw [if_pos hz] at a7
      injection a7 with c1 c2
      rw [c1, c2, if_neg (show ¬(n0 = 0 ∧ n1 = 0) by omega)]
    · have : n0 = 0 := by omega
      subst this
      rw [if_neg hz] at a7
      injection a7 with c1 c2
      rw [c1, c2]
      by_cases hz1 : 0 < n1
      · rw [if_pos hz1, if_neg (show ¬(0 = 0 ∧ n1 = 0) by omega), if_pos hz1]
      · rw [if_neg hz1, if_pos (show 0 = 0 ∧ n1 = 0 by omega)]
  -- behind the last step
  rw [hv]
  have key : (vlast (vgo 0 B [0, 1] (open0 D))).1 = 0 ∧ (vlast (vgo 0 B [0, 1] (open0 D))).2.D.waits = [] ∧ (vlast (vgo 0 B [0, 1] (open0 D))).2.D.off = false ∧
      cnt (vlast (vgo 0 B [0, 1] (open0 D))).2.D = upd (cnt D) ((xC 0 (placeI B 0)).map (tagF 0) ++ (xC 1 (placeI B 1)).map (tagF 0)) ∧
      ((vlast (vgo 0 B [0, 1] (open0 D))).2.n, (vlast (vgo 0 B [0, 1] (open0 D))).2.m) = ((vgo 0 B [0, 1] (open0 D)).2.n, (vgo 0 B [0, 1] (open0 D)).2.m) := by
    rw [hg]
    generalize hs : (vround 0 B 1 (vround 0 B 0 (open0 D)).2) = r at b1 b2 b3 b4 b5 b6
    obtain ⟨e, s⟩ := r
    simp only at b1 b2 b3 b4 b5 b6
    subst b1
    have hcn : cnt s.D = cnt D := by unfold cnt; rw [b4]
    cases hc : s.cl
    · rw [vlast_not hc]
      obtain ⟨c1, c2⟩ := b6 hc
      obtain ⟨-, c3⟩ := a6 c1
      rw [c2, c3] at b5 ⊢
      exact ⟨rfl, b5, b2, hcn, rfl⟩
    · rw [vlast_cl hc]
      obtain ⟨g1, g2, g3, g4, g5⟩ := sync_ok b2 b3
      refine ⟨g1, g3, g4, ?_, rfl⟩
      rw [g2, hcn, b5]
  obtain ⟨k1, k2, k3, k4, k5⟩ := key
  refine ⟨k1, by rw [k5, hn], k2, k3, ?_⟩
  rw [readB_now k2, k4, upd_app]
  obtain ⟨p0, p1⟩ := plS_cnt h
  have hu : (fun i : Nat => upd (upd (cnt D) ((xC 0 (placeI B 0)).map (tagF 0))) ((xC 1 (placeI B 1)).map (tagF 0)) (0, (i : Int))) = updC (updC (fun i : Nat => cnt D (0, (i : Int))) (xC 0 (placeI B 0))) (xC 1 (placeI B 1)) := by
    rw [upd_tagF, upd_tagF]
  have e6 : ((List.range 6).flatMap fun j : Nat => upd (upd (cnt D) ((xC 0 (placeI B 0)).map (tagF 0))) ((xC 1 (placeI B 1)).map (tagF 0)) (0, 0 + (j : Int))) =
      plS (updC (updC (fun i : Nat => cnt D (0, (i : Int))) (xC 0 (placeI B 0))) (xC 1 (placeI B 1))) 0 ++ plS (updC (updC (fun i : Nat => cnt D (0, (i : Int))) (xC 0 (placeI B 0))) (xC 1 (placeI B 1))) 1 := by
    rw [← hu]
    simp [plS, List.range_succ]
  rw [e6]
  have hl : ∀ i : Nat, ((fun i : Nat => cnt D (0, (i : Int))) i).length = 128 := fun i => cnt_len h.len _
  show _ = cl1 (placeI B 0) ++ cl1 (placeI B 1)
  rw [p0, p1, plS_other (by omega), plS_same hl]
  have e2 : plS (updC (fun i : Nat => cnt D (0, (i : Int))) (xC 0 (plS (fun i : Nat => cnt D (0, (i : Int))) 0))) 1 = plS (fun i : Nat => cnt D (0, (i : Int))) 1 := plS_other (by omega)
  conv => lhs; rw [← e2]
  rw [plS_same (updC_len _ _ hl fun x hx => by rw [(xC_addr x hx).1]; exact zsec_length), e2]

theorem laid_new {B : List UInt8} (hB : B.length = 768) : (DM.new.write 0 0 B).1 = 0 ∧ (DM.new.write 0 0 B).2.sync.1 = 0 ∧ Laid B (DM.new.write 0 0 B).2.sync.2 ∧ (DM.new.write 0 0 B).2.waits.length = 6 := by
  obtain ⟨h1, h2, h3, h4, h5⟩ := write_ok (D := DM.new) (f := 0) (a := 0) (bs := B) (k := 6) rfl rfl (by omega) (by decide)
  obtain ⟨g1, g2, g3, g4, g5⟩ := sync_ok h4 h5
  have hw : (DM.new.write 0 0 B).2.waits = tagS 0 0 (chunks B 6) := by rw [h3]; rfl
  have hcl : (chunks B 6).length = 6 := by simp [chunks]
  have hll := chunks_len B 6 (by omega)
  have hs2 : (DM.new.write 0 0 B).2.sync.2.lasts = putL [] (tagS 0 0 (chunks B 6)) := by
    obtain ⟨h, h2'⟩ := sync_is (D := (DM.new.write 0 0 B).2) h4
    rcases h with ⟨x1, x2, x3, x4⟩ | ⟨x1, _⟩
    · rw [x2, h2, hw]; rfl
    · rw [x1] at g1; cases g1
  refine ⟨h1, g1, ⟨?_, g4, g5, g3, ?_⟩, by rw [hw, tagS_length, hcl]⟩
  · unfold LenOk
    rw [hs2]
    refine putL_len (by simp) fun p hp => ?_
    obtain ⟨i, hi, rfl⟩ := tagS_mem hp
    exact hll _ (List.getElem_mem _)
  · rw [readB_now g3, g2, hw]
    have e : ∀ j : Nat, j < 6 → upd (cnt (DM.new.write 0 0 B).2) (tagS 0 0 (chunks B 6)) (0, 0 + (j : Int)) = (B.drop (128 * j)).take 128 := by
      intro j hj
      rw [upd_tag, dif_pos ⟨by omega, by rw [hcl]; omega⟩]
      simp only [chunks, List.getElem_map, List.getElem_range]
      rw [show (0 + (j : Int) - 0).toNat = j by omega]
    have e6 : (List.range 6).flatMap (fun j : Nat => upd (cnt (DM.new.write 0 0 B).2) (tagS 0 0 (chunks B 6)) (0, 0 + (j : Int))) = (List.range 6).flatMap fun j => (B.drop (128 * j)).take 128 := by
      rw [List.flatMap_def, List.flatMap_def]
      congr 1
    rw [e6]
    have step : ∀ k, k ≤ 6 → ((List.range k).flatMap fun j => (B.drop (128 * j)).take 128) = B.take (128 * k) := by
      intro k
      induction k with
      | zero => intro _; simp
      | succ k ih =>
        intro hk
        rw [List.range_succ, List.flatMap_append, ih (by omega)]
        simp only [List.flatMap_cons, List.flatMap_nil, List.append_nil]
        rw [show 128 * (k + 1) = 128 * k + 128 by omega, List.take_add]
    rw [step 6 (by omega)]
    exact List.take_of_length_le (by omega)
end Go.Proofs

namespace Go.Proofs
open Go Go.Vc

theorem slice_arr {q : Nat} (W : World) : (Instr.sliceAt 77 (.pointer (some ⟨q, 0, none⟩)) none none none).run Try.prog W = .ok (.slice (some ⟨q, 0, none⟩) 768 768) W := by
  simp [go_sem]
theorem neq0 (W : World) : (bin .neq 28 true (.int .i64 0) (.int .i64 0)).run Try.prog W = .ok (.bool false) W := by simp [go_sem]
theorem eql0 (W : World) : (bin .eql 28 true (.int .i64 0) (.int .i64 0)).run Try.prog W = .ok (.bool true) W := by simp [go_sem]

set_option maxRecDepth 10000 in
theorem ca_voteReads {w : World} {K : Kont} {B : List UInt8} (hB : B.length = 768) (hK : ∀ w', Mod (fun _ => False) w w' → K (.bool true) w') : Ca Try.prog 9 #[.agg (bv B).toArray] w K := by
  apply ca9
  unfold F9
  refine rv_box ?_
  have mA : Mod (fun _ => False) w (w.alloc (.cells (bv B).toArray 77)) := (Mod.refl _ w).alloc _
  have hA : hp (w.alloc (.cells (bv B).toArray 77)) w.heap.size = some (.cells (bv B).toArray 77 (0, 0)) := by simp only [hp_alloc, if_pos]
  generalize (w.alloc (.cells (bv B).toArray 77)) = W0 at mA hA
  obtain ⟨q, hq⟩ : ∃ q, w.heap.size = q := ⟨_, rfl⟩
  rw [hq] at hA ⊢
  have hqW := lt_of_heap hA
  refine ca_new fun w1 d1 m1 => ?_
  obtain ⟨d, hd⟩ : ∃ d, W0.heap.size = d := ⟨_, rfl⟩
  rw [hd] at d1 ⊢
  have s1 : Stp (fun b => b = d) W0 w1 (fun b => b = d) := ⟨m1.mono fun _ _ h => h.elim, fun b hb => .inl hb⟩
  have rB : ∀ W' (F' : Nat → Prop), Stp (fun b => b = d) W0 W' F' → Rd W' 1 (.slice (some ⟨q, 0, none⟩) 768 768) 768 (bv B) := by
    intro W' F' h
    have := rd_sub (h.mod.keep hA (by omega)) 0 768 768 (by omega) (by omega)
    rw [List.drop_zero, List.take_of_length_le (by omega)] at this
    exact this
  have newF : ∀ W' (F' : Nat → Prop), Stp (fun b => b = d) W0 W' F' → ∀ b, F' b → d ≤ b := fun w' F' h b hb => by
    rcases h.sub b hb with h | h <;> omega
  have fin : ∀ w' (F' : Nat → Prop), Stp (fun b => b = d) W0 w' F' → Mod (fun _ => False) w w' := fun w' F' h => mA.on h.mod fun b hb => .inr (by omega)
  obtain ⟨e1, e2, laid, e3⟩ := laid_new hB
  refine joinK (fun s W => s = (.bool false, ()) ∧ ∃ F', DiskR W d F' (DM.new.write 0 0 B).2.sync.2 ∧ Stp (fun b => b = d) W0 W F') (fun JJ hJJ => ?_) ?_
  · refine rv_of (slice_arr w1) ?_
    refine ca_write d1 (rB _ _ s1) (fun b hb => ?_) (by omega) (by simp [DM.new]) fun w2 F2 d2 s2 => ?_
    · obtain ⟨a, n, c, he, -, rfl⟩ := hb
      injection he with he
      injection he with he
      subst he
      have := s1.mod.size
      exact ⟨by simp only; omega, by simp only; omega⟩
    rw [e1]
    refine rv_of (neq0 _) ?_
    rw [ifB_bool, if_neg (by simp)]
    refine ca_sync d2 (by omega) fun w3 F3 d3 s3 => ?_
    rw [e2]
    refine rv_of (neq0 _) ?_
    exact hJJ _ _ ⟨rfl, F3, d3, (s1.trans s2).trans s3⟩
  rintro _ w3 ⟨rfl, F3, d3, s3⟩
  unfold J9_0
  intro _
  rw [ifB_bool, if_neg (by simp)]
  generalize (DM.new.write 0 0 B).2.sync.2 = D at laid d3
  obtain ⟨k1, k2, k3, k4, k5⟩ := vopen_reads laid
  refine ca_vopen d3 (by rw [laid.waits]; decide) (fun w' F' h => absurd k1 h) fun w4 F4 v _ d4 s4 lv vF hv => ?_
  have s4' := s3.trans s4
  have vd : d ≤ v := by have := s3.mod.size; omega
  generalize (D.vopen 0).2 = O at k2 k3 k4 k5 d4 hv
  generalize (D.vopen 0).1 = e0 at k1
  obtain ⟨nn, mm, ef⟩ : ∃ n m, fileP B = (n, m) := ⟨_, _, rfl⟩
  rw [ef] at k2
  injection k2 with k6 k7
  rw [k6, k7] at hv
  refine rv_of (v := dptr v) (w' := w4) (by simp [go_sem]) ?_
  refine rv_of (v := .int .i64 0) (w' := w4) (by simp [go_sem]) ?_
  refine rv_of (slice_arr w4) ?_
  refine ca_file20 (rB _ _ s4') fun w5 m5 => ?_
  have s5 : Stp (fun b => b = d) W0 w5 F4 := s4'.on m5 fun b h => h.elim
  rw [ef]
  refine rv_of (v := .int .u64 (nn : Int)) (w' := w5) (by simp [go_sem]) ?_
  refine rv_of (v := .agg (markV mm).toArray) (w' := w5) (by simp [go_sem]) ?_
  refine rv_of (mark_alloc w5) ?_
  have hC : hp (w5.alloc (.cells (markV mark0).toArray 59)) w5.heap.size = some (.cells (markV mark0).toArray 59 (0, 0)) := by simp only [hp_alloc, if_pos]
  have m6 : Mod (fun _ => False) w4 (w5.alloc (.cells (markV mark0).toArray 59)) := m5.alloc _
  obtain ⟨x, hx⟩ : ∃ x, w5.heap.size = x := ⟨_, rfl⟩
  have lx : w4.heap.size ≤ x := by rw [← hx]; exact m5.size
  rw [hx] at hC ⊢
  generalize (w5.alloc (.cells (markV mark0).toArray 59)) = w6 at hC m6
  refine ru_mark hC fun w7 m7 hC7 => ?_
  have m7' : Mod (fun _ => False) w4 w7 := m6.on m7 fun y hy => .inr (by subst hy; exact lx)
  have d7 := d4.mod m7' fun _ _ h => h
  have hv7 := m7'.keep hv id
  have s7 : Stp (fun b => b = d) W0 w7 F4 := s4'.on m7' fun b h => h.elim
  refine ca_read (n := 6) d7 (by rw [k3]; decide) (fun h => by rw [k4] at h; cases h) (fun _ h => absurd h (by decide)) fun _ _ w8 v8 o8 m8 n8 => ?_
  have e6 : (6 : Int).toNat = 6 := rfl
  rw [e6, k5] at o8
  refine rv_of (v := v8) (w' := w8) (by simp [go_sem]) ?_
  refine rv_of (v := .int .i64 0) (w' := w8) (by simp [go_sem]) ?_
  refine rdP_of eql0 ?_
  rw [ifB_bool, if_pos rfl]
  have md : Mod (fun _ => False) w7 w8.drew := m8.drew
  refine rdW_of (ld_mark (md.keep hC7 id)) ?_
  refine ca_mark (md.keep hv7 id) fun w9 m9 => ?_
  have t9 := md.trans m9
  refine ⟨ld_mark (t9.keep hC7 id), ?_⟩
  refine rdP_of (fun W => eql_mark W) ?_
  rw [ifB_bool, if_pos (by simp)]
  refine ca_number (t9.keep hv7 id) ?_
  refine rdP_of (v := .bool true) (fun W => by simp [go_sem]) ?_
  rw [ifB_bool, if_pos rfl]
  refine rdP_of eql0 ?_
  rw [ifB_bool, if_pos rfl]
  have o9 := o8.mod ((Mod.refl (fun _ => False) w8).drew.trans m9) fun _ _ h => h
  refine rdX_toStr Try.underlying23 Try.underlying5 Try.underlying9 o9.rd ?_
  refine rdP_of slice_arr ?_
  have s9 : Stp (fun b => b = d) W0 w9 F4 := s7.on t9 fun b h => h.elim
  refine ca_clean20 (rB _ _ s9) fun va wa A => ?_
  refine ⟨run_toStr Try.underlying23 Try.underlying5 Try.underlying9 (o9.mod A.mod fun _ _ h => h).rd, ?_⟩
  refine rdX_toStr Try.underlying23 Try.underlying5 Try.underlying9 A.own.rd ?_
  refine rdP_of (fun W => eql_str _ _ W) ?_
  rw [ifB_bool, if_pos (by simp)]
  have ta := t9.trans A.mod
  refine ca_waits (d7.mod ta fun _ _ h => h) ?_
  rw [k3]
  refine rdP_of (v := .bool true) (fun W => by simp [go_sem]) ?_
  rw [ifB_bool, if_pos rfl]
  refine ca_known20 fun wb mb => ?_
  exact hK _ (((fin _ _ s7).trans ta).trans mb)
end Go.Proofs
