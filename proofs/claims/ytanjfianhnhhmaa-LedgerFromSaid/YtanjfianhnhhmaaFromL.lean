/-
  When a ledger can be made of a fund, accounts and positions: plain laws.
  Conditions: where they ask for any, each theorem names them.
-/
import Derived.Test.YtanjfianhnhhmaaPlayW
set_option linter.unusedVariables false
set_option linter.unusedSimpArgs false
namespace Go.Proofs
open Go Go.Vc

def sumQ (l : List Po) (c : Int) : Int := ((l.filter fun p => decide (p.c = c)).map (·.q)).sum
def sumB (l : List Po) (c : Int) : Int := ((l.filter fun p => decide (p.c = c)).map (·.b)).sum
theorem sumQ_app (l l' : List Po) (c : Int) : sumQ (l ++ l') c = sumQ l c + sumQ l' c := by simp [sumQ]
theorem sumB_app (l l' : List Po) (c : Int) : sumB (l ++ l') c = sumB l c + sumB l' c := by simp [sumB]
theorem sumQ_one (p : Po) (c : Int) : sumQ [p] c = if p.c = c then p.q else 0 := by
  unfold sumQ
  by_cases h : p.c = c
  · rw [if_pos h, List.filter_cons_of_pos (by simpa using h)]; simp
  · rw [if_neg h, List.filter_cons_of_neg (by simpa using h)]; simp
theorem sumB_one (p : Po) (c : Int) : sumB [p] c = if p.c = c then p.b else 0 := by
  unfold sumB
  by_cases h : p.c = c
  · rw [if_pos h, List.filter_cons_of_pos (by simpa using h)]; simp
  · rw [if_neg h, List.filter_cons_of_neg (by simpa using h)]; simp
theorem sum_none {l : List Po} {c : Int} (h : ∀ p ∈ l, p.c ≠ c) : sumQ l c = 0 ∧ sumB l c = 0 := by
  have : l.filter (fun p => decide (p.c = c)) = [] := List.filter_eq_nil_iff.2 fun p hp => by simpa using h p hp
  simp [sumQ, sumB, this]

structure GoodP (A : List Ac) (p : Po) : Prop where
  c : p.c ≠ 0
  a : p.a ≠ 0
  there : ∃ x ∈ A, x.num = p.a
  some : p.isZ = false
  q : amongB p.q (-MP) MP = true
  b : amongB p.b (-MF) MF = true
structure PA (A : List Ac) : Prop where
  srt : SortA A
  num : ∀ a ∈ A, 0 < a.num ∧ amongB a.cash 0 MF = true
structure FromOk (f : Int) (A : List Ac) (P : List Po) : Prop where
  len : A.length ≤ 64
  fund : amongB f 0 MF = true
  pa : PA A
  tot : f + (A.map (·.cash)).sum ≤ MF
  srt : SortP P
  good : ∀ p ∈ P, GoodP A p
  zero : ∀ c, sumQ P c = 0 ∧ sumB P c = 0

theorem amongB_iff' {n lo hi : Int} : amongB n lo hi = true ↔ lo ≤ n ∧ n ≤ hi := by simp [amongB]

theorem FromOk.ok {f : Int} {A : List Ac} {P : List Po} (h : FromOk f A P) (hA : ∀ a ∈ A, U32 a.num) (hP : ∀ p ∈ P, U32 p.c) : (Led.mk f A P).Ok where
  fund := amongB_iff'.1 h.fund
  sa := h.pa.srt
  sp := h.srt
  len := h.len
  acc := fun a ha => ⟨(h.pa.num a ha).1, (hA a ha).2, amongB_iff'.1 (h.pa.num a ha).2⟩
  pos := fun p hp => by
    have g := h.good p hp
    have u := hP p hp
    have h1 := amongB_iff'.1 g.q
    have h2 := amongB_iff'.1 g.b
    exact ⟨by have := g.c; have := u.1; omega, u.2, g.some, h1.1, h1.2, h2.1, h2.2, g.there⟩

theorem pw_take {α : Type} {R : α → α → Prop} {l : List α} (h : l.Pairwise R) {i : Nat} (hi : i < l.length) {b : α} (hb : b ∈ l.take i) : R b l[i] := by
  obtain ⟨j, hj, rfl⟩ := List.getElem_of_mem hb
  rw [List.length_take] at hj
  rw [List.getElem_take]
  exact List.pairwise_iff_getElem.1 h _ _ _ _ (by omega)

/-! ### Accounts, one after the other -/
structure AInv (pre : List Ac) (last : Int) : Prop where
  pa : PA pre
  top : ∀ a ∈ pre, a.num ≤ last
  hit : (pre = [] ∧ last = 0) ∨ ∃ a ∈ pre, a.num = last
theorem AInv.nil : AInv [] 0 := ⟨⟨List.Pairwise.nil, by simp⟩, by simp, .inl ⟨rfl, rfl⟩⟩
theorem AInv.pos {pre : List Ac} {last : Int} (h : AInv pre last) : 0 ≤ last := by
  rcases h.hit with ⟨-, rfl⟩ | ⟨a, ha, rfl⟩
  · exact Int.le_refl _
  · have := (h.pa.num a ha).1; omega
theorem AInv.step {pre : List Ac} {last : Int} (h : AInv pre last) {a : Ac} (h1 : last < a.num) (h2 : amongB a.cash 0 MF = true) : AInv (pre ++ [a]) a.num := by
  have h0 := h.pos
  refine ⟨⟨List.pairwise_append.2 ⟨h.pa.srt, List.pairwise_singleton .., fun x hx y hy => ?_⟩, fun x hx => ?_⟩, fun x hx => ?_, .inr ⟨a, by simp, rfl⟩⟩
  · rw [List.mem_singleton] at hy; subst hy
    have := h.top x hx; omega
  · rcases List.mem_append.1 hx with hx | hx
    · exact h.pa.num x hx
    · rw [List.mem_singleton] at hx; subst hx; exact ⟨by omega, h2⟩
  · rcases List.mem_append.1 hx with hx | hx
    · have := h.top x hx; omega
    · rw [List.mem_singleton] at hx; subst hx; omega
theorem AInv.bad {A : List Ac} {i : Nat} (hi : i < A.length) {last : Int} (h : AInv (A.take i) last) (hb : A[i].num ≤ last ∨ amongB A[i].cash 0 MF = false) : ¬ PA A := by
  intro hp
  have hm := hp.num A[i] (List.getElem_mem hi)
  rcases hb with hb | hb
  · rcases h.hit with ⟨-, rfl⟩ | ⟨a, ha, rfl⟩
    · omega
    · have : a.num < A[i].num := pw_take hp.srt hi ha
      omega
  · rw [hm.2] at hb; cases hb

/-! ### Positions, one after the other -/
structure PInv (pre : List Po) (lc la q b : Int) : Prop where
  srt : SortP pre
  top : ∀ p ∈ pre, klt (lc, la) p.key = false
  hit : (pre = [] ∧ lc = 0 ∧ la = 0) ∨ ∃ p ∈ pre, p.key = (lc, la)
  q : q = sumQ pre lc
  b : b = sumB pre lc
  oth : ∀ c, c ≠ lc → sumQ pre c = 0 ∧ sumB pre c = 0
theorem PInv.nil : PInv [] 0 0 0 0 := ⟨List.Pairwise.nil, by simp, .inl ⟨rfl, rfl, rfl⟩, rfl, rfl, fun _ _ => ⟨rfl, rfl⟩⟩
theorem klt_of_le {x y z : Int × Int} (h : klt y x = false) (h' : klt y z = true) : klt x z = true := by
  rcases klt_tri y x with h1 | h1 | h1
  · rw [h1] at h; cases h
  · rw [← h1]; exact h'
  · exact klt_trans h1 h'
theorem PInv.le {pre : List Po} {lc la q b : Int} (h : PInv pre lc la q b) {p : Po} (hp : p ∈ pre) : p.c ≤ lc := by
  have := h.top p hp
  rw [Bool.eq_false_iff, Ne, klt_iff] at this
  simp only [Po.key] at this; omega
theorem PInv.step {pre : List Po} {lc la q b : Int} (h : PInv pre lc la q b) {p : Po} (h1 : klt (lc, la) p.key = true) (h2 : p.c ≠ lc → q = 0 ∧ b = 0) : PInv (pre ++ [p]) p.c p.a (q + p.q) (b + p.b) := by
  have hk : lc ≤ p.c := by rw [klt_iff] at h1; simp only [Po.key] at h1; omega
  have hq : sumQ pre p.c = q ∧ sumB pre p.c = b := by
    by_cases e : p.c = lc
    · rw [e]; exact ⟨h.q.symm, h.b.symm⟩
    · obtain ⟨rfl, rfl⟩ := h2 e
      exact h.oth _ e
  refine ⟨List.pairwise_append.2 ⟨h.srt, List.pairwise_singleton .., fun x hx y hy => ?_⟩, fun x hx => ?_, .inr ⟨p, by simp, rfl⟩, ?_, ?_, fun c hc => ?_⟩
  · rw [List.mem_singleton] at hy; subst hy
    exact klt_of_le (h.top x hx) h1
  · rcases List.mem_append.1 hx with hx | hx
    · exact klt_asymm (klt_of_le (h.top x hx) h1)
    · rw [List.mem_singleton] at hx; subst hx; exact klt_irr
  · rw [sumQ_app, sumQ_one, if_pos rfl, hq.1]
  · rw [sumB_app, sumB_one, if_pos rfl, hq.2]
  · rw [sumQ_app, sumB_app, sumQ_one, sumB_one, if_neg (Ne.symm hc), if_neg (Ne.symm hc)]
    by_cases e : c = lc
    · obtain ⟨rfl, rfl⟩ := h2 (fun e' => hc (e.trans e'.symm))
      rw [e, ← h.q, ← h.b]; exact ⟨rfl, rfl⟩
    · have := h.oth c e
      rw [this.1, this.2]; exact ⟨rfl, rfl⟩
theorem PInv.done {P : List Po} {lc la : Int} (h : PInv P lc la 0 0) (c : Int) : sumQ P c = 0 ∧ sumB P c = 0 := by
  by_cases e : c = lc
  · rw [e]; exact ⟨h.q.symm, h.b.symm⟩
  · exact h.oth c e
theorem PInv.bad_end {P : List Po} {lc la q b : Int} (h : PInv P lc la q b) (hb : q ≠ 0 ∨ b ≠ 0) : ¬ ∀ c, sumQ P c = 0 ∧ sumB P c = 0 := by
  intro hz
  have := hz lc
  rw [← h.q, ← h.b] at this
  omega
theorem PInv.bad_sum {P : List Po} {i : Nat} (hi : i < P.length) {lc la q b : Int} (h : PInv (P.take i) lc la q b) (hc : P[i].c ≠ lc) (hb : q ≠ 0 ∨ b ≠ 0) : ¬ (SortP P ∧ ∀ c, sumQ P c = 0 ∧ sumB P c = 0) := by
  rintro ⟨hs, hz⟩
  rcases h.hit with ⟨e, -, -⟩ | ⟨x, hx, ex⟩
  · have h1 := h.q
    have h2 := h.b
    rw [e] at h1 h2
    rcases hb with hb | hb
    · exact hb h1
    · exact hb h2
  · have hlt : klt x.key P[i].key = true := pw_take hs hi hx
    rw [ex, klt_iff] at hlt
    simp only [Po.key] at hlt
    have hd : ∀ p ∈ P.drop i, p.c ≠ lc := by
      intro p hp
      obtain ⟨j, hj, rfl⟩ := List.getElem_of_mem hp
      rw [List.getElem_drop]
      rw [List.length_drop] at hj
      by_cases hj0 : j = 0
      · subst hj0; exact hc
      · have := List.pairwise_iff_getElem.1 hs i (i + j) hi (by omega) (by omega)
        rw [klt_iff] at this
        simp only [Po.key] at this
        omega
    have hn := sum_none hd
    have := hz lc
    rw [← List.take_append_drop i P, sumQ_app, sumB_app, hn.1, hn.2, ← h.q, ← h.b] at this
    omega
theorem PInv.bad_key {A : List Ac} {P : List Po} {i : Nat} (hi : i < P.length) {lc la q b : Int} (h : PInv (P.take i) lc la q b) (hu : 0 ≤ P[i].c ∧ 0 ≤ P[i].a) (hk : klt (lc, la) P[i].key = false) : ¬ (SortP P ∧ ∀ p ∈ P, GoodP A p) := by
  rintro ⟨hs, hg⟩
  have g := hg P[i] (List.getElem_mem hi)
  rcases h.hit with ⟨-, rfl, rfl⟩ | ⟨x, hx, ex⟩
  · rw [Bool.eq_false_iff, Ne, klt_iff] at hk
    simp only [Po.key] at hk
    have := g.c
    omega
  · have hlt : klt x.key P[i].key = true := pw_take hs hi hx
    rw [ex, hk] at hlt; cases hlt
theorem sum_bd2 {l : List Int} {B : Int} (h : ∀ x ∈ l, -B ≤ x ∧ x ≤ B) : -(B * l.length) ≤ l.sum ∧ l.sum ≤ B * l.length := by
  induction l with
  | nil => simp
  | cons x l ih =>
    have h1 := h x List.mem_cons_self
    have h2 := ih fun y hy => h y (List.mem_cons_of_mem _ hy)
    have e : B * ((x :: l).length : Int) = B * l.length + B := by
      simp only [List.length_cons, Int.natCast_add, Int.natCast_one, Int.mul_add, Int.mul_one]
    rw [e]
    simp only [List.sum_cons]
    omega
theorem sum_bdQ {P : List Po} {A : List Ac} (hg : ∀ p ∈ P, GoodP A p) (hl : P.length ≤ 200) (c : Int) : (-2000000000 ≤ sumQ P c ∧ sumQ P c ≤ 2000000000) ∧ (-200000000000000000 ≤ sumB P c ∧ sumB P c ≤ 200000000000000000) := by
  have hm : ∀ p ∈ P.filter (fun p => decide (p.c = c)), GoodP A p := fun p hp => hg p (List.mem_filter.1 hp).1
  have hl' := List.length_filter_le (fun p : Po => decide (p.c = c)) P
  unfold sumQ sumB
  generalize P.filter (fun p => decide (p.c = c)) = L at hm hl'
  have h1 := sum_bd2 (l := L.map (·.q)) (B := 10000000) fun x hx => by
    obtain ⟨p, hp, rfl⟩ := List.mem_map.1 hx
    have := amongB_iff'.1 (hm p hp).q
    simpa [MP] using this
  have h2 := sum_bd2 (l := L.map (·.b)) (B := 1000000000000000) fun x hx => by
    obtain ⟨p, hp, rfl⟩ := List.mem_map.1 hx
    have := amongB_iff'.1 (hm p hp).b
    simpa [MF] using this
  rw [List.length_map] at h1 h2
  omega
end Go.Proofs
