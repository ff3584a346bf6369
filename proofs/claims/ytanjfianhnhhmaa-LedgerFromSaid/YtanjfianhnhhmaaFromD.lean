/-
  The document's From.
  Conditions: where they ask for any, each theorem names them.
-/
import Derived.Test.YtanjfianhnhhmaaFromC
set_option linter.unusedVariables false
set_option linter.unusedSimpArgs false
namespace Go.Proofs
open Go Go.Vc
attribute [local congr] Ca_cong

theorem rn_ok' {P : Program} {s : Sem Next} {w : World} {K : Kont} {v : Value} {w' : World} (h : s.run P w = .ok (.value v) w') (hK : K v w') : rn P s w K := by
  rw [rn_iff]; unfold rnD; rw [h]; exact hK
theorem tSlA' : Try.prog.underlying 58 = some (.slice 34) := by kernel_rfl

theorem klt_not (x y u v : Int) : (!klt (x, y) (u, v)) = (if u < x then true else if x = u then decide (v ≤ y) else false) := by
  unfold klt
  by_cases h1 : u < x
  · rw [if_pos h1]; simp; omega
  · rw [if_neg h1]
    by_cases h2 : x = u
    · rw [if_pos h2, Bool.eq_iff_iff]; simp; omega
    · rw [if_neg h2]; simp; omega
theorem sortP_snoc {P : List Po} {i : Nat} (hi : i < P.length) (h : SortP (P.take i)) (hk : ∀ (h : i - 1 < P.length), 0 < i → klt P[i - 1].key P[i].key = true) : SortP (P.take (i + 1)) := by
  rw [take_snoc hi]
  refine List.pairwise_append.2 ⟨h, List.pairwise_singleton .., fun x hx y hy => ?_⟩
  rw [List.mem_singleton] at hy; subst hy
  obtain ⟨j, hj, rfl⟩ := List.getElem_of_mem hx
  have hj' := hj
  rw [List.length_take] at hj'
  rw [List.getElem_take]
  have hk' := hk (by omega) (by omega)
  by_cases e : j = i - 1
  · subst e; exact hk'
  · have h1 := List.pairwise_iff_getElem.1 h j (i - 1) hj (by rw [List.length_take]; omega) (by omega)
    rw [List.getElem_take, List.getElem_take] at h1
    exact klt_trans h1 hk'

set_option maxRecDepth 10000 in
set_option maxHeartbeats 2000000 in
theorem ca_rfrom {w : World} {f : Int} {va vp : Value} {A : List Ac} {P : List Po} {K : Kont} (hA : Rd w 4 va A.length (A.flatMap cellsAc)) (hP : Rd w 4 vp P.length (P.flatMap cellsPo)) (hn : A.length < 4294967296) (hl : P.length ≤ 200)
    (uA : ∀ a ∈ A, U32 a.num) (uP : ∀ p ∈ P, (U32 p.c ∧ U32 p.a) ∧ R64 p.q ∧ R64 p.b)
    (hok : FromOk f A P → ∀ w' r G, RfQ w' r G ⟨f, A, P⟩ → Mod (fun _ => False) w w' → (∀ b, G b → w.heap.size ≤ b) → K (.tuple #[lptr r, .int .i64 0]) w')
    (hno : ¬ FromOk f A P → ∀ w', Mod (fun _ => False) w w' → K (.tuple #[.pointer none, .int .i64 2]) w') :
    Ca Try.prog 34 #[.int .i64 f, va, vp] w K := by
  obtain ⟨aA, cA, rfl⟩ := hA.isSl
  obtain ⟨aP, cP, rfl⟩ := hP.isSl
  apply ca34
  unfold F34
  refine JoinW.at (fun s W => s = (.bool (!amongB f 0 MF || decide (64 < A.length)), ()) ∧ W = w) ?_ ?_
  · refine ca_ramong ?_
    have hM : amongB f 0 1000000000000000 = amongB f 0 MF := rfl
    rw [hM]
    cases hf : amongB f 0 MF
    · simp [go_sem]
    · by_cases h64 : 64 < A.length
      · have h64' : (64 : Int) < (A.length : Int) := by omega
        simp [go_sem, h64, h64']
      · have h64' : ¬ (64 : Int) < (A.length : Int) := by omega
        simp [go_sem, h64, h64']
  rintro _ w ⟨rfl, rfl⟩
  unfold J34_8
  intro _
  by_cases hbad : (!amongB f 0 MF || decide (64 < A.length)) = true
  · rw [hbad]
    simp only [ifB_bool, if_true]
    refine hno (fun h => ?_) _ (Mod.refl _ _)
    rw [h.fund] at hbad
    have := h.len
    simp at hbad; omega
  rw [Bool.eq_false_iff.2 hbad]
  simp only [ifB_bool, Bool.false_eq_true, if_false]
  have h64 : A.length ≤ 64 := by
    apply Classical.byContradiction; intro h; apply hbad; simp; right; omega
  have hf : amongB f 0 MF = true := by
    cases hh : amongB f 0 MF with
    | true => rfl
    | false => exact absurd (by rw [hh]; rfl) hbad
  clear hbad
  refine rx_dup tSlA (elemT_of acE1) hA (by simp [cellsAc, Value.oneCell']) (by omega) fun sA w1 oA m1 nA => ?_
  refine rx_dup tSlP (elemT_of poE1) (hP.mod m1 fun _ _ h => h) (by simp [cellsPo, Value.oneCell']) (by omega) fun sH w2 oH m2 nH => ?_
  obtain ⟨bA, dA, rfl, -⟩ := oA.isSl
  obtain ⟨bH, dH, rfl, -⟩ := oH.isSl
  obtain ⟨r, hr⟩ : ∃ r, r = w2.heap.size := ⟨_, rfl⟩
  refine rv_ok' (by simp [go_sem]; first | exact ⟨rfl, rfl⟩ | exact rfl) ?_
  refine rv_ok' (by simp [go_sem]; first | exact ⟨rfl, rfl⟩ | exact rfl) ?_
  rw [← hr]
  generalize hw3 : World.alloc _ _ = w3
  have m3 : Mod (fun _ => False) w2 w3 := by subst hw3; exact (Mod.refl _ w2).alloc _
  have gr : hp w3 r = some (.cells #[.int .i64 f, .slice bA A.length dA, .slice bH P.length dH] 61 (0, 0)) := by subst hw3 hr; simp [go_sem]
  have m03 : Mod (fun _ => False) w w3 := (m1.trans m2).trans m3
  have oA2 := oA.mod m2 fun _ _ h => h
  have s1 := m1.size
  have s2 := m2.size
  have hq : RfQ w3 r (fun b => w.heap.size ≤ b ∧ b ≤ r) ⟨f, A, P⟩ := by
    refine ⟨⟨_, _, gr, (oA2.mod m3 fun _ _ h => h).rd, (oH.mod m3 fun _ _ h => h).rd, fun b hb => ?_, fun b hb => ?_⟩, ⟨by omega, Nat.le_refl _⟩, fun b hb => ?_⟩
    · have h1 := nA b (inRd.sl hb)
      have h2 := oA2.lt (inRd.sl hb)
      exact ⟨⟨h1, by omega⟩, by omega⟩
    · have h1 := nH b (inRd.sl hb)
      have h2 := oH.lt (inRd.sl hb)
      exact ⟨⟨by omega, by omega⟩, by omega⟩
    · have := lt_of_heap gr
      exact Nat.lt_of_le_of_lt hb.2 this
  clear hw3 gr oA oH oA2 nA nH
  refine loopK (fun s W => ∃ (i : Nat) (last : Int) (x1 x2 : Value), i ≤ A.length ∧ s = (x1, x2, .int .i64 i, ()) ∧ AInv (A.take i) last ∧ (i = 0 → last = 0) ∧ (∀ (h : i - 1 < A.length), 0 < i → A[i - 1].num = last) ∧ Mod (fun _ => False) w3 W)
    (fun s _ => match s.2.2.1 with | .int _ i => A.length - i.toNat | _ => 0) ⟨0, 0, .pointer none, .int .i64 0, by omega, rfl, AInv.nil, fun _ => rfl, fun _ h => by omega, Mod.refl _ _⟩ ?_
  rintro ⟨y1, y2, _⟩ W ⟨i, last, x1, x2, hi, ⟨⟩, hinv, hz, hp, mW⟩ KN hKN
  unfold L34_7
  intro _
  refine rn_ok' (v := .int .i64 A.length) (w' := W) (by simp [go_sem]) ?_
  by_cases hlt : i < A.length
  · have hAW := hA.mod (m03.trans mW) fun _ _ h => h
    obtain ⟨b, off, cap, C, e', fz, e, hC, c0, c1, c2, c3⟩ := rdAc hAW hlt
    have hw := wr_add1 (i := i) (by omega)
    have hu := uA _ (List.getElem_mem hlt)
    have h0 := hinv.pos
    refine rv_ok' (v := .bool true) (w' := W) (by simp [go_sem, hlt]) ?_
    rw [ifB_bool, if_pos rfl]
    refine JoinW.at (fun s W' => s = (.bool (decide (A[i].num ≤ last) || !amongB A[i].cash 0 MF), ()) ∧ W' = W.drew) ?_ ?_
    · have hM : amongB A[i].cash 0 1000000000000000 = amongB A[i].cash 0 MF := rfl
      by_cases hnum : A[i].num = 0
      · cases e
        simp [-Int.natCast_add, go_sem, hlt, hC, c0, c1, hnum, h0]
      · by_cases hi0 : i = 0
        · subst hi0
          have hl0 := hz rfl
          subst hl0
          have hnn : ¬ A[0].num ≤ 0 := by have := hu.1; omega
          cases e
          simp at c0 c1
          simp [-Int.natCast_add, go_sem, hlt, hC, c0, c1, hnum, hnn]
          refine ca_ramong ?_
          rw [hM]
          simp [go_sem]
        · have hpl : i - 1 < A.length := by omega
          obtain ⟨b', off', cap', C', e'', fz', e2, hC', d0, d1, d2, d3⟩ := rdAc hAW hpl
          have hpn := hp hpl (by omega)
          cases e
          cases e2
          rw [hC] at hC'
          obtain ⟨rfl, rfl, rfl⟩ : C = C' ∧ e' = e'' ∧ fz = fz' := by injection hC' with h; injection h with h1 h2 h3; exact ⟨h1, h2, h3⟩
          have hs : IntKind.i64.wrap ((i : Int) - 1) = ((i - 1 : Nat) : Int) := by rw [IntKind.wrap_i64]; omega
          have hipos : 0 < i := by omega
          rw [hpn] at d0
          by_cases hle : A[i].num ≤ last
          · simp [-Int.natCast_add, go_sem, hlt, hpl, hC, c0, c1, d0, hnum, hipos, hs, hle]
          · simp [-Int.natCast_add, go_sem, hlt, hpl, hC, c0, c1, d0, hnum, hipos, hs, hle]
            refine ca_ramong ?_
            rw [hM]
            simp [go_sem]
    rintro _ _ ⟨rfl, rfl⟩
    unfold J34_0
    intro _
    have mD : Mod (fun _ => False) w3 W.drew := mW.drew
    by_cases hbad : (decide (A[i].num ≤ last) || !amongB A[i].cash 0 MF) = true
    · rw [hbad]
      simp only [ifB_bool, if_true]
      refine hno (fun h => ?_) _ (m03.trans mD)
      refine absurd h.pa (AInv.bad hlt hinv ?_)
      rw [Bool.or_eq_true, decide_eq_true_eq] at hbad
      rcases hbad with h | h
      · exact .inl h
      · exact .inr (by simpa using h)
    · rw [Bool.eq_false_iff.2 hbad]
      have h1 : last < A[i].num := by
        apply Classical.byContradiction; intro h; apply hbad; simp; left; omega
      have h2 : amongB A[i].cash 0 MF = true := by
        cases hh : amongB A[i].cash 0 MF with
        | true => rfl
        | false => exact absurd (by rw [hh]; simp) hbad
      have hinv' := hinv.step h1 h2
      rw [← take_snoc hlt] at hinv'
      simp only [ifB_bool, Bool.false_eq_true, if_false]
      simp [-Int.natCast_add, go_sem, hw]
      exact hKN _ _ ⟨i + 1, A[i].num, _, _, by omega, rfl, hinv', fun h => by omega, fun h _ => rfl, mD⟩ (by simp; omega)
  · obtain rfl : i = A.length := by omega
    clear hKN
    rw [List.take_of_length_le (Nat.le_refl _)] at hinv
    refine rv_ok' (v := .bool false) (w' := W) (by simp [go_sem]) ?_
    rw [ifB_bool, if_neg Bool.false_ne_true]
    refine ca_rfunds' (hq.modF mW) h64 (amongB_iff'.1 hf) hinv.pa ?_
    have hfun : (Led.mk f A P).funds = f + (A.map (·.cash)).sum := rfl
    rw [hfun]
    by_cases htot : f + (A.map (·.cash)).sum ≤ MF
    · refine rv_ok' (v := .bool false) (w' := W) (by simp [go_sem, MF] at htot ⊢; omega) ?_
      rw [ifB_bool, if_neg Bool.false_ne_true]
      have hpa := hinv.pa
      clear hz hp hinv
      have m0W := m03.trans mW
      have hqW := hq.modF mW
      generalize hwb : W = wb at m0W hqW
      subst hwb
      clear hq mW
      refine loopK (fun s W' => ∃ (i : Nat) (x1 x2 : Value), i ≤ P.length ∧ s = (x1, x2, .int .i64 i, ()) ∧ SortP (P.take i) ∧ (∀ p ∈ P.take i, GoodP A p) ∧ Mod (fun _ => False) W W')
        (fun s _ => match s.2.2.1 with | .int _ i => P.length - i.toNat | _ => 0) ⟨0, _, _, by omega, rfl, List.Pairwise.nil, by simp, Mod.refl _ _⟩ ?_
      rintro ⟨z1, z2, _⟩ W2 ⟨i, x1', x2', hi, ⟨⟩, hsrt, hgood, mW2⟩ KN hKN
      have hPW := hP.mod (m0W.trans mW2) fun _ _ h => h
      unfold L34_6
      intro _
      refine rn_ok' (v := .int .i64 P.length) (w' := W2) (by simp [go_sem]) ?_
      by_cases hlt : i < P.length
      · obtain ⟨b, off, cap, C, e', fz, e, hC, c0, c1, c2, c3⟩ := rdPo hPW hlt
        cases e
        have hw := wr_add1 (i := i) (by omega)
        have hmem : P[i] ∈ P := List.getElem_mem hlt
        have hu := uP _ hmem
        have hsn := sortP_snoc hlt hsrt
        have htk := take_snoc hlt
        obtain ⟨kb, hk0, hk1⟩ : ∃ kb : Bool, (i = 0 → kb = false) ∧ ∀ h : i - 1 < P.length, 0 < i → kb = !klt P[i - 1].key P[i].key := by
          by_cases hi0 : i = 0
          · exact ⟨false, fun _ => rfl, fun _ h => by omega⟩
          · exact ⟨!klt (P[i - 1]'(by omega)).key P[i].key, fun h => absurd h hi0, fun _ _ => rfl⟩
        have hkey : P[i].key = (P[i].c, P[i].a) := rfl
        refine rv_ok' (v := .bool true) (w' := W2) (by simp [go_sem, hlt]) ?_
        rw [ifB_bool, if_pos rfl]
        refine rv_ok' (by simp [-Int.natCast_add, go_sem, hlt]; first | exact ⟨rfl, rfl⟩ | exact rfl) ?_
        refine rv_ok' (by simp [-Int.natCast_add, go_sem, hlt, hC, c0, c1, c2, c3]; first | exact ⟨rfl, rfl⟩ | exact rfl) ?_
        obtain ⟨np, hnp⟩ : ∃ np, np = W2.heap.size := ⟨_, rfl⟩
        refine rv_ok' (by simp [go_sem]; first | exact ⟨rfl, rfl⟩ | exact rfl) ?_
        refine ru_ok' (by simp [-Int.natCast_add, go_sem]; first | exact ⟨rfl, rfl⟩ | exact rfl) ?_
        rw [← hnp]
        generalize hW3 : W2.alloc _ = W3
        have mw3 : Mod (fun _ => False) W2 W3 := by subst hW3; exact (Mod.refl _ W2).alloc _
        have g1 : hp W3 np = some (.cells #[.int .u32 P[i].c, .int .u32 P[i].a, .int .i64 P[i].q, .int .i64 P[i].b] 31 (0, 0)) := by subst hW3 hnp; simp [go_sem]
        have hPW3 := hPW.mod mw3 fun _ _ h => h
        clear hW3
        refine JoinW.at (fun s W' => s = (.bool kb, ()) ∧ W' = W3.drew) ?_ ?_
        · by_cases hi0 : i = 0
          · have := hk0 hi0
            subst this
            subst hi0
            simp [-Int.natCast_add, go_sem]
          · have hpl : i - 1 < P.length := by omega
            obtain ⟨b', off', cap', C', e'', fz', e2, hC', d0, d1, d2, d3⟩ := rdPo hPW3 hpl
            cases e2
            have hkk := hk1 hpl (by omega)
            have hs : IntKind.i64.wrap ((i : Int) - 1) = ((i - 1 : Nat) : Int) := by rw [IntKind.wrap_i64]; omega
            have hipos : 0 < i := by omega
            have hv : kb = (if P[i].c < P[i - 1].c then true else if P[i - 1].c = P[i].c then decide (P[i].a ≤ P[i - 1].a) else false) := by
              rw [hkk]
              exact klt_not ..
            rw [hv]
            by_cases h1 : P[i].c < P[i - 1].c
            · simp [-Int.natCast_add, go_sem, hlt, hpl, hC', d0, d1, hp_of g1, hipos, hs, h1]
            · by_cases h2 : P[i - 1].c = P[i].c
              · rw [h2] at d0 h1
                simp [-Int.natCast_add, go_sem, hlt, hpl, hC', d0, d1, hp_of g1, hipos, hs, h1, h2]
              · simp [-Int.natCast_add, go_sem, hlt, hpl, hC', d0, d1, hp_of g1, hipos, hs, h1, h2]
        rintro _ _ ⟨rfl, rfl⟩
        have mD : Mod (fun _ => False) W W3.drew := (mW2.trans mw3).drew
        have gD : hp W3.drew np = some (.cells #[.int .u32 P[i].c, .int .u32 P[i].a, .int .i64 P[i].q, .int .i64 P[i].b] 31 (0, 0)) := g1
        have hqD := hqW.modF mD
        generalize W3.drew = W4 at mD gD hqD ⊢
        generalize hpi : P[i] = p at *
        unfold J34_2
        intro _
        cases hkb : kb with
        | true =>
          simp only [ifB_bool, if_true]
          refine hno (fun h => ?_) _ (m0W.trans mD)
          have hi0 : i ≠ 0 := fun e => by rw [hk0 e] at hkb; cases hkb
          have h1 := hk1 (by omega) (by omega)
          have h2 := List.pairwise_iff_getElem.1 h.srt (i - 1) i (by omega) hlt (by omega)
          rw [hpi] at h2
          rw [h2] at h1
          rw [h1] at hkb; cases hkb
        | false =>
          simp only [ifB_bool, Bool.false_eq_true, if_false]
          have eq1 : amongB p.q (-MP) MP = amongB p.q (-10000000) 10000000 := rfl
          have eq2 : amongB p.b (-MF) MF = amongB p.b (-1000000000000000) 1000000000000000 := rfl
          have hfd : (Led.mk f A P).find p.a = A.find? fun x => decide (x.num = p.a) := rfl
          refine JoinW.at (fun s W' => s = (.bool (decide (p.c = 0 ∨ (Led.mk f A P).find p.a = none ∨ (p.q = 0 ∧ p.b = 0)) || !amongB p.q (-10000000) 10000000 || !amongB p.b (-1000000000000000) 1000000000000000), ()) ∧ W' = W4) ?_ ?_
          · by_cases a1 : p.c = 0
            · simp [go_sem, hp_of gD, a1]
            · simp [go_sem, hp_of gD, a1]
              refine ca_rat hqD (by simp only; omega) fun ix hnone hsome => ?_
              cases hff : (Led.mk f A P).find p.a with
              | none =>
                have := hnone hff
                subst this
                simp [go_sem]
              | some a =>
                obtain ⟨k, rfl, -⟩ := hsome a hff
                have hk0' : ¬ ((k : Int) < 0) := by omega
                by_cases a4 : p.q = 0
                · by_cases a5 : p.b = 0
                  · simp [go_sem, hp_of gD, a4, a5, hk0']
                  · simp [go_sem, hp_of gD, a4, a5, hk0']
                    refine ca_ramong ?_
                    cases hq : amongB 0 (-10000000) 10000000
                    · simp [go_sem]
                    · simp [go_sem, hp_of gD]
                      refine ca_ramong ?_
                      simp [go_sem]
                · simp [go_sem, hp_of gD, a4, hk0']
                  refine ca_ramong ?_
                  cases hq : amongB p.q (-10000000) 10000000
                  · simp [go_sem]
                  · simp [go_sem, hp_of gD]
                    refine ca_ramong ?_
                    simp [go_sem]
          rintro _ W4 ⟨rfl, rfl⟩
          unfold J34_1
          intro _
          by_cases hr : (decide (p.c = 0 ∨ (Led.mk f A P).find p.a = none ∨ (p.q = 0 ∧ p.b = 0)) || !amongB p.q (-10000000) 10000000 || !amongB p.b (-1000000000000000) 1000000000000000) = true
          · rw [hr]
            simp only [ifB_bool, if_true]
            refine hno (fun h => ?_) _ (m0W.trans mD)
            have g := h.good _ hmem
            have e3 : ¬ (p.c = 0 ∨ (Led.mk f A P).find p.a = none ∨ (p.q = 0 ∧ p.b = 0)) := by
              rintro (h1 | h1 | h1)
              · exact g.c h1
              · obtain ⟨x, hx, hxa⟩ := g.there
                rw [hfd, List.find?_eq_none] at h1
                exact h1 x hx (by simpa using hxa)
              · have := g.some
                simp [Po.isZ, h1] at this
            rw [decide_eq_false e3, ← eq1, ← eq2, g.q, g.b] at hr
            cases hr
          rw [Bool.eq_false_iff.2 hr]
          simp only [ifB_bool, Bool.false_eq_true, if_false]
          have hr' := Bool.eq_false_iff.2 hr
          rw [Bool.or_eq_false_iff, Bool.or_eq_false_iff, decide_eq_false_iff_not, Bool.not_eq_false', Bool.not_eq_false'] at hr'
          obtain ⟨⟨r1, r2⟩, r3⟩ := hr'
          have hth : ∃ x ∈ A, x.num = p.a := by
            cases hff : (Led.mk f A P).find p.a with
            | none => exact absurd (.inr (.inl hff)) r1
            | some a =>
              rw [hfd] at hff
              exact ⟨a, List.mem_of_find?_eq_some hff, by simpa using List.find?_some hff⟩
          have hg : GoodP A p := ⟨fun e => r1 (.inl e), fun e => (by
            obtain ⟨x, hx, hxa⟩ := hth
            have := (hpa.num x hx).1
            omega), hth, by rw [Po.isZ, decide_eq_false_iff_not]; exact fun e => r1 (.inr (.inr e)), eq1.trans r2, eq2.trans r3⟩
          simp [-Int.natCast_add, go_sem, hw]
          refine hKN _ _ ⟨i + 1, _, _, by omega, rfl, hsn fun h h' => ?_, fun x hx => ?_, mD⟩ (by simp; omega)
          · have := hk1 h h'
            rw [hkb] at this
            cases hkl : klt P[i - 1].key p.key with
            | true => rfl
            | false => rw [hkl] at this; cases this
          · rw [htk] at hx
            rcases List.mem_append.1 hx with hx | hx
            · exact hgood x hx
            · rw [List.mem_singleton] at hx; subst hx; exact hg
      · obtain rfl : i = P.length := by omega
        clear hKN
        rw [List.take_of_length_le (Nat.le_refl _)] at hsrt hgood
        refine rv_ok' (v := .bool false) (w' := W2) (by simp [go_sem]) ?_
        rw [ifB_bool, if_neg Bool.false_ne_true]
        refine loopK (fun s W' => ∃ (i : Nat) (x1 x2 : Value), i ≤ P.length ∧ s = (x1, x2, .int .i64 i, ()) ∧ (∀ p ∈ P.take i, sumQ P p.c = 0 ∧ sumB P p.c = 0) ∧ Mod (fun _ => False) W W')
          (fun s _ => match s.2.2.1 with | .int _ i => P.length - i.toNat | _ => 0) ⟨0, _, _, by omega, rfl, by simp, mW2⟩ ?_
        clear hPW mW2
        rintro ⟨u1, u2, _⟩ W3 ⟨i, x3, x4, hi, ⟨⟩, hsum, mW3⟩ KN hKN
        have hPW := hP.mod (m0W.trans mW3) fun _ _ h => h
        unfold L34_5
        intro _
        refine rn_ok' (v := .int .i64 P.length) (w' := W3) (by simp [go_sem]) ?_
        by_cases hlt : i < P.length
        · obtain ⟨b, off, cap, C, e', fz, e, hC, c0, c1, c2, c3⟩ := rdPo hPW hlt
          cases e
          have hw := wr_add1 (i := i) (by omega)
          refine rv_ok' (v := .bool true) (w' := W3) (by simp [go_sem, hlt]) ?_
          rw [ifB_bool, if_pos rfl]
          refine rv_ok' (by simp [-Int.natCast_add, go_sem, hlt]; first | exact ⟨rfl, rfl⟩ | exact rfl) ?_
          refine rv_ok' (by simp [-Int.natCast_add, go_sem]; first | exact ⟨rfl, rfl⟩ | exact rfl) ?_
          refine rv_ok' (by simp [-Int.natCast_add, go_sem, hC, c0]; first | exact ⟨rfl, rfl⟩ | exact rfl) ?_
          refine ca_rholders (hqW.modF mW3) (by simp only; omega) fun w4 vh oh fh m4 => ?_
          have hHd : (Led.mk f A P).holders P[i].c = P.filter fun p => decide (p.c = P[i].c) := rfl
          rw [hHd] at oh
          have hHg : ∀ p ∈ P.filter (fun p => decide (p.c = P[i].c)), GoodP A p := fun p hp => hgood p (List.mem_filter.1 hp).1
          have hHl := List.length_filter_le (fun p : Po => decide (p.c = P[i].c)) P
          have hQ : sumQ P P[i].c = ((P.filter fun p => decide (p.c = P[i].c)).map (·.q)).sum := rfl
          have hB : sumB P P[i].c = ((P.filter fun p => decide (p.c = P[i].c)).map (·.b)).sum := rfl
          generalize P.filter (fun p => decide (p.c = P[i].c)) = H at oh hHg hHl hQ hB
          obtain ⟨ah, ch, rfl, -⟩ := oh.isSl
          refine loopK (fun s W' => ∃ k : Nat, k ≤ H.length ∧ s = (.int .i64 ((H.take k).map (·.q)).sum, .int .i64 ((H.take k).map (·.b)).sum, .int .i64 k, ()) ∧ W' = w4)
            (fun s _ => match s.2.2.1 with | .int _ i => H.length - i.toNat | _ => 0) ⟨0, by omega, by simp, rfl⟩ ?_
          rintro ⟨_, _⟩ w4 ⟨k, hk, ⟨⟩, rfl⟩ KN2 hKN2
          unfold L34_4
          intro _
          refine rn_ok' (v := .int .i64 H.length) (w' := w4) (by simp [go_sem]) ?_
          by_cases hkl : k < H.length
          · obtain ⟨b', off', cap', D, e2', fz', e2, hD, d0, d1, d2, d3⟩ := rdPo oh.rd hkl
            cases e2
            have hw2 := wr_add1 (i := k) (by omega)
            have g := hHg _ (List.getElem_mem hkl)
            have t1 : ((H.take (k + 1)).map (·.q)).sum = ((H.take k).map (·.q)).sum + H[k].q := by rw [take_snoc hkl, List.map_append, List.sum_append]; simp
            have t2 : ((H.take (k + 1)).map (·.b)).sum = ((H.take k).map (·.b)).sum + H[k].b := by rw [take_snoc hkl, List.map_append, List.sum_append]; simp
            have b1 := sum_bd2 (l := (H.take (k + 1)).map (·.q)) (B := 10000000) fun x hx => by
              obtain ⟨p, hp, rfl⟩ := List.mem_map.1 hx
              have := amongB_iff'.1 (hHg p (List.mem_of_mem_take hp)).q
              simpa [MP] using this
            have b2 := sum_bd2 (l := (H.take (k + 1)).map (·.b)) (B := 1000000000000000) fun x hx => by
              obtain ⟨p, hp, rfl⟩ := List.mem_map.1 hx
              have := amongB_iff'.1 (hHg p (List.mem_of_mem_take hp)).b
              simpa [MF] using this
            rw [List.length_map, List.length_take] at b1 b2
            have w1' : IntKind.i64.wrap (((H.take k).map (·.q)).sum + H[k].q) = ((H.take (k + 1)).map (·.q)).sum := by rw [IntKind.wrap_i64, ← t1]; omega
            have w2' : IntKind.i64.wrap (((H.take k).map (·.b)).sum + H[k].b) = ((H.take (k + 1)).map (·.b)).sum := by rw [IntKind.wrap_i64, ← t2]; omega
            simp [-Int.natCast_add, -List.map_take, go_sem, hkl, hD, d2, d3, w1', w2', hw2]
            exact hKN2 _ _ ⟨k + 1, by omega, rfl, rfl⟩ (by simp; omega)
          · obtain rfl : k = H.length := by omega
            clear hKN2
            rw [List.take_of_length_le (Nat.le_refl _), ← hQ, ← hB]
            refine rv_ok' (v := .bool false) (w' := w4) (by simp [go_sem]) ?_
            rw [ifB_bool, if_neg Bool.false_ne_true]
            have m34 : Mod (fun _ => False) W w4 := mW3.trans m4
            generalize hsq : sumQ P P[i].c = q
            generalize hsb : sumB P P[i].c = bb
            refine JoinW.at (fun s W' => s = (.bool (decide (q ≠ 0 ∨ bb ≠ 0)), ()) ∧ W' = w4) ?_ ?_
            · by_cases hq : q = 0
              · by_cases hb : bb = 0
                · simp [go_sem, hq, hb]
                · simp [go_sem, hq, hb]
              · simp [go_sem, hq]
            rintro _ w4 ⟨rfl, rfl⟩
            unfold J34_3
            intro _
            by_cases hqb : q ≠ 0 ∨ bb ≠ 0
            · simp only [decide_eq_true hqb, ifB_bool, if_true]
              refine hno (fun h => ?_) _ (m0W.trans m34)
              have := h.zero P[i].c
              rw [hsq, hsb] at this
              omega
            · simp only [decide_eq_false hqb, ifB_bool, Bool.false_eq_true, if_false]
              simp [-Int.natCast_add, go_sem, hw]
              refine hKN _ _ ⟨i + 1, _, _, by omega, rfl, fun p hp => ?_, m34⟩ (by simp; omega)
              rw [take_snoc hlt] at hp
              rcases List.mem_append.1 hp with hp | hp
              · exact hsum p hp
              · rw [List.mem_singleton] at hp
                rw [hp, hsq, hsb]; omega
        · obtain rfl : i = P.length := by omega
          clear hKN
          rw [List.take_of_length_le (Nat.le_refl _)] at hsum
          refine rv_ok' (v := .bool false) (w' := W3) (by simp [go_sem]) ?_
          rw [ifB_bool, if_neg Bool.false_ne_true]
          have ok : FromOk f A P := ⟨h64, hf, hpa, htot, hsrt, hgood, fun c => by
            by_cases hc : ∃ p ∈ P, p.c = c
            · obtain ⟨p, hp, rfl⟩ := hc
              exact hsum p hp
            · exact sum_none fun p hp e => hc ⟨p, hp, e⟩⟩
          exact hok ok _ r _ (hqW.modF mW3) (m0W.trans mW3) fun b hb => hb.1
    · refine rv_ok' (v := .bool true) (w' := W) (by simp [go_sem, MF] at htot ⊢; omega) ?_
      rw [ifB_bool, if_pos rfl]
      exact hno (fun h => htot h.tot) _ (m03.trans mW)
end Go.Proofs
