/-
  The program's From.
  Conditions: where they ask for any, each theorem names them.
-/
import Derived.Test.YtanjfianhnhhmaaFromA
set_option linter.unusedVariables false
set_option linter.unusedSimpArgs false
namespace Go.Proofs
open Go Go.Vc
attribute [local congr] Ca_cong

theorem ru_ok' {P : Program} {s : Sem Unit} {w : World} {K : World → Prop} {w' : World} (h : s.run P w = .ok () w') (hK : K w') : ru P s w K := by
  rw [ru_iff]; unfold ruD; rw [h]; exact hK
theorem put_new {κ ν : Type} [DecidableEq κ] {L : List (κ × ν)} {k : κ} {v : ν} (h : ∀ p ∈ L, p.1 ≠ k) : put L k v = L ++ [(k, v)] := by
  induction L with
  | nil => rfl
  | cons p L ih =>
    obtain ⟨a, b⟩ := p
    have h1 : a ≠ k := h (a, b) List.mem_cons_self
    simp only [put, if_neg h1, List.cons_append]
    rw [ih fun x hx => h x (List.mem_cons_of_mem _ hx)]
def accL (f : Int) (A : List Ac) : List (Int × Ac) := (0, fundAc f) :: A.map fun a => (a.num, a)
def posL (P : List Po) : List ((Int × Int) × Po) := P.map fun p => (p.key, p)
theorem accL_step {f : Int} {A : List Ac} (h : PA A) {i : Nat} (hi : i < A.length) : put (accL f (A.take i)) A[i].num A[i] = accL f (A.take (i + 1)) := by
  rw [put_new, take_snoc hi]
  · simp only [accL, List.map_append, List.cons_append, List.map_cons, List.map_nil]
  · intro p hp
    rcases List.mem_cons.1 hp with rfl | hp
    · have := (h.num A[i] (List.getElem_mem hi)).1
      simp only; omega
    · obtain ⟨a, ha, rfl⟩ := List.mem_map.1 hp
      have : a.num < A[i].num := pw_take h.srt hi ha
      simp only; omega
theorem posL_step {P : List Po} {i : Nat} (hi : i < P.length) {lc la q b : Int} (h : PInv (P.take i) lc la q b) (hk : klt (lc, la) P[i].key = true) : put (posL (P.take i)) P[i].key P[i] = posL (P.take (i + 1)) := by
  rw [put_new, take_snoc hi]
  · simp only [posL, List.map_append, List.map_cons, List.map_nil]
  · intro p hp
    obtain ⟨a, ha, rfl⟩ := List.mem_map.1 hp
    exact klt_ne (klt_of_le (h.top a ha) hk)

/-- A ledger that is being made. -/
structure FrQ (w W : World) (l m1 m2 : Nat) (LA : List (Int × Ac)) (LB : List ((Int × Int) × Po)) : Prop where
  mod : Mod (fun _ => False) w W
  h1 : hp W l = some (.cells #[.map (some m1), .map (some m2)] 74 (0, 0))
  a : MapAt encU acV W m1 LA
  b : MapAt encKey poV W m2 LB
theorem FrQ.on {w W W' : World} {l m1 m2 : Nat} {LA : List (Int × Ac)} {LB : List ((Int × Int) × Po)} (h : FrQ w W l m1 m2 LA LB) (m : Mod (fun _ => False) W W') : FrQ w W' l m1 m2 LA LB :=
  ⟨h.mod.trans m, m.keep h.h1 id, h.a.mod m id, h.b.mod m id⟩
theorem FrQ.upA {w W W' : World} {l m1 m2 : Nat} {LA LA' : List (Int × Ac)} {LB : List ((Int × Int) × Po)} (h : FrQ w W l m1 m2 LA LB) (hd : l ≠ m1 ∧ l ≠ m2 ∧ m1 ≠ m2) (hw : w.heap.size ≤ m1) (m : Mod (fun b => b = m1) W W') (ha : MapAt encU acV W' m1 LA') : FrQ w W' l m1 m2 LA' LB :=
  ⟨h.mod.on m fun b hb => .inr (by omega), m.keep h.h1 hd.1, ha, h.b.mod m hd.2.2.symm⟩
theorem FrQ.upB {w W W' : World} {l m1 m2 : Nat} {LA : List (Int × Ac)} {LB LB' : List ((Int × Int) × Po)} (h : FrQ w W l m1 m2 LA LB) (hd : l ≠ m1 ∧ l ≠ m2 ∧ m1 ≠ m2) (hw : w.heap.size ≤ m2) (m : Mod (fun b => b = m2) W W') (hb : MapAt encKey poV W' m2 LB') : FrQ w W' l m1 m2 LA LB' :=
  ⟨h.mod.on m fun b hb => .inr (by omega), m.keep h.h1 hd.2.1, h.a.mod m hd.2.2, hb⟩

theorem there_iff {f : Int} {A : List Ac} {n : Int} (hn : n ≠ 0) : (lk (accL f A) n).isSome = true ↔ ∃ x ∈ A, x.num = n := by
  have : lk (accL f A) n = A.find? fun x => decide (x.num = n) := by
    rw [← lk_mapA]
    simp only [accL, lk, if_neg (Ne.symm hn)]
  rw [this, List.find?_isSome]
  simp

set_option maxRecDepth 10000 in
set_option maxHeartbeats 2000000 in
theorem ca_from {w : World} {f : Int} {va vp : Value} {A : List Ac} {P : List Po} {K : Kont} (hA : Rd w 4 va A.length (A.flatMap cellsAc)) (hP : Rd w 4 vp P.length (P.flatMap cellsPo)) (hn : A.length < 4294967296) (hl : P.length ≤ 200)
    (uA : ∀ a ∈ A, U32 a.num) (uP : ∀ p ∈ P, (U32 p.c ∧ U32 p.a) ∧ R64 p.q ∧ R64 p.b)
    (hok : FromOk f A P → ∀ w' l F, LedQ w' l F ⟨f, A, P⟩ → Mod (fun _ => False) w w' → (∀ b, F b → w.heap.size ≤ b) → K (.tuple #[lptr l, .int .i64 0]) w')
    (hno : ¬ FromOk f A P → ∀ w', Mod (fun _ => False) w w' → K (.tuple #[.pointer none, .int .i64 2]) w') :
    Ca Try.prog 33 #[.int .i64 f, va, vp] w K := by
  obtain ⟨aA, cA, rfl⟩ := hA.isSl
  obtain ⟨aP, cP, rfl⟩ := hP.isSl
  apply ca33
  unfold F33
  refine ca_people hA hn fun b w1 mo1 hb => ?_
  cases b with
  | false =>
    refine rv_ok' (v := .bool true) (w' := w1) (by simp [go_sem]) ?_
    rw [ifB_bool, if_pos rfl]
    exact hno (fun h => by have := hb.2 ⟨h.len, h.fund, h.pa, h.tot⟩; cases this) _ mo1
  | true =>
    obtain ⟨h64, hf, hpa, htot⟩ := hb.1 rfl
    refine rv_ok' (v := .bool false) (w' := w1) (by simp [go_sem]) ?_
    rw [ifB_bool, if_neg Bool.false_ne_true]
    refine ca_new fun w2 l F q2 mo2 f2 => ?_
    obtain ⟨⟨m1, m2, A0, B0, h1, h2, h3, h4, h5, h6, h7⟩, -⟩ := q2
    obtain rfl : B0 = [] := List.Perm.eq_nil h5
    have hl0 := f2 l ((h6 l).2 (.inl rfl))
    have hm10 := f2 m1 ((h6 m1).2 (.inr (.inl rfl)))
    have hm20 := f2 m2 ((h6 m2).2 (.inr (.inr rfl)))
    have hs1 := mo1.size
    have fr0 : FrQ w w2 l m1 m2 A0 [] := ⟨mo1.trans mo2, h1, h2, h3⟩
    obtain rfl : A0 = [(0, fundAc 0)] := List.perm_singleton.1 h4
    simp [go_sem, lptr, hp_of h1]
    refine rux_mapUp (enc := encU) (ev := acV) (x := 0) (v := fundAc f) uMapA kU32 h2 fun w3 hA3 mo3 hs3 => ?_
    have fr3 : FrQ w w3 l m1 m2 (accL f []) [] := fr0.upA h7 (by omega) mo3 hA3
    (try simp [go_sem])
    refine loopK (fun s W => ∃ i : Nat, i ≤ A.length ∧ s = (.int .i64 i, ()) ∧ FrQ w W l m1 m2 (accL f (A.take i)) [])
      (fun s _ => match s.1 with | .int _ i => A.length - i.toNat | _ => 0) ⟨0, by omega, rfl, fr3⟩ ?_
    rintro ⟨_, _⟩ W ⟨i, hi, ⟨⟩, fr⟩ KN hKN
    unfold L33_7
    intro _
    by_cases hlt : i < A.length
    · obtain ⟨b, off, cap, C, e', fz, e, hC, c0, c1, c2, c3⟩ := rdAc (hA.mod fr.mod fun _ _ h => h) hlt
      cases e
      have hw := wr_add1 (i := i) (by omega)
      refine rv_ok' (v := .bool true) (w' := W) (by simp [go_sem, hlt]) ?_
      rw [ifB_bool, if_pos rfl]
      refine rv_ok' (by simp [-Int.natCast_add, go_sem, hlt]; first | exact ⟨rfl, rfl⟩ | exact rfl) ?_
      refine rv_ok' (by simp [-Int.natCast_add, go_sem, hlt, hC, c0, c1, c2, c3]; first | exact ⟨rfl, rfl⟩ | exact rfl) ?_
      refine rv_ok' (by simp [go_sem]; first | exact ⟨rfl, rfl⟩ | exact rfl) ?_
      refine ru_ok' (by simp [-Int.natCast_add, go_sem]; first | exact ⟨rfl, rfl⟩ | exact rfl) ?_
      have hlm := lt_of_heap fr.h1
      generalize hW1 : W.alloc _ = W1
      have mw1 : Mod (fun _ => False) W W1 := by subst hW1; exact (Mod.refl _ W).alloc _
      have hloc : hp W1 W.heap.size = some (.cells #[.int .u32 A[i].num, .int .i64 A[i].cash, .bool A[i].kil, .bool A[i].dfl] 34 (0, 0)) := by subst hW1; simp [go_sem]
      have fr1 := fr.on (mw1.trans (Mod.refl _ W1).drew)
      simp [-Int.natCast_add, go_sem, lptr, hp_of hloc, hp_of (mw1.keep fr.h1 id)]
      refine rux_mapUp (enc := encU) (ev := acV) (x := A[i].num) (v := A[i]) uMapA kU32 fr1.a fun W2 hA2 mo hs => ?_
      rw [accL_step hpa hlt] at hA2
      simp [-Int.natCast_add, go_sem, hw]
      exact hKN _ _ ⟨i + 1, by omega, rfl, fr1.upA h7 (by omega) mo hA2⟩ (by simp; omega)
    · obtain rfl : i = A.length := by omega
      clear hKN
      rw [List.take_of_length_le (Nat.le_refl _)] at fr
      refine rv_ok' (v := .bool false) (w' := W) (by simp [go_sem]) ?_
      rw [ifB_bool, if_neg Bool.false_ne_true]
      obtain ⟨nk, hnk⟩ : ∃ nk, nk = W.heap.size := ⟨_, rfl⟩
      refine rv_ok' (by simp [go_sem]; first | exact ⟨rfl, rfl⟩ | exact rfl) ?_
      rw [← hnk]
      generalize hW1 : W.alloc _ = W1
      have mw1 : Mod (fun _ => False) W W1 := by subst hW1; exact (Mod.refl _ W).alloc _
      have gk : hp W1 nk = some (.cells #[.int .u32 0, .int .u32 0] 81 (0, 0)) := by subst hW1 hnk; simp [go_sem]
      have fr1 := fr.on mw1
      have hkl : l < nk ∧ m1 < nk ∧ m2 < nk ∧ w.heap.size ≤ nk := by
        have := lt_of_heap fr.h1
        have := fr.a.lt
        have := fr.b.lt
        have := fr.mod.size
        omega
      simp [go_sem]
      refine loopK (fun s W => ∃ (i : Nat) (lc la q b : Int) (x1 x2 : Value), i ≤ P.length ∧ s = (x1, x2, .int .i64 q, .int .i64 b, .int .i64 i, ()) ∧ PInv (P.take i) lc la q b ∧ (∀ p ∈ P.take i, GoodP A p) ∧ hp W nk = some (.cells #[.int .u32 lc, .int .u32 la] 81 (0, 0)) ∧ FrQ w W l m1 m2 (accL f A) (posL (P.take i)))
        (fun s _ => match s.2.2.2.2.1 with | .int _ i => P.length - i.toNat | _ => 0) ⟨0, 0, 0, 0, 0, _, _, by omega, rfl, PInv.nil, by simp, gk, fr1⟩ ?_
      clear hW1 gk fr1 mw1 fr
      rintro ⟨y1, _⟩ W ⟨i, lc, la, q, b, x1, x2, hi, ⟨⟩, hinv, hgood, gk, fr⟩ KN hKN
      have hbd := sum_bdQ hgood (by rw [List.length_take]; omega) lc
      rw [← hinv.q, ← hinv.b] at hbd
      unfold L33_6
      intro _
      by_cases hlt : i < P.length
      · obtain ⟨b0, off, cap, C, e', fz, e, hC, c0, c1, c2, c3⟩ := rdPo (hP.mod fr.mod fun _ _ h => h) hlt
        cases e
        have hmem : P[i] ∈ P := List.getElem_mem hlt
        have hu := uP P[i] hmem
        have hw := wr_add1 (i := i) (by omega)
        have htk := take_snoc hlt
        have hbs := @PInv.bad_sum P i hlt lc la q b hinv
        have hbk := @PInv.bad_key A P i hlt lc la q b hinv ⟨hu.1.1.1, hu.1.2.1⟩
        have hstep := @PInv.step _ lc la q b hinv P[i]
        have hposl := fun h => @posL_step P i hlt lc la q b hinv h
        rw [← htk] at hstep
        obtain ⟨np, hnp⟩ : ∃ np, np = W.heap.size := ⟨_, rfl⟩
        have lnk := lt_of_heap gk
        have hgd : FromOk f A P → GoodP A P[i] := fun h => h.good _ hmem
        have hpk : P[i].key = (P[i].c, P[i].a) := rfl
        rw [hpk] at hposl hbk hstep
        refine rv_ok' (v := .bool true) (w' := W) (by simp [go_sem, hlt]) ?_
        rw [ifB_bool, if_pos rfl]
        refine rv_ok' (by simp [-Int.natCast_add, go_sem, hlt]; first | exact ⟨rfl, rfl⟩ | exact rfl) ?_
        refine rv_ok' (by simp [-Int.natCast_add, go_sem, hlt, hC, c0, c1, c2, c3]; first | exact ⟨rfl, rfl⟩ | exact rfl) ?_
        refine rv_ok' (by simp [go_sem]; first | exact ⟨rfl, rfl⟩ | exact rfl) ?_
        refine ru_ok' (by simp [-Int.natCast_add, go_sem]; first | exact ⟨rfl, rfl⟩ | exact rfl) ?_
        rw [← hnp]
        generalize hp0 : P[i] = p at *
        generalize hW1 : W.alloc _ = W1
        have mw1 : Mod (fun _ => False) W W1 := by subst hW1; exact (Mod.refl _ W).alloc _
        have g1 : hp W1 np = some (.cells #[.int .u32 p.c, .int .u32 p.a, .int .i64 p.q, .int .i64 p.b] 31 (0, 0)) := by subst hW1 hnp; simp [go_sem]
        refine rv_ok' (by simp [go_sem]; first | exact ⟨rfl, rfl⟩ | exact rfl) ?_
        refine rv_ok' (by simp [go_sem, hp_of g1]; first | exact ⟨rfl, rfl⟩ | exact rfl) ?_
        refine rv_ok' (by simp [go_sem]; first | exact ⟨rfl, rfl⟩ | exact rfl) ?_
        refine rv_ok' (by simp [go_sem, hp_of g1]; first | exact ⟨rfl, rfl⟩ | exact rfl) ?_
        refine rv_ok' (by simp [go_sem]; first | exact ⟨rfl, rfl⟩ | exact rfl) ?_
        obtain ⟨nq, hnq⟩ : ∃ nq, nq = W1.heap.size := ⟨_, rfl⟩
        refine rv_ok' (by simp [go_sem]; first | exact ⟨rfl, rfl⟩ | exact rfl) ?_
        refine ru_ok' (by simp [go_sem]; first | exact ⟨rfl, rfl⟩ | exact rfl) ?_
        rw [← hnq]
        generalize hW2 : W1.alloc _ = W2
        have mw2 : Mod (fun _ => False) W1 W2 := by subst hW2; exact (Mod.refl _ W1).alloc _
        have g2 := mw2.keep g1 id
        have gq : hp W2 nq = some (.cells #[.int .u32 p.c, .int .u32 p.a] 81 (0, 0)) := by subst hW2 hnq; simp [go_sem]
        have gk2 := (mw1.trans mw2).keep gk id
        have fr2 := fr.on (mw1.trans mw2)
        have lnp := lt_of_heap g1
        have lnq := lt_of_heap gq
        refine JoinW.at (fun s W' => s = (x2, y1, ()) ∧ W' = W2 ∧ (p.c ≠ lc → q = 0 ∧ b = 0)) ?_ ?_
        · by_cases hc : p.c = lc
          · simp [go_sem, hp_of gq, hp_of gk2, hc]
          · simp [go_sem, hp_of gq, hp_of gk2, hc]
            refine JoinW.at (fun s W' => s = (.bool (decide (q ≠ 0 ∨ b ≠ 0)), ()) ∧ W' = W2) ?_ ?_
            · by_cases hq : q = 0
              · by_cases hb : b = 0
                · simp [go_sem, hq, hb]
                · simp [go_sem, hq, hb]
              · simp [go_sem, hq]
            rintro _ W2 ⟨rfl, rfl⟩
            unfold J33_0
            intro _
            by_cases hqb : q ≠ 0 ∨ b ≠ 0
            · simp only [decide_eq_true hqb, ifB_bool, if_true]
              exact hno (fun h => hbs hc hqb ⟨h.srt, h.zero⟩) _ fr2.mod
            · simp only [decide_eq_false hqb, ifB_bool, Bool.false_eq_true, if_false]
              obtain ⟨e1, e2⟩ : q = 0 ∧ b = 0 := by omega
              simp [e1, e2]
        rintro _ W2 ⟨rfl, rfl, hsum⟩
        unfold J33_4
        intro _
        simp [go_sem, lptr, hp_of fr2.h1, hp_of g2]
        have hl : ∀ W', Mod (fun _ => False) W2 W' → (xLook 71 (.map (some m1)) (.int .u32 p.a) true).run Try.prog W' = .ok (.tuple #[acV ((lk (accL f A) p.a).getD ⟨0, 0, false, false⟩), .bool (lk (accL f A) p.a).isSome]) W' := fun W' m => by
          have := run_look2 (P := Try.prog) (enc := encU) (ev := acV) (x := p.a) uMapA kU32 zAc (.inr ⟨m1, rfl, (fr2.on m).a⟩)
          rw [elim_acV] at this
          exact this
        refine rdX_look2 (enc := encU) (ev := acV) (x := p.a) (acV ⟨0, 0, false, false⟩) uMapA kU32 zAc (.inr ⟨m1, rfl, (fr2.on ((Mod.refl _ W2).drew)).a⟩) ?_
        rw [elim_acV]
        generalize (lk (accL f A) p.a).getD ⟨0, 0, false, false⟩ = xa at hl ⊢
        have ne1 : np ≠ W2.heap.size := by omega
        have ne2 : l ≠ W2.heap.size := by omega
        simp [go_sem, acV, hp_of fr2.h1, hp_of g2, ne1, ne2]
        refine ⟨hl _ (((Mod.refl _ W2).alloc _).drew), ?_⟩
        generalize hW3 : (World.alloc _ _).drew = W3
        have mw3 : Mod (fun _ => False) W2 W3 := by subst hW3; exact ((Mod.refl _ W2).alloc _).drew
        have g3 := mw3.keep g2 id
        have gq3 := mw3.keep gq id
        have gk3 := mw3.keep gk2 id
        have fr3 := fr2.on mw3
        have ne3 : nq ≠ W2.heap.size := by omega
        have ne4 : nk ≠ W2.heap.size := by omega
        have hv : (!klt (lc, la) (p.c, p.a)) = (if p.c < lc then true else if p.c = lc then decide (p.a ≤ la) else false) := by
          unfold klt
          by_cases h1 : p.c < lc
          · rw [if_pos h1]; simp; omega
          · rw [if_neg h1]
            by_cases h2 : p.c = lc
            · rw [if_pos h2, Bool.eq_iff_iff]; simp; omega
            · rw [if_neg h2]; simp; omega
        refine JoinW.at (fun s W' => s = (.bool (!klt (lc, la) (p.c, p.a)), ()) ∧ W' = W3) ?_ ?_
        · rw [hv]
          by_cases h1 : p.c < lc
          · simp [go_sem, hp_of gq3, hp_of gk3, hp_of gq, hp_of gk2, ne3, ne4, h1]
          · by_cases h2 : p.c = lc
            · simp [go_sem, hp_of gq3, hp_of gk3, hp_of gq, hp_of gk2, ne3, ne4, h1, h2]
            · simp [go_sem, hp_of gq3, hp_of gk3, hp_of gq, hp_of gk2, ne3, ne4, h1, h2]
        clear hW3
        rintro _ W3 ⟨rfl, rfl⟩
        unfold J33_3
        intro _
        cases hk : klt (lc, la) (p.c, p.a) with
        | false =>
          simp only [Bool.not_false, ifB_bool, if_true]
          exact hno (fun h => hbk hk ⟨h.srt, h.good⟩) _ fr3.mod
        | true =>
          simp only [Bool.not_true, ifB_bool, Bool.false_eq_true, if_false]
          refine JoinW.at (fun s W' => s = (.bool (decide (p.c = 0 ∨ p.a = 0 ∨ (lk (accL f A) p.a).isSome = false ∨ (p.q = 0 ∧ p.b = 0))), ()) ∧ W' = W3) ?_ ?_
          · by_cases a1 : p.c = 0
            · simp [go_sem, hp_of g3, a1]
            · by_cases a2 : p.a = 0
              · simp [go_sem, hp_of g3, a1, a2]
              · cases a3 : (lk (accL f A) p.a).isSome
                · simp [go_sem, hp_of g3, a1, a2, a3]
                · by_cases a4 : p.q = 0
                  · by_cases a5 : p.b = 0
                    · simp [go_sem, hp_of g3, a1, a2, a3, a4, a5]
                    · simp [go_sem, hp_of g3, a1, a2, a3, a4, a5]
                  · simp [go_sem, hp_of g3, a1, a2, a3, a4]
          rintro _ W3 ⟨rfl, rfl⟩
          unfold J33_2
          intro _
          by_cases hz : p.c = 0 ∨ p.a = 0 ∨ (lk (accL f A) p.a).isSome = false ∨ (p.q = 0 ∧ p.b = 0)
          · simp only [decide_eq_true hz, ifB_bool, if_true]
            refine hno (fun h => ?_) _ fr3.mod
            have g := hgd h
            rcases hz with hz | hz | hz | hz
            · exact g.c hz
            · exact g.a hz
            · rw [(there_iff g.a).2 g.there] at hz; cases hz
            · have := g.some
              simp [Po.isZ, hz] at this
          simp only [decide_eq_false hz, ifB_bool, Bool.false_eq_true, if_false]
          refine JoinW.at (fun s W' => s = (.bool (!amongB p.q (-10000000) 10000000 || !amongB p.b (-1000000000000000) 1000000000000000), ()) ∧ W' = W3) ?_ ?_
          · simp [go_sem, hp_of g3]
            refine ca_Within hu.2.1 (by omega) ?_
            cases hq : amongB p.q (-10000000) 10000000
            · simp [go_sem]
            · simp [go_sem, hp_of g3]
              refine ca_Within hu.2.2 (by omega) ?_
              simp [go_sem]
          rintro _ W3 ⟨rfl, rfl⟩
          unfold J33_1
          intro _
          have eq1 : amongB p.q (-MP) MP = amongB p.q (-10000000) 10000000 := rfl
          have eq2 : amongB p.b (-MF) MF = amongB p.b (-1000000000000000) 1000000000000000 := rfl
          by_cases hr : (!amongB p.q (-10000000) 10000000 || !amongB p.b (-1000000000000000) 1000000000000000) = true
          · rw [hr]
            simp only [ifB_bool, if_true]
            refine hno (fun h => ?_) _ fr3.mod
            have g := hgd h
            rw [← eq1, ← eq2, g.q, g.b] at hr
            cases hr
          rw [Bool.eq_false_iff.2 hr]
          simp only [ifB_bool, Bool.false_eq_true, if_false]
          have hg : GoodP A p := by
            refine ⟨fun e => hz (.inl e), fun e => hz (.inr (.inl e)), ?_, ?_, ?_, ?_⟩
            · refine (there_iff (f := f) fun e => hz (.inr (.inl e))).1 ?_
              cases h : (lk (accL f A) p.a).isSome with
              | true => rfl
              | false => exact absurd (.inr (.inr (.inl h))) hz
            · rw [Po.isZ, decide_eq_false_iff_not]
              exact fun e => hz (.inr (.inr (.inr e)))
            · rw [eq1]; cases h : amongB p.q (-10000000) 10000000 with
              | true => rfl
              | false => rw [h] at hr; exact absurd rfl hr
            · rw [eq2]; cases h : amongB p.b (-1000000000000000) 1000000000000000 with
              | true => rfl
              | false => rw [h] at hr; simp at hr
          have hq2 := amongB_iff'.1 hg.q
          have hb2 := amongB_iff'.1 hg.b
          simp only [MP, MF] at hq2 hb2
          have hwq : IntKind.i64.wrap (q + p.q) = q + p.q := by rw [IntKind.wrap_i64]; omega
          have hwb : IntKind.i64.wrap (b + p.b) = b + p.b := by rw [IntKind.wrap_i64]; omega
          have n1 : l ≠ nk := by omega
          have n2 : nq ≠ nk := by omega
          have n3 : np ≠ nk := by omega
          simp [-Int.natCast_add, go_sem, lptr, hp_of gq3, hp_of g3, hp_of gk3, hp_of fr3.h1, hwq, hwb, n1, n2, n3]
          generalize hW4 : World.drew (World.drew _) = W4
          have mw4 : Mod (fun b => b = nk) W3 W4 := by subst hW4; exact (((Mod.refl (fun b => b = nk) W3).setCell (b := nk) (.inl rfl) _ _).setCell (b := nk) (.inl rfl) _ _).drew.drew
          have gk4 : hp W4 nk = some (.cells #[.int .u32 p.c, .int .u32 p.a] 81 (0, 0)) := by subst hW4; simp [go_sem, hp_of gk3]
          have fr4 : FrQ w W4 l m1 m2 (accL f A) (posL (P.take i)) := ⟨fr3.mod.on mw4 fun b hb => .inr (by omega), mw4.keep fr3.h1 n1, fr3.a.mod mw4 (by omega), fr3.b.mod mw4 (by omega)⟩
          refine rux_mapUp (enc := encKey) (ev := poV) (x := (p.c, p.a)) (v := p) uMapP kKey fr4.b fun W5 hB mo hs => ?_
          rw [hposl hk] at hB
          rw [hw]
          refine hKN _ _ ⟨i + 1, p.c, p.a, q + p.q, b + p.b, _, _, by omega, rfl, hstep hk hsum, fun x hx => ?_, mo.keep gk4 (by omega), fr4.upB h7 (by omega) mo hB⟩ (by simp; omega)
          rw [htk] at hx
          rcases List.mem_append.1 hx with hx | hx
          · exact hgood x hx
          · rw [List.mem_singleton] at hx; subst hx; exact hg
      · obtain rfl : i = P.length := by omega
        clear hKN
        rw [List.take_of_length_le (Nat.le_refl _)] at fr hinv hgood
        refine rv_ok' (v := .bool false) (w' := W) (by simp [go_sem]) ?_
        rw [ifB_bool, if_neg Bool.false_ne_true]
        refine JoinW.at (fun s W' => s = (.bool (decide (q ≠ 0 ∨ b ≠ 0)), ()) ∧ W' = W) ?_ ?_
        · by_cases hq : q = 0
          · by_cases hb : b = 0
            · simp [go_sem, hq, hb]
            · simp [go_sem, hq, hb]
          · simp [go_sem, hq]
        rintro _ _ ⟨rfl, rfl⟩
        unfold J33_5
        intro _
        by_cases hqb : q ≠ 0 ∨ b ≠ 0
        · simp only [decide_eq_true hqb, ifB_bool, if_true]
          exact hno (fun h => hinv.bad_end hqb h.zero) _ fr.mod
        · simp only [decide_eq_false hqb, ifB_bool, Bool.false_eq_true, if_false]
          obtain ⟨rfl, rfl⟩ : q = 0 ∧ b = 0 := by omega
          have ok : FromOk f A P := ⟨h64, hf, hpa, htot, hinv.srt, hgood, hinv.done⟩
          refine hok ok _ l F ⟨⟨m1, m2, _, _, fr.h1, fr.a, fr.b, List.Perm.refl _, List.Perm.refl _, h6, h7⟩, ok.ok uA fun p hp => (uP p hp).1.1⟩ fr.mod fun b hb => by have := f2 b hb; omega
end Go.Proofs
