/- Part of a proof. -/
import Derived.Test.YtgebhcgmckjbbaaGreatI22
set_option linter.all false
namespace Go.Proofs
open Go Go.Vc
attribute [local congr] Ca_congV
theorem ru_ok' {P : Program} {s : Sem Unit} {w : World} {K : World → Prop} {w' : World} (h : s.run P w = .ok () w') (hK : K w') : ru P s w K := by
  rw [ru_iff]; unfold ruD; rw [h]; exact hK
theorem put_new {κ ν : Type} [DecidableEq κ] {L : List (κ × ν)} {k : κ} {v : ν} (h : ∀ p ∈ L, p.1 ≠ k) : put L k v = L ++ [(k, v)] := by
  induction L with
  | nil => rfl
  | cons p L ih =>
    obtain ⟨a, b⟩ := p
    have h1 : a ≠ k := h (a, b) List.mem_cons_self
    simp only [put, if_neg h1, List.cons_append]
    rw [ih fun x hx => h x (List.mem_cons_of_mem _ hx)]
def accL (f : Int) (A : List Ac) : List (Int × Ac) := (0, fundAc f) :: A.map fun a => (a.num, a)
def posL (P : List Po) : List ((Int × Int) × Po) := P.map fun p => (p.key, p)
theorem accL_step {f : Int} {A : List Ac} (h : PA A) {i : Nat} (hi : i < A.length) : put (accL f (A.take i)) A[i].num A[i] = accL f (A.take (i + 1)) := by
  rw [put_new, take_snoc hi]
  · simp only [accL, List.map_append, List.cons_append, List.map_cons, List.map_nil]
  · intro p hp
    rcases List.mem_cons.1 hp with rfl | hp
    · have := (h.num A[i] (List.getElem_mem hi)).1
      simp only; omega
    · obtain ⟨a, ha, rfl⟩ := List.mem_map.1 hp
      have : a.num < A[i].num := pw_take h.srt hi ha
      simp only; omega
theorem posL_step {P : List Po} {i : Nat} (hi : i < P.length) {lc la q b : Int} (h : PInv (P.take i) lc la q b) (hk : klt (lc, la) P[i].key = true) : put (posL (P.take i)) P[i].key P[i] = posL (P.take (i + 1)) := by
  rw [put_new, take_snoc hi]
  · simp only [posL, List.map_append, List.map_cons, List.map_nil]
  · intro p hp
    obtain ⟨a, ha, rfl⟩ := List.mem_map.1 hp
    exact klt_ne (klt_of_le (h.top a ha) hk)
structure FrQ (w W : World) (l m1 m2 : Nat) (LA : List (Int × Ac)) (LB : List ((Int × Int) × Po)) : Prop where
  mod : Mod (fun _ => False) w W
  h1 : hp W l = some (.cells #[.map (some m1), .map (some m2)] 201 (0, 0))
  a : MapAt encU acV W m1 LA
  b : MapAt encKey poV W m2 LB
theorem FrQ.on {w W W' : World} {l m1 m2 : Nat} {LA : List (Int × Ac)} {LB : List ((Int × Int) × Po)} (h : FrQ w W l m1 m2 LA LB) (m : Mod (fun _ => False) W W') : FrQ w W' l m1 m2 LA LB :=
  ⟨h.mod.trans m, m.keep h.h1 id, h.a.mod m id, h.b.mod m id⟩
theorem FrQ.upA {w W W' : World} {l m1 m2 : Nat} {LA LA' : List (Int × Ac)} {LB : List ((Int × Int) × Po)} (h : FrQ w W l m1 m2 LA LB) (hd : l ≠ m1 ∧ l ≠ m2 ∧ m1 ≠ m2) (hw : w.heap.size ≤ m1) (m : Mod (fun b => b = m1) W W') (ha : MapAt encU acV W' m1 LA') : FrQ w W' l m1 m2 LA' LB :=
  ⟨h.mod.on m fun b hb => .inr (by omega), m.keep h.h1 hd.1, ha, h.b.mod m hd.2.2.symm⟩
theorem FrQ.upB {w W W' : World} {l m1 m2 : Nat} {LA : List (Int × Ac)} {LB LB' : List ((Int × Int) × Po)} (h : FrQ w W l m1 m2 LA LB) (hd : l ≠ m1 ∧ l ≠ m2 ∧ m1 ≠ m2) (hw : w.heap.size ≤ m2) (m : Mod (fun b => b = m2) W W') (hb : MapAt encKey poV W' m2 LB') : FrQ w W' l m1 m2 LA LB' :=
  ⟨h.mod.on m fun b hb => .inr (by omega), m.keep h.h1 hd.2.1, h.a.mod m hd.2.2, hb⟩
theorem there_iff {f : Int} {A : List Ac} {n : Int} (hn : n ≠ 0) : (lk (accL f A) n).isSome = true ↔ ∃ x ∈ A, x.num = n := by
  have : lk (accL f A) n = A.find? fun x => decide (x.num = n) := by
    rw [← lk_mapA]
    simp only [accL, lk, if_neg (Ne.symm hn)]
  rw [this, List.find?_isSome]
  simp
set_option maxRecDepth 10000 in
set_option maxHeartbeats 2000000 in
theorem ca_from {w : World} {f : Int} {va vp : Value} {A : List Ac} {P : List Po} {K : Kont} (hA : Rd w 4 va A.length (A.flatMap cellsAc)) (hP : Rd w 4 vp P.length (P.flatMap cellsPo)) (hn : A.length < 4294967296) (hl : P.length ≤ 1024)
    (uA : ∀ a ∈ A, 0 ≤ a.num ∧ a.num < 4294967296) (uP : ∀ p ∈ P, ((0 ≤ p.c ∧ p.c < 4294967296) ∧ (0 ≤ p.a ∧ p.a < 4294967296)) ∧ (-9223372036854775808 ≤ p.q ∧ p.q < 9223372036854775808) ∧ (-9223372036854775808 ≤ p.b ∧ p.b < 9223372036854775808))
    (hok : FromOk f A P → ∀ w' l F, LedQ w' l F ⟨f, A, P⟩ → Mod (fun _ => False) w w' → (∀ b, F b → w.heap.size ≤ b) → K (.tuple #[lptr l, .int .i64 0]) w')
    (hno : ¬ FromOk f A P → ∀ w', Mod (fun _ => False) w w' → K (.tuple #[.pointer none, .int .i64 2]) w') :
    Ca Tryz.prog 46 #[.int .i64 f, va, vp] w K := by
  obtain ⟨aA, cA, rfl⟩ := hA.isSl
  obtain ⟨aP, cP, rfl⟩ := hP.isSl
  apply ca46
  unfold F46
  refine ca_people hA hn fun b w1 mo1 hb => ?_
  cases b with
  | false =>
    refine rv_ok' (v := .bool true) (w' := w1) (by simp [go_sem]) ?_
    rw [ifB_bool, if_pos rfl]
    exact hno (fun h => by have := hb.2 ⟨h.len, h.fund, h.pa, h.tot⟩; cases this) _ mo1
  | true =>
    obtain ⟨h64, hf, hpa, htot⟩ := hb.1 rfl
    refine rv_ok' (v := .bool false) (w' := w1) (by simp [go_sem]) ?_
    rw [ifB_bool, if_neg Bool.false_ne_true]
    refine ca_new fun w2 l F q2 mo2 f2 => ?_
    obtain ⟨⟨m1, m2, A0, B0, h1, h2, h3, h4, h5, h6, h7⟩, -⟩ := q2
    obtain rfl : B0 = [] := List.Perm.eq_nil h5
    have hl0 := f2 l ((h6 l).2 (.inl rfl))
    have hm10 := f2 m1 ((h6 m1).2 (.inr (.inl rfl)))
    have hm20 := f2 m2 ((h6 m2).2 (.inr (.inr rfl)))
    have hs1 := mo1.size
    have fr0 : FrQ w w2 l m1 m2 A0 [] := ⟨mo1.trans mo2, h1, h2, h3⟩
    obtain rfl : A0 = [(0, fundAc 0)] := List.perm_singleton.1 h4
    simp [go_sem, lptr, hp_of h1]
    refine rux_mapUp (enc := encU) (ev := acV) (x := 0) (v := fundAc f) uMapA kU32 h2 fun w3 hA3 mo3 hs3 => ?_
    have fr3 : FrQ w w3 l m1 m2 (accL f []) [] := fr0.upA h7 (by omega) mo3 hA3
    (try simp [go_sem])
    refine loopK (fun s W => ∃ i : Nat, i ≤ A.length ∧ s = (.int .i64 i, ()) ∧ FrQ w W l m1 m2 (accL f (A.take i)) [])
      (fun s _ => match s.1 with | .int _ i => A.length - i.toNat | _ => 0) ⟨0, by omega, rfl, fr3⟩ ?_
    rintro ⟨_, _⟩ W ⟨i, hi, ⟨⟩, fr⟩ KN hKN
    unfold L46_7
    intro _
    by_cases hlt : i < A.length
    · obtain ⟨b, off, cap, C, e', fz, e, hC, c0, c1, c2, c3⟩ := lfAc (hA.mod fr.mod fun _ _ h => h) hlt
      cases e
      have hw := wr_add1 (i := i) (by omega)
      refine rv_ok' (v := .bool true) (w' := W) (by simp [go_sem, hlt]) ?_
      rw [ifB_bool, if_pos rfl]
      refine rv_ok' (by simp [-Int.natCast_add, go_sem, hlt]; first | exact ⟨rfl, rfl⟩ | exact rfl) ?_
      refine rv_ok' (by simp [-Int.natCast_add, go_sem, hlt, hC, c0, c1, c2, c3]; first | exact ⟨rfl, rfl⟩ | exact rfl) ?_
      refine rv_ok' (by simp [go_sem]; first | exact ⟨rfl, rfl⟩ | exact rfl) ?_
      refine ru_ok' (by simp [-Int.natCast_add, go_sem]; first | exact ⟨rfl, rfl⟩ | exact rfl) ?_
      have hlm := lt_of_heap fr.h1
      generalize hW1 : W.alloc _ = W1
      have mw1 : Mod (fun _ => False) W W1 := by subst hW1; exact (Mod.refl _ W).alloc _
      have hloc : hp W1 W.heap.size = some (.cells #[.int .u32 A[i].num, .int .i64 A[i].cash, .bool A[i].kil, .bool A[i].dfl] 92 (0, 0)) := by subst hW1; simp [go_sem]
      have fr1 := fr.on (mw1.trans (Mod.refl _ W1).drew)
      simp [-Int.natCast_add, go_sem, lptr, hp_of hloc, hp_of (mw1.keep fr.h1 id)]
      refine rux_mapUp (enc := encU) (ev := acV) (x := A[i].num) (v := A[i]) uMapA kU32 fr1.a fun W2 hA2 mo hs => ?_
      rw [accL_step hpa hlt] at hA2
      simp [-Int.natCast_add, go_sem, hw]
      exact hKN _ _ ⟨i + 1, by omega, rfl, fr1.upA h7 (by omega) mo hA2⟩ (by simp; omega)
    · obtain rfl : i = A.length := by omega
      clear hKN
      rw [List.take_of_length_le (Nat.le_refl _)] at fr
      refine rv_ok' (v := .bool false) (w' := W) (by simp [go_sem]) ?_
      rw [ifB_bool, if_neg Bool.false_ne_true]
      obtain ⟨nk, hnk⟩ : ∃ nk, nk = W.heap.size := ⟨_, rfl⟩
      refine rv_ok' (by simp [go_sem]; first | exact ⟨rfl, rfl⟩ | exact rfl) ?_
      rw [← hnk]
      generalize hW1 : W.alloc _ = W1
      have mw1 : Mod (fun _ => False) W W1 := by subst hW1; exact (Mod.refl _ W).alloc _
      have gk : hp W1 nk = some (.cells #[.int .u32 0, .int .u32 0] 224 (0, 0)) := by subst hW1 hnk; simp [go_sem]
      have fr1 := fr.on mw1
      have hkl : l < nk ∧ m1 < nk ∧ m2 < nk ∧ w.heap.size ≤ nk := by
        have := lt_of_heap fr.h1
        have := fr.a.lt
        have := fr.b.lt
        have := fr.mod.size
        omega
      simp [go_sem]
      refine loopK (fun s W => ∃ (i : Nat) (lc la q b : Int) (x1 x2 : Value), i ≤ P.length ∧ s = (x1, x2, .int .i64 q, .int .i64 b, .int .i64 i, ()) ∧ PInv (P.take i) lc la q b ∧ (∀ p ∈ P.take i, GoodP A p) ∧ hp W nk = some (.cells #[.int .u32 lc, .int .u32 la] 224 (0, 0)) ∧ FrQ w W l m1 m2 (accL f A) (posL (P.take i)))
        (fun s _ => match s.2.2.2.2.1 with | .int _ i => P.length - i.toNat | _ => 0) ⟨0, 0, 0, 0, 0, _, _, by omega, rfl, PInv.nil, by simp, gk, fr1⟩ ?_
      clear hW1 gk fr1 mw1 fr
      rintro ⟨y1, _⟩ W ⟨i, lc, la, q, b, x1, x2, hi, ⟨⟩, hinv, hgood, gk, fr⟩ KN hKN
      have hbd := sum_bdQ hgood (by rw [List.length_take]; omega) lc
      rw [← hinv.q, ← hinv.b] at hbd
      unfold L46_6
      intro _
      by_cases hlt : i < P.length
      · obtain ⟨b0, off, cap, C, e', fz, e, hC, c0, c1, c2, c3⟩ := lfPo (hP.mod fr.mod fun _ _ h => h) hlt
        cases e
        have hmem : P[i] ∈ P := List.getElem_mem hlt
        have hu := uP P[i] hmem
        have hw := wr_add1 (i := i) (by omega)
        have htk := take_snoc hlt
        have hbs := @PInv.bad_sum P i hlt lc la q b hinv
        have hbk := @PInv.bad_key A P i hlt lc la q b hinv ⟨hu.1.1.1, hu.1.2.1⟩
        have hstep := @PInv.step _ lc la q b hinv P[i]
        have hposl := fun h => @posL_step P i hlt lc la q b hinv h
        rw [← htk] at hstep
        obtain ⟨np, hnp⟩ : ∃ np, np = W.heap.size := ⟨_, rfl⟩
        have lnk := lt_of_heap gk
        have hgd : FromOk f A P → GoodP A P[i] := fun h => h.good _ hmem
        have hpk : P[i].key = (P[i].c, P[i].a) := rfl
        rw [hpk] at hposl hbk hstep
        refine rv_ok' (v := .bool true) (w' := W) (by simp [go_sem, hlt]) ?_
        rw [ifB_bool, if_pos rfl]
        refine rv_ok' (by simp [-Int.natCast_add, go_sem, hlt]; first | exact ⟨rfl, rfl⟩ | exact rfl) ?_
        refine rv_ok' (by simp [-Int.natCast_add, go_sem, hlt, hC, c0, c1, c2, c3]; first | exact ⟨rfl, rfl⟩ | exact rfl) ?_
        refine rv_ok' (by simp [go_sem]; first | exact ⟨rfl, rfl⟩ | exact rfl) ?_
        refine ru_ok' (by simp [-Int.natCast_add, go_sem]; first | exact ⟨rfl, rfl⟩ | exact rfl) ?_
        rw [← hnp]
        generalize hp0 : P[i] = p at *
        generalize hW1 : W.alloc _ = W1
        have mw1 : Mod (fun _ => False) W W1 := by subst hW1; exact (Mod.refl _ W).alloc _
        have g1 : hp W1 np = some (.cells #[.int .u32 p.c, .int .u32 p.a, .int .i64 p.q, .int .i64 p.b] 112 (0, 0)) := by subst hW1 hnp; simp [go_sem]
        refine rv_ok' (by simp [go_sem]; first | exact ⟨rfl, rfl⟩ | exact rfl) ?_
        refine rv_ok' (by simp [go_sem, hp_of g1]; first | exact ⟨rfl, rfl⟩ | exact rfl) ?_
        refine rv_ok' (by simp [go_sem]; first | exact ⟨rfl, rfl⟩ | exact rfl) ?_
        refine rv_ok' (by simp [go_sem, hp_of g1]; first | exact ⟨rfl, rfl⟩ | exact rfl) ?_
        refine rv_ok' (by simp [go_sem]; first | exact ⟨rfl, rfl⟩ | exact rfl) ?_
        obtain ⟨nq, hnq⟩ : ∃ nq, nq = W1.heap.size := ⟨_, rfl⟩
        refine rv_ok' (by simp [go_sem]; first | exact ⟨rfl, rfl⟩ | exact rfl) ?_
        refine ru_ok' (by simp [go_sem]; first | exact ⟨rfl, rfl⟩ | exact rfl) ?_
        rw [← hnq]
        generalize hW2 : W1.alloc _ = W2
        have mw2 : Mod (fun _ => False) W1 W2 := by subst hW2; exact (Mod.refl _ W1).alloc _
        have g2 := mw2.keep g1 id
        have gq : hp W2 nq = some (.cells #[.int .u32 p.c, .int .u32 p.a] 224 (0, 0)) := by subst hW2 hnq; simp [go_sem]
        have gk2 := (mw1.trans mw2).keep gk id
        have fr2 := fr.on (mw1.trans mw2)
        have lnp := lt_of_heap g1
        have lnq := lt_of_heap gq
        refine JoinW.at (fun s W' => s = (x2, y1, ()) ∧ W' = W2 ∧ (p.c ≠ lc → q = 0 ∧ b = 0)) ?_ ?_
        · by_cases hc : p.c = lc
          · simp [go_sem, hp_of gq, hp_of gk2, hc]
          · simp [go_sem, hp_of gq, hp_of gk2, hc]
            refine JoinW.at (fun s W' => s = (.bool (decide (q ≠ 0 ∨ b ≠ 0)), ()) ∧ W' = W2) ?_ ?_
            · by_cases hq : q = 0
              · by_cases hb : b = 0
                · simp [go_sem, hq, hb]
                · simp [go_sem, hq, hb]
              · simp [go_sem, hq]
            rintro _ W2 ⟨rfl, rfl⟩
            unfold J46_0
            intro _
            by_cases hqb : q ≠ 0 ∨ b ≠ 0
            · simp only [decide_eq_true hqb, ifB_bool, if_true]
              exact hno (fun h => hbs hc hqb ⟨h.srt, h.zero⟩) _ fr2.mod
            · simp only [decide_eq_false hqb, ifB_bool, Bool.false_eq_true, if_false]
              obtain ⟨e1, e2⟩ : q = 0 ∧ b = 0 := by omega
              simp [e1, e2]
        rintro _ W2 ⟨rfl, rfl, hsum⟩
        unfold J46_4
        intro _
        simp [go_sem, lptr, hp_of fr2.h1, hp_of g2]
        have hl : ∀ W', Mod (fun _ => False) W2 W' → (xLook 198 (.map (some m1)) (.int .u32 p.a) true).run Tryz.prog W' = .ok (.tuple #[acV ((lk (accL f A) p.a).getD ⟨0, 0, false, false⟩), .bool (lk (accL f A) p.a).isSome]) W' := fun W' m => by
          have := run_look2 (P := Tryz.prog) (enc := encU) (ev := acV) (x := p.a) uMapA kU32 zAc (.inr ⟨m1, rfl, (fr2.on m).a⟩)
          rw [elim_acV] at this
          exact this
        refine rdX_look2 (enc := encU) (ev := acV) (x := p.a) (acV ⟨0, 0, false, false⟩) uMapA kU32 zAc (.inr ⟨m1, rfl, (fr2.on ((Mod.refl _ W2).drew)).a⟩) ?_
        rw [elim_acV]
        generalize (lk (accL f A) p.a).getD ⟨0, 0, false, false⟩ = xa at hl ⊢
        have ne1 : np ≠ W2.heap.size := by omega
        have ne2 : l ≠ W2.heap.size := by omega
        simp [go_sem, acV, hp_of fr2.h1, hp_of g2, ne1, ne2]
        refine ⟨hl _ (((Mod.refl _ W2).alloc _).drew), ?_⟩
        generalize hW3 : (World.alloc _ _).drew = W3
        have mw3 : Mod (fun _ => False) W2 W3 := by subst hW3; exact ((Mod.refl _ W2).alloc _).drew
        have g3 := mw3.keep g2 id
        have gq3 := mw3.keep gq id
        have gk3 := mw3.keep gk2 id
        have fr3 := fr2.on mw3
        have ne3 : nq ≠ W2.heap.size := by omega
        have ne4 : nk ≠ W2.heap.size := by omega
        have hv : (!klt (lc, la) (p.c, p.a)) = (if p.c < lc then true else if p.c = lc then decide (p.a ≤ la) else false) := by
          unfold klt
          by_cases h1 : p.c < lc
          · rw [if_pos h1]; simp; omega
          · rw [if_neg h1]
            by_cases h2 : p.c = lc
            · rw [if_pos h2, Bool.eq_iff_iff]; simp; omega
            · rw [if_neg h2]; simp; omega
        refine JoinW.at (fun s W' => s = (.bool (!klt (lc, la) (p.c, p.a)), ()) ∧ W' = W3) ?_ ?_
        · rw [hv]
          by_cases h1 : p.c < lc
          · simp [go_sem, hp_of gq3, hp_of gk3, hp_of gq, hp_of gk2, ne3, ne4, h1]
          · by_cases h2 : p.c = lc
            · simp [go_sem, hp_of gq3, hp_of gk3, hp_of gq, hp_of gk2, ne3, ne4, h1, h2]
            · simp [go_sem, hp_of gq3, hp_of gk3, hp_of gq, hp_of gk2, ne3, ne4, h1, h2]
        clear hW3
        rintro _ W3 ⟨rfl, rfl⟩
        unfold J46_3
        intro _
        cases hk : klt (lc, la) (p.c, p.a) with
        | false =>
          simp only [Bool.not_false, ifB_bool, if_true]
          exact hno (fun h => hbk hk ⟨h.srt, h.good⟩) _ fr3.mod
        | true =>
          simp only [Bool.not_true, ifB_bool, Bool.false_eq_true, if_false]
          refine JoinW.at (fun s W' => s = (.bool (decide (p.c = 0 ∨ p.a = 0 ∨ (lk (accL f A) p.a).isSome = false ∨ (p.q = 0 ∧ p.b = 0))), ()) ∧ W' = W3) ?_ ?_
          · by_cases a1 : p.c = 0
            · simp [go_sem, hp_of g3, a1]
            · by_cases a2 : p.a = 0
              · simp [go_sem, hp_of g3, a1, a2]
              · cases a3 : (lk (accL f A) p.a).isSome
                · simp [go_sem, hp_of g3, a1, a2, a3]
                · by_cases a4 : p.q = 0
                  · by_cases a5 : p.b = 0
                    · simp [go_sem, hp_of g3, a1, a2, a3, a4, a5]
                    · simp [go_sem, hp_of g3, a1, a2, a3, a4, a5]
                  · simp [go_sem, hp_of g3, a1, a2, a3, a4]
          rintro _ W3 ⟨rfl, rfl⟩
          unfold J46_2
          intro _
          by_cases hz : p.c = 0 ∨ p.a = 0 ∨ (lk (accL f A) p.a).isSome = false ∨ (p.q = 0 ∧ p.b = 0)
          · simp only [decide_eq_true hz, ifB_bool, if_true]
            refine hno (fun h => ?_) _ fr3.mod
            have g := hgd h
            rcases hz with hz | hz | hz | hz
            · exact g.c hz
            · exact g.a hz
            · rw [(there_iff g.a).2 g.there] at hz; cases hz
            · have := g.some
              simp [Po.isZ, hz] at this
          simp only [decide_eq_false hz, ifB_bool, Bool.false_eq_true, if_false]
          refine JoinW.at (fun s W' => s = (.bool (!amongB p.q (-10000000) 10000000 || !amongB p.b (-1000000000000000) 1000000000000000), ()) ∧ W' = W3) ?_ ?_
          · simp [go_sem, hp_of g3]
            refine ca_Within hu.2.1 (by omega) ?_
            cases hq : amongB p.q (-10000000) 10000000
            · simp [go_sem]
            · simp [go_sem, hp_of g3]
              refine ca_Within hu.2.2 (by omega) ?_
              simp [go_sem]
          rintro _ W3 ⟨rfl, rfl⟩
          unfold J46_1
          intro _
          have eq1 : amongB p.q (-MP) MP = amongB p.q (-10000000) 10000000 := rfl
          have eq2 : amongB p.b (-MF) MF = amongB p.b (-1000000000000000) 1000000000000000 := rfl
          by_cases hr : (!amongB p.q (-10000000) 10000000 || !amongB p.b (-1000000000000000) 1000000000000000) = true
          · rw [hr]
            simp only [ifB_bool, if_true]
            refine hno (fun h => ?_) _ fr3.mod
            have g := hgd h
            rw [← eq1, ← eq2, g.q, g.b] at hr
            cases hr
          rw [Bool.eq_false_iff.2 hr]
          simp only [ifB_bool, Bool.false_eq_true, if_false]
          have hg : GoodP A p := by
            refine ⟨fun e => hz (.inl e), fun e => hz (.inr (.inl e)), ?_, ?_, ?_, ?_⟩
            · refine (there_iff (f := f) fun e => hz (.inr (.inl e))).1 ?_
              cases h : (lk (accL f A) p.a).isSome with
              | true => rfl
              | false => exact absurd (.inr (.inr (.inl h))) hz
            · rw [Po.isZ, decide_eq_false_iff_not]
              exact fun e => hz (.inr (.inr (.inr e)))
            · rw [eq1]; cases h : amongB p.q (-10000000) 10000000 with
              | true => rfl
              | false => rw [h] at hr; exact absurd rfl hr
            · rw [eq2]; cases h : amongB p.b (-1000000000000000) 1000000000000000 with
              | true => rfl
              | false => rw [h] at hr; simp at hr
          have hq2 := amongB_iff'.1 hg.q
          have hb2 := amongB_iff'.1 hg.b
          simp only [MP, MF] at hq2 hb2
          have hwq : IntKind.i64.wrap (q + p.q) = q + p.q := by rw [IntKind.wrap_i64]; omega
          have hwb : IntKind.i64.wrap (b + p.b) = b + p.b := by rw [IntKind.wrap_i64]; omega
          have n1 : l ≠ nk := by omega
          have n2 : nq ≠ nk := by omega
          have n3 : np ≠ nk := by omega
          simp [-Int.natCast_add, go_sem, lptr, hp_of gq3, hp_of g3, hp_of gk3, hp_of fr3.h1, hwq, hwb, n1, n2, n3]
          generalize hW4 : World.drew (World.drew _) = W4
          have mw4 : Mod (fun b => b = nk) W3 W4 := by subst hW4; exact (((Mod.refl (fun b => b = nk) W3).setCell (b := nk) (.inl rfl) _ _).setCell (b := nk) (.inl rfl) _ _).drew.drew
          have gk4 : hp W4 nk = some (.cells #[.int .u32 p.c, .int .u32 p.a] 224 (0, 0)) := by subst hW4; simp [go_sem, hp_of gk3]
          have fr4 : FrQ w W4 l m1 m2 (accL f A) (posL (P.take i)) := ⟨fr3.mod.on mw4 fun b hb => .inr (by omega), mw4.keep fr3.h1 n1, fr3.a.mod mw4 (by omega), fr3.b.mod mw4 (by omega)⟩
          refine rux_mapUp (enc := encKey) (ev := poV) (x := (p.c, p.a)) (v := p) uMapP kKey fr4.b fun W5 hB mo hs => ?_
          rw [hposl hk] at hB
          rw [hw]
          refine hKN _ _ ⟨i + 1, p.c, p.a, q + p.q, b + p.b, _, _, by omega, rfl, hstep hk hsum, fun x hx => ?_, mo.keep gk4 (by omega), fr4.upB h7 (by omega) mo hB⟩ (by simp; omega)
          rw [htk] at hx
          rcases List.mem_append.1 hx with hx | hx
          · exact hgood x hx
          · rw [List.mem_singleton] at hx; subst hx; exact hg
      · obtain rfl : i = P.length := by omega
        clear hKN
        rw [List.take_of_length_le (Nat.le_refl _)] at fr hinv hgood
        refine rv_ok' (v := .bool false) (w' := W) (by simp [go_sem]) ?_
        rw [ifB_bool, if_neg Bool.false_ne_true]
        refine JoinW.at (fun s W' => s = (.bool (decide (q ≠ 0 ∨ b ≠ 0)), ()) ∧ W' = W) ?_ ?_
        · by_cases hq : q = 0
          · by_cases hb : b = 0
            · simp [go_sem, hq, hb]
            · simp [go_sem, hq, hb]
          · simp [go_sem, hq]
        rintro _ _ ⟨rfl, rfl⟩
        unfold J46_5
        intro _
        by_cases hqb : q ≠ 0 ∨ b ≠ 0
        · simp only [decide_eq_true hqb, ifB_bool, if_true]
          exact hno (fun h => hinv.bad_end hqb h.zero) _ fr.mod
        · simp only [decide_eq_false hqb, ifB_bool, Bool.false_eq_true, if_false]
          obtain ⟨rfl, rfl⟩ : q = 0 ∧ b = 0 := by omega
          have ok : FromOk f A P := ⟨h64, hf, hpa, htot, hinv.srt, hgood, hinv.done⟩
          refine hok ok _ l F ⟨⟨m1, m2, _, _, fr.h1, fr.a, fr.b, List.Perm.refl _, List.Perm.refl _, h6, h7⟩, ok.ok uA fun p hp => (uP p hp).1.1⟩ fr.mod fun b hb => by have := f2 b hb; omega
end Go.Proofs
namespace Go.Proofs
open Go Go.Vc
attribute [local congr] Ca_congV
theorem neqSdD (x y : Int × Od) (W : World) : (bin .neq tSdF false (sdVF x) (sdVF y)).run Tryz.prog W = .ok (.bool (!decide (x = y))) W := by
  obtain ⟨c, o⟩ := x
  obtain ⟨c', o'⟩ := y
  obtain ⟨a1, a2, a3, a4, a5⟩ := o
  obtain ⟨b1, b2, b3, b4, b5⟩ := o'
  have : (.ok (.bool (!decide (((c, ⟨a1, a2, a3, a4, a5⟩) : Int × Od) = (c', ⟨b1, b2, b3, b4, b5⟩)))) W : Result Value) = .ok (.bool (!(decide (c = c') && (decide (a1 = b1) && (decide (a2 = b2) && (decide (a3 = b3) && (decide (a4 = b4) && decide (a5 = b5)))))))) W := by
    congr 3
    rw [Bool.eq_iff_iff]
    simp
  rw [this]
  simp [go_sem, sdVF, sdOC, odC]
  (repeat' split) <;> simp_all
set_option maxRecDepth 10000 in
set_option maxHeartbeats 1000000 in
theorem ca_eqSd {w : World} {K : Kont} {a b : Value} {la lb : List (Int × Od)} (ha : Rd w 6 a la.length (la.flatMap sdOC)) (hb : Rd w 6 b lb.length (lb.flatMap sdOC)) (hl : la.length ≤ 100000) (hK : ∀ w', Mod (fun _ => False) w w' → K (.bool (decide (la = lb))) w') : Ca Tryz.prog 51 #[a, b] w K := by
  apply ca51
  unfold F51
  obtain ⟨a1, c1, e1⟩ := ha.isSl
  obtain ⟨a2, c2, e2⟩ := hb.isSl
  have l1 : ∀ W, (builtin .len #[47] 3 #[false] #[a]).run Tryz.prog W = .ok (.value (.int .i64 (la.length : Int))) W := fun W => by rw [e1]; simp [go_sem]
  refine rnS (l1 _) ?_
  refine rnS (v := .int .i64 (lb.length : Int)) (w' := w) (by rw [e2]; simp [go_sem]) ?_
  by_cases hlen : la.length = lb.length
  rotate_left
  · refine rvS (v := .bool true) (w' := w) (by simp [go_sem]; omega) ?_
    rw [ifB_bool, if_pos rfl]
    have hne : la ≠ lb := fun e => hlen (by rw [e])
    have := hK w (Mod.refl _ _)
    rw [decide_eq_false hne] at this
    exact this
  refine rvS (v := .bool false) (w' := w) (by simp [go_sem]; omega) ?_
  rw [ifB_bool, if_neg Bool.false_ne_true]
  refine rnS (l1 _) ?_
  refine loopV (fun st W => ∃ k : Nat, st = (.bool false, .int .i64 k, ()) ∧ k ≤ la.length ∧ la.take k = lb.take k ∧ Mod (fun _ => False) w W)
    (fun st _ => match st.2.1 with | .int _ k => la.length - k.toNat | _ => 0) ⟨0, rfl, by omega, rfl, Mod.refl _ _⟩ ?_
  rintro _ W ⟨k, rfl, hk, hpre, m⟩ KN hKN
  unfold L51_0
  intro _
  by_cases hlt : k < la.length
  · have hlt' : (k : Int) < (la.length : Int) := by omega
    refine rvS (v := .bool true) (by simp [go_sem, hlt'] <;> first | exact ⟨rfl, rfl⟩ | exact rfl) ?_
    rw [ifB_bool, if_pos rfl]
    have md := m.drew
    have ra := ha.mod md fun _ _ h => h
    have rb := hb.mod md fun _ _ h => h
    generalize W.drew = W1 at md ra rb ⊢
    have hltb : k < lb.length := by omega
    obtain ⟨pb, po, pe, pA⟩ := sdIt ra hlt
    obtain ⟨qb, qo, qe, qA⟩ := sdIt rb hltb
    refine rdPS (fun W => pe W _) (rdWS (sdLdAt pA) ?_)
    refine rdPS (fun W => qe W _) (rdWS (sdLdAt qA) ?_)
    refine rdPS (fun W => neqSdD _ _ W) ?_
    by_cases hx : la[k] = lb[k]
    · rw [decide_eq_true hx, show (!true) = false from rfl, ifB_bool, if_neg Bool.false_ne_true]
      refine rvS (v := .int .i64 ((k + 1 : Nat) : Int)) (w' := W1) (by simp [go_sem]; rw [wrapI (by omega) (by omega)]) ?_
      refine hKN _ _ ⟨k + 1, rfl, by omega, ?_, md⟩ (by show la.length - (((k + 1 : Nat) : Int)).toNat < la.length - ((k : Int)).toNat; omega)
      rw [take_succ' hlt, take_succ' hltb, hpre, hx]
    · rw [decide_eq_false hx, show (!false) = true from rfl, ifB_bool, if_pos rfl]
      have hne : la ≠ lb := fun e => hx (by subst e; rfl)
      have := hK W1 md
      rw [decide_eq_false hne] at this
      exact this
  · obtain rfl : k = la.length := by omega
    refine rvS (v := .bool false) (by simp [go_sem] <;> first | exact ⟨rfl, rfl⟩ | exact rfl) ?_
    rw [ifB_bool, if_neg Bool.false_ne_true]
    have he : la = lb := by
      rw [List.take_length, hlen, List.take_length] at hpre
      exact hpre
    have := hK W m
    rw [decide_eq_true he] at this
    exact this
section
variable {w : World} {b : Nat} {d nx fu : Int} {ss : Nat → Value}
theorem stLd345 (h : StBlk w b d nx fu ss) (hs : ∀ i, 3 ≤ i → i ≤ 7 → ∃ a n c, ss i = .slice a n c) : (Instr.loadAt 44 (.pointer (some ⟨b, 3, none⟩))).run Tryz.prog w = .ok (ss 3) w ∧ (Instr.loadAt 45 (.pointer (some ⟨b, 4, none⟩))).run Tryz.prog w = .ok (ss 4) w ∧ (Instr.loadAt 46 (.pointer (some ⟨b, 5, none⟩))).run Tryz.prog w = .ok (ss 5) w :=
  ⟨stLdI h hs 3 (by omega) (by omega), stLdI h hs 4 (by omega) (by omega), stLdI h hs 5 (by omega) (by omega)⟩
theorem stLdW (h : StBlk w b d nx fu ss) (hs : ∀ i, 3 ≤ i → i ≤ 7 → ∃ a n c, ss i = .slice a n c) : (Instr.loadAt tSt (.pointer (some ⟨b, 0, none⟩))).run Tryz.prog w = .ok (stV d nx fu ss) w := by
  have h' : hp w b = some (.cells (stC d nx fu ss).toArray tSt (0, 0)) := h
  obtain ⟨_, _, _, e3⟩ := hs 3 (by omega) (by omega)
  obtain ⟨_, _, _, e4⟩ := hs 4 (by omega) (by omega)
  obtain ⟨_, _, _, e5⟩ := hs 5 (by omega) (by omega)
  obtain ⟨_, _, _, e6⟩ := hs 6 (by omega) (by omega)
  obtain ⟨_, _, _, e7⟩ := hs 7 (by omega) (by omega)
  simp only [stC, stV, e3, e4, e5, e6, e7] at h' ⊢
  simp [go_sem, h']
end
abbrev tVp : TypeId := 23
theorem newVp (W : World) : ∃ w1, (Instr.alloc tVp true (.tuple #[])).run Tryz.prog W = .ok (.pointer (some ⟨W.heap.size, 0, none⟩)) w1 ∧ hp w1 W.heap.size = some (.cells #[.pointer none] tVp (0, 0)) ∧ Mod (fun _ => False) W w1 :=
  ⟨W.alloc (.cells #[.pointer none] tVp), by simp [go_sem], by simp [go_sem], (Mod.refl _ W).alloc _⟩
theorem setVp {W : World} {p : Nat} {x : Value} (v : Nat) (h : hp W p = some (.cells #[x] tVp (0, 0))) : ∃ W', (Instr.storeAt tVp (.pointer (some ⟨p, 0, none⟩)) (vptr v)).run Tryz.prog W = .ok () W' ∧ hp W' p = some (.cells #[vptr v] tVp (0, 0)) ∧ Mod (fun y => y = p) W W' :=
  ⟨W.setCell ⟨p, 0, none⟩ (vptr v), by simp [go_sem, h, vptr], by simp [go_sem, h], (Mod.refl (fun y => y = p) W).setCell (.inl rfl) _ _⟩
theorem ldVp {W : World} {p v : Nat} (h : hp W p = some (.cells #[vptr v] tVp (0, 0))) : (Instr.loadAt tVp (.pointer (some ⟨p, 0, none⟩))).run Tryz.prog W = .ok (vptr v) W := by simp [go_sem, h, vptr]
abbrev PoB (W : World) (p : Nat) (x : Po) : Prop := hp W p = some (.cells (cellsPo x).toArray 112 (0, 0))
theorem poB0 {W : World} {p : Nat} {x : Po} (h : PoB W p x) : (Instr.loadAt 35 (.pointer (some ⟨p, 0, none⟩))).run Tryz.prog W = .ok (.int .u32 x.c) W := by
  have h' : hp W p = some (.cells (cellsPo x).toArray 112 (0, 0)) := h
  simp only [cellsPo] at h'
  simp [go_sem, h']
theorem poIt {W : World} {s : Value} {L : List Po} (h : Rd W 4 s L.length (L.flatMap cellsPo)) {i : Nat} (hi : i < L.length) :
    ∃ b off, (Instr.indexAt 46 s (.int .i64 (i : Int))).run Tryz.prog W = .ok (.pointer (some ⟨b, off, none⟩)) W ∧ (Instr.loadAt 112 (.pointer (some ⟨b, off, none⟩))).run Tryz.prog W = .ok (poV L[i]) W := by
  obtain ⟨b, off, cap, hse, hcap, hA⟩ := h.item (show ∀ x, (cellsPo x).length = 4 from fun _ => rfl) hi rfl
  have u : Tryz.prog.underlying 46 = some (.slice 112) := by kernel_rfl
  refine ⟨b, off + i * 4, by rw [hse]; simp [go_sem, hi, addr_add, u], ?_⟩
  exact run_bigS (P := Tryz.prog) (t := 112) (by kernel_rfl) (show Tryz.prog.cellsOf 112 = 3 + 1 by kernel_rfl) rfl hA
theorem told_len {S : Ven} (h : S.Ok) : S.state.ords.length ≤ 100000 ∧ S.state.bids.length ≤ 100000 := by
  have h1 := ordT_len h.ord S.nums.length
  have h2 := bidT_len h.ord S.nums.length
  unfold ordT at h1
  unfold bidT at h2
  rw [List.take_length] at h1 h2
  have h3 := h.cal.len
  have h4 : S.nums.length = S.cal.l.length := by unfold Ven.nums; rw [List.length_map]
  exact ⟨by show (S.nums.flatMap _).length ≤ _; omega, by show (S.nums.flatMap _).length ≤ _; omega⟩
theorem ven0_bk (s : Sta) (n : Int) : ({ ven0 s with bk := upd (ven0 s).bk n Bk.empty } : Ven) = ven0 s := by
  have e : upd (fun _ : Int => Bk.empty) n Bk.empty = fun _ => Bk.empty := by
    funext m
    unfold upd
    split <;> rfl
  show (⟨(ven0 s).cal, (ven0 s).led, upd (fun _ : Int => Bk.empty) n Bk.empty, (ven0 s).bd, (ven0 s).next⟩ : Ven) = _
  rw [e]
  rfl
set_option maxRecDepth 10000 in
set_option maxHeartbeats 8000000 in
theorem ca_vfrom {w : World} {K : Kont} {ss : Nat → Value} {s : Sta} (h : StaR w ss s) (hf : s.Fit) (hl : s.accts.length ≤ 100000 ∧ s.cts.length ≤ 100000 ∧ s.poss.length ≤ 1024 ∧ s.ords.length ≤ 100000 ∧ s.bids.length ≤ 100000)
    (hK : ∀ (x : Value) (e : Int) (w' : World), Mod (fun _ => False) w w' → (match fromR s with | none => e = 2 ∧ x = .pointer none | some S => e = 0 ∧ ∃ v F, x = vptr v ∧ VenQ w' v F S ∧ ∀ y, F y → w.heap.size ≤ y) → K (.tuple #[x, .int .i64 e]) w') : Ca Tryz.prog 13 #[stV s.day s.next s.fund ss] w K := by
  obtain ⟨hlA, hlC, hlP, hlO, hlB⟩ := hl
  have hssl := h.sl
  have bad : fromR s = none → ∀ w', Mod (fun _ => False) w w' → K (.tuple #[.pointer none, .int .i64 2]) w' := fun hn w' m => hK _ 2 w' m (by rw [hn]; exact ⟨rfl, rfl⟩)
  have nf : ¬ From0 s → fromR s = none := fun hn => by unfold fromR; rw [if_neg hn]
  apply ca13
  unfold F13
  obtain ⟨w1, e1, b1, m1⟩ := boxStI s.day s.next s.fund ss w
  obtain ⟨sb, hsb⟩ : ∃ p, p = w.heap.size := ⟨_, rfl⟩
  rw [← hsb] at e1 b1
  refine rvS e1 (rvS (stFl sb 0 (by omega) _) (rvS (stLdN b1).1 ?_))
  refine rvS (stFl sb 4 (by omega) _) (rvS (stLd345 b1 hssl).2.1 ?_)
  have h1 := h.md0 m1
  refine ca_calfrom h1.cts hlC hf.cts hf.day (fun hc16 hcup c Fc w2 qc m2 nc => ?_) fun hcn w2 m2 => ?_
  rotate_left
  · refine rvS (v := .pointer none) (w' := w2) (by simp [go_sem]) (rvS (v := .int .i64 2) (w' := w2) (by simp [go_sem]) ?_)
    refine rvS (v := .bool true) (w' := w2) (by simp [go_sem]) ?_
    rw [ifB_bool, if_pos rfl]
    exact bad (nf fun h0 => hcn ⟨h0.len, h0.cts⟩) _ (m1.trans m2)
  refine rvS (v := cptr c) (w' := w2) (by simp [go_sem]) (rvS (v := .int .i64 0) (w' := w2) (by simp [go_sem]) ?_)
  refine rvS (v := .bool false) (w' := w2) (by simp [go_sem]) ?_
  rw [ifB_bool, if_neg Bool.false_ne_true]
  have M2 := m1.trans m2
  have h2 := h.md0 M2
  have b2 : StBlk w2 sb s.day s.next s.fund ss := m2.hpk b1 id
  refine rvS (stFl sb 2 (by omega) _) (rvS (stLdN b2).2.2 ?_)
  refine rvS (stFl sb 3 (by omega) _) (rvS (stLd345 b2 hssl).1 ?_)
  refine rvS (stFl sb 5 (by omega) _) (rvS (stLd345 b2 hssl).2.2 ?_)
  refine ca_from (f := s.fund) h2.accts h2.poss (by omega) hlP (fun a ha => (hf.accts a ha).1) hf.poss (fun hF0 w3 l Fl ql m3 nl => ?_) fun hF0 w3 m3 => ?_
  rotate_left
  · refine rvS (v := .pointer none) (w' := w3) (by simp [go_sem]) (rvS (v := .int .i64 2) (w' := w3) (by simp [go_sem]) ?_)
    refine rvS (v := .bool true) (w' := w3) (by simp [go_sem]) ?_
    rw [ifB_bool, if_pos rfl]
    exact bad (nf fun h0 => hF0 h0.led) _ (M2.trans m3)
  refine rvS (v := lptr l) (w' := w3) (by simp [go_sem]) (rvS (v := .int .i64 0) (w' := w3) (by simp [go_sem]) ?_)
  refine rvS (v := .bool false) (w' := w3) (by simp [go_sem]) ?_
  rw [ifB_bool, if_neg Bool.false_ne_true]
  have M3 := M2.trans m3
  have b3 : StBlk w3 sb s.day s.next s.fund ss := m3.hpk b2 id
  refine JoinW.at (fun st W => st = (.bool (decide (¬ (1 ≤ s.next ∧ s.next ≤ maxNum + 1))), ()) ∧ w3 = W) ?_ ?_
  · refine rvS (stFl sb 1 (by omega) _) (rvS (stLdN b3).2.1 ?_)
    refine rvS (v := .bool (decide (s.next < 1))) (w' := w3) (by simp [go_sem]) ?_
    by_cases c1 : s.next < 1
    · rw [ifB_bool, if_pos (by simpa using c1)]
      have : ¬ 1 ≤ s.next := by omega
      exact ⟨by simp [this], rfl⟩
    rw [ifB_bool, if_neg (by simpa using c1)]
    refine rvS (stFl sb 1 (by omega) _) (rvS (stLdN b3).2.1 ?_)
    refine rvS (v := .bool (decide (¬ (1 ≤ s.next ∧ s.next ≤ maxNum + 1)))) (w' := w3) ?_ ⟨rfl, rfl⟩
    have c1' : 1 ≤ s.next := by omega
    simp [go_sem, c1', maxNum]
  rintro _ _ ⟨rfl, rfl⟩
  unfold J13_6
  intro _
  by_cases hnx : 1 ≤ s.next ∧ s.next ≤ maxNum + 1
  rotate_left
  · simp only [decide_eq_true hnx]
    rw [ifB_bool, if_pos rfl]
    exact bad (nf fun h0 => hnx h0.next) _ M3
  simp only [decide_eq_false (fun hcc : ¬ (1 ≤ s.next ∧ s.next ≤ maxNum + 1) => hcc hnx)]
  rw [ifB_bool, if_neg Bool.false_ne_true]
  have bc : ∀ x, Fc x → w1.heap.size ≤ x ∧ x < w2.heap.size := fun x hx => ⟨nc x hx, qc.lt hx⟩
  have bl : ∀ x, Fl x → w2.heap.size ≤ x ∧ x < w3.heap.size := fun x hx => ⟨nl x hx, ql.lt hx⟩
  replace qc := qc.mod m3 fun _ _ h => h
  have z1 := m1.size
  have z2 := m2.size
  have z3 := m3.size
  have hlsb : sb < w1.heap.size := lt_of_heap b1
  obtain ⟨nb, hnb⟩ : ∃ nb, nb = w3.heap.size := ⟨_, rfl⟩
  have m4 : Mod (fun _ => False) w3 (w3.alloc (.map #[] 0)) := (Mod.refl _ w3).alloc _
  have ab : MapAt encU bptr (w3.alloc (.map #[] 0)) nb ([] : List (Int × Nat)) := by rw [hnb]; exact MapAt.new w3
  refine rvS (v := .map (some nb)) (w' := w3.alloc (.map #[] 0)) (by rw [hnb]; simp [go_sem]) ?_
  generalize w3.alloc (.map #[] 0) = w4 at m4 ab ⊢
  have z4 := m4.size
  have bb := ab.lt
  replace qc := qc.mod m4 fun _ _ h => h
  replace ql := ql.mod m4 fun _ _ h => h
  obtain ⟨nd, hnd⟩ : ∃ nd, nd = w4.heap.size := ⟨_, rfl⟩
  have m5 : Mod (fun _ => False) w4 (w4.alloc (.map #[] 0)) := (Mod.refl _ w4).alloc _
  have ad : MapAt encU idV (w4.alloc (.map #[] 0)) nd ([] : List (Int × Value)) := by rw [hnd]; exact MapAt.new w4
  refine rvS (v := .map (some nd)) (w' := w4.alloc (.map #[] 0)) (by rw [hnd]; simp [go_sem]) ?_
  generalize w4.alloc (.map #[] 0) = w5 at m5 ad ⊢
  have z5 := m5.size
  replace qc := qc.mod m5 fun _ _ h => h
  replace ql := ql.mod m5 fun _ _ h => h
  replace ab := ab.mod m5 id
  have M5 := (M3.trans m4).trans m5
  have b5 : StBlk w5 sb s.day s.next s.fund ss := m5.hpk (m4.hpk b3 id) id
  refine rvS (stFl sb 1 (by omega) _) (rvS (stLdN b5).2.1 ?_)
  refine rvS (v := .agg #[cptr c, lptr l, .map (some nb), .map (some nd), .int .u64 s.next]) (w' := w5) (by simp [go_sem, cptr, lptr]) ?_
  refine ven_box (w := w1) (S := ven0 s) (((m2.trans m3).trans m4).trans m5) qc ql ab ad bc bl (by omega) (by omega) (by omega) (by omega) (by omega) (by omega) (by omega) fun v w6 fp0 v6 m6 n6 => ?_
  rw [cpy_nil] at v6
  replace v6 : VenW w6 v c l nb nd [] [] fp0 (ven0 s) := v6
  have b6 : StBlk w6 sb s.day s.next s.fund ss := m6.hpk b1 id
  obtain ⟨w7, e7, b7, m7⟩ := newVp w6
  obtain ⟨pb, hpb⟩ : ∃ p, p = w6.heap.size := ⟨_, rfl⟩
  rw [← hpb] at e7 b7
  obtain ⟨w8, e8, b8, m8⟩ := setVp v b7
  refine rvS e7 (ruS e8 ?_)
  have M68 : Mod (fun _ => False) w6 w8 := m7.on m8 fun y hy => .inr (by omega)
  have z6 := m6.size
  have v8 := v6.mod M68 fun _ _ _ h => h
  refine ca_call v8.cal fun gv w9 ht m9 => ?_
  have M69 := M68.trans m9
  have z69 := M69.size
  have v9 := v6.mod M69 fun _ _ _ h => h
  have b9 : hp w9 pb = some (.cells #[vptr v] tVp (0, 0)) := m9.hpk b8 id
  have s9 : StBlk w9 sb s.day s.next s.fund ss := M69.hpk b6 id
  have hpl6 : pb = w6.heap.size := hpb
  have hf0 : ∀ y, allP fp0 y → w1.heap.size ≤ y ∧ y < pb := fun y ⟨pt, hy⟩ => ⟨n6 pt y hy, by have := v6.lt hy; omega⟩
  have hpb9 : pb < w9.heap.size := lt_of_heap b9
  have h0pb : ¬ allP fp0 pb := fun hc => by have := hf0 pb hc; omega
  have h0sb : ¬ allP fp0 sb := fun hc => by have := hf0 sb hc; omega
  have M19 : Mod (fun _ => False) w w9 := (m1.trans m6).trans M69
  let I : (Nat → Prop) → Nat → World → Prop := fun X i W => ∃ (A' : List (Int × Nat)) (fp' : Pt → Nat → Prop), VenW W v c l nb nd A' [] fp' (ven0 s) ∧ (∀ n, (lk A' n).isSome = true ↔ ∃ k ∈ s.cts.take i, k.spec.num = n) ∧ (∀ y, X y ↔ allP fp' y) ∧ ∀ y, allP fp' y → w1.heap.size ≤ y ∧ y ≠ pb
  obtain ⟨hcs, hrise⟩ := calUp_spec hcup
  delta R13_4
  refine RF_out (X0 := allP fp0) (fv := fun k : Ct => .agg (ctC k).toArray) (asg := fun x W K => rx Tryz.prog (bigA tCt) W fun v w1 => rux Tryz.prog (bigU tCt v x) w1 fun w2 => K v w2) (Pv := PvOf tCt ctC) (xs := s.cts) ht hasg_ct hPv_of I (fun _ _ _ => False) ?_ (fun _ _ _ _ _ h => h.elim) (fun x ⟨pt, hx⟩ => v9.lt hx) ⟨[], fp0, v9, fun n => ?_, fun y => Iff.rfl, fun y hy => ⟨(hf0 y hy).1, by have := (hf0 y hy).2; omega⟩⟩ ?_ ?_ (fun _ _ _ _ _ h => h.elim)
  · rintro X i W W' H ⟨A', fp', i1, i2, i3, i4⟩ hm hX
    exact ⟨A', fp', i1.mod hm fun pt y hy => hX y ((i3 y).2 ⟨pt, hy⟩), i2, i3, i4⟩
  · constructor
    · intro hc; cases hc
    · rintro ⟨k, hk, -⟩
      rw [List.take_zero] at hk; cases hk
  · rintro X i hi W q vv ⟨A', fp', i1, i2, i3, i4⟩ mW hX hdq hqW ⟨rfl, gq⟩ ⟨rec0, hrec⟩ KN KJ hKN hKJ
    have bW : hp W pb = some (.cells #[vptr v] tVp (0, 0)) := mW.hpk b9 h0pb
    obtain ⟨n, hn⟩ : ∃ n, n = (s.cts[i]).spec.num := ⟨_, rfl⟩
    have mdr : Mod (fun _ => False) W W.drew := (Mod.refl _ W).drew
    have i1d := i1.mod mdr fun _ _ _ h => h
    have gqd : CtB W.drew q s.cts[i] := mdr.hpk gq id
    have bd := mdr.hpk bW id
    have hpW : pb < W.heap.size := lt_of_heap bW
    have hzd : W.drew.heap.size = W.heap.size := rfl
    generalize W.drew = W2 at mdr i1d gqd bd hzd ⊢
    refine rdWS (ldVp bd) ?_
    simp only [vptr, nilK_ptr]
    refine rdPS (fldV 2 (by omega)) (rdWS (ld2 _ i1d.blk) ?_)
    refine rdPS (v := .pointer (some ⟨q, 0, none⟩)) (fun W => by simp [go_sem]) (rdPS (v := .pointer (some ⟨q, 0, none⟩)) (fun W => by simp [go_sem]) (rdWS (ctB0 gqd) ?_))
    refine ca_bknew fun bk Gb w3 q3 m3 n3 => ?_
    have i1e := i1d.mod m3 fun _ _ _ h => h
    refine ⟨ctB0 (m3.hpk gqd id), ld2 _ i1e.blk, ldVp (m3.hpk bd id), ?_⟩
    rw [← hn]
    have hA : lk A' n = none := by
      cases hl : lk A' n with
      | none => rfl
      | some b =>
        obtain ⟨k, hk, hkn⟩ := (i2 n).1 (by rw [hl]; rfl)
        exfalso
        have h1 : k.spec.num < (s.cts[i]).spec.num := by
          have hd : s.cts = s.cts.take i ++ s.cts.drop i := (List.take_append_drop i s.cts).symm
          have hr := hrise
          unfold Rising at hr
          rw [hd, List.pairwise_append] at hr
          exact hr.2.2 k hk _ (by rw [List.drop_eq_getElem_cons hi]; exact List.mem_cons_self)
        omega
    refine rux_mapUp (enc := encU) (ev := bptr) (x := n) (v := bk) uMapB kU32 i1e.mbk fun w4 a4 m4 hs4 => ?_
    have v4 := i1d.addBk (n := n) hA m3 q3 n3 a4 m4
    rw [ven0_bk] at v4
    have hnb : X nb := (i3 nb).2 ⟨.mb, (i1.fmb nb).2 rfl⟩
    have hz3 := m3.size
    have hz2 := mdr.size
    refine hKN (allP (updP fp' (.bk n) Gb)) w4 ⟨_, _, v4, fun m => ?_, fun y => Iff.rfl, fun y ⟨pt, hy⟩ => ?_⟩ (((mdr.mono fun _ _ h => h.elim).trans (m3.mono fun _ _ h => h.elim)).trans (m4.mono fun y _ hy => by rw [hy]; exact hnb)) fun y ⟨pt, hy⟩ => ⟨?_, v4.lt hy⟩
    · rw [lk_put, take_succ' hi]
      constructor
      · intro hm
        by_cases hnm : n = m
        · exact ⟨s.cts[i], List.mem_append_right _ (List.mem_singleton.2 rfl), by rw [← hn]; exact hnm⟩
        · rw [if_neg hnm] at hm
          obtain ⟨k, hk, hkm⟩ := (i2 m).1 hm
          exact ⟨k, List.mem_append_left _ hk, hkm⟩
      · rintro ⟨k, hk, hkm⟩
        by_cases hnm : n = m
        · rw [if_pos hnm]; rfl
        · rw [if_neg hnm]
          refine (i2 m).2 ?_
          rcases List.mem_append.1 hk with hk | hk
          · exact ⟨k, hk, hkm⟩
          · rw [List.mem_singleton.1 hk, ← hn] at hkm
            exact absurd hkm hnm
    · by_cases hpt : pt = .bk n
      · subst hpt
        rw [updP_self] at hy
        have := n3 y hy
        exact ⟨by omega, by omega⟩
      · rw [updP_ne hpt] at hy
        exact i4 y ⟨pt, hy⟩
    · by_cases hpt : pt = .bk n
      · subst hpt
        rw [updP_self] at hy
        have := n3 y hy
        exact .inr (by omega)
      · rw [updP_ne hpt] at hy
        exact .inl ((i3 y).2 ⟨pt, hy⟩)
  rintro X W d hd ⟨A', fp', i1, i2, i3, i4⟩ mW hdef hX
  have vR : VenR W v c l nb nd A' [] fp' (ven0 s) := ⟨i1, fun n => by
    rw [Bool.eq_iff_iff, i2 n, List.take_length, ← nums_get]
    unfold Ven.nums
    rw [List.mem_map]
    exact Iff.rfl, fun n hn => (by cases hn)⟩
  have hdn : ∀ y, allP fp' y → y ≠ d := fun y hy e => by
    subst e
    rcases (hX y ((i3 y).2 hy)).2 with h' | h'
    · have := (hf0 y h').2; omega
    · omega
  have hdW : d < W.heap.size := lt_of_heap hdef
  have bW : hp W pb = some (.cells #[vptr v] tVp (0, 0)) := mW.hpk b9 h0pb
  have sW : StBlk W sb s.day s.next s.fund ss := mW.hpk s9 h0sb
  have MW : Mod (fun _ => False) w W := M19.on mW fun y hy => .inr (by have := (hf0 y hy).1; omega)
  have hW := h.md0 MW
  have hzW := MW.size
  unfold A13_5
  simp only [afterK]
  refine rvS (stFl sb 5 (by omega) _) (rvS (stLd345 sW hssl).2.2 ?_)
  obtain ⟨pa, pc, hp5⟩ := hW.poss.isSl
  refine rnS (v := .int .i64 (s.poss.length : Int)) (w' := W) (by rw [hp5]; simp [go_sem]) ?_
  refine loopV (fun st W' => ∃ i : Nat, i ≤ s.poss.length ∧ st = (.pointer none, .int .i64 0, .int .i64 i, ()) ∧ (∀ p ∈ s.poss.take i, calAlive s.cts p.c = 0) ∧ Mod (fun _ => False) W W')
    (fun st _ => match st.2.2.1 with | .int _ i => s.poss.length - i.toNat | _ => 0) ⟨0, by omega, rfl, fun p hp => (by rw [List.take_zero] at hp; cases hp), Mod.refl _ _⟩ ?_
  rintro _ W1 ⟨i, hi, rfl, hal, mW1⟩ KN hKN
  unfold L13_1
  intro _
  have hdef1 := mW1.hpk hdef id
  have bW1 := mW1.hpk bW id
  have v1 := vR.md0 mW1
  by_cases hlt : i < s.poss.length
  · have hlt' : (i : Int) < (s.poss.length : Int) := by omega
    refine rvS (v := .bool true) (by simp [go_sem, hlt'] <;> first | exact ⟨rfl, rfl⟩ | exact rfl) ?_
    rw [ifB_bool, if_pos rfl]
    obtain ⟨eb, eo, e10, e11⟩ := poIt (hW.poss.mod mW1 fun _ _ h => h) hlt
    refine rvS e10 (rvS e11 ?_)
    obtain ⟨x, hx⟩ : ∃ x, x = s.poss[i] := ⟨_, rfl⟩
    rw [← hx]
    obtain ⟨w2', w3', e2', e3', b3', m3'⟩ := poVar x W1
    obtain ⟨p, hp0⟩ : ∃ p, p = W1.heap.size := ⟨_, rfl⟩
    rw [← hp0] at e2' e3' b3'
    refine rvS e2' (ruS e3' ?_)
    refine rvS (ldVp (m3'.hpk bW1 id)) ?_
    refine rvS (v := .pointer (some ⟨p, 0, none⟩)) (w' := w3') (by simp [go_sem]) (rvS (poB0 b3') ?_)
    refine ca_valive (v1.md0 m3') fun w4' m4' => ?_
    obtain ⟨k, hk⟩ : ∃ k, k = calGetR (ven0 s).cal.l x.c := ⟨_, rfl⟩
    rw [← hk]
    refine rvS (by simp [-Int.natCast_add, go_sem] <;> first | exact ⟨rfl, rfl⟩ | exact rfl) ?_
    refine rvS (by simp [-Int.natCast_add, go_sem] <;> first | exact ⟨rfl, rfl⟩ | exact rfl) ?_
    refine newCtB _ fun w5' b5' m5' => ?_
    obtain ⟨z, hz0⟩ : ∃ z, z = w4'.heap.size := ⟨_, rfl⟩
    rw [← hz0] at b5' ⊢
    refine ctBU (k' := k.1) b5' fun w6' b6' m6' => ?_
    have M6' : Mod (fun _ => False) W1 w6' := ((m3'.trans m4').trans m5').on m6' fun y hy => .inr (by have := (m3'.trans m4').size; omega)
    refine rvS (v := .bool (!decide (calAlive (ven0 s).cal.l x.c = 0))) (w' := w6') (by simp [go_sem]) ?_
    by_cases hca : calAlive (ven0 s).cal.l x.c = 0
    · rw [decide_eq_true hca, show (!true) = false from rfl, ifB_bool, if_neg Bool.false_ne_true]
      refine rvS (v := .int .i64 ((i + 1 : Nat) : Int)) (w' := w6') (by simp [go_sem]; rw [wrapI (by omega) (by omega)]) ?_
      refine hKN _ _ ⟨i + 1, by omega, rfl, fun y hy => ?_, mW1.trans M6'⟩ (by show s.poss.length - (((i + 1 : Nat) : Int)).toNat < s.poss.length - ((i : Int)).toNat; omega)
      rw [take_succ' hlt, ← hx] at hy
      rcases List.mem_append.1 hy with hy | hy
      · exact hal y hy
      · rw [List.mem_singleton.1 hy]; exact hca
    · rw [decide_eq_false hca, show (!false) = true from rfl, ifB_bool, if_pos rfl]
      refine retV1 (M6'.hpk hdef1 id) fun W9 mr => ?_
      refine bad (nf fun h0 => hca ?_) _ (((MW.trans mW1).trans M6').on mr fun y hy => .inr ?_)
      · rw [hx]; exact h0.poss _ (List.getElem_mem hlt)
      · have := M19.size; omega
  obtain rfl : i = s.poss.length := by omega
  refine rvS (v := .bool false) (by simp [go_sem] <;> first | exact ⟨rfl, rfl⟩ | exact rfl) ?_
  rw [ifB_bool, if_neg Bool.false_ne_true]
  rw [List.take_length] at hal
  have h0 : From0 s := ⟨hc16, hcup, hF0, hnx, hal⟩
  have sW1 : StBlk W1 sb s.day s.next s.fund ss := mW1.hpk sW id
  have hW1 := hW.md0 mW1
  have hzW1 := mW1.size
  refine rvS (ldVp bW1) (rvS (stLdW sW1 hssl) ?_)
  have hlow : ∀ y, allP fp' y → w.heap.size ≤ y := fun y hy => by have := (i4 y hy).1; omega
  have hfr : fromR s = (fillR s).bind fun S => if S.state.ords = s.ords ∧ S.state.bids = s.bids then some S else none := by unfold fromR; rw [if_pos h0]
  have hdw : w.heap.size ≤ d := by have := M19.size; omega
  refine ca_vfill (s := s) v1 (FillI.zero h0 hf) hW1 hf hlO hlB (fun j y hj1 hj2 hy hc => by have := hlow y hc; have := (h j hj1 hj2).lt hy; omega) (fun T D' fp'' w2' hT vT hI mT nT => ?_) fun w2' hT mT => ?_
  rotate_left
  · refine rvS (v := .bool true) (w' := w2') (by simp [go_sem]) ?_
    rw [ifB_bool, if_pos rfl]
    refine retV1 (mT.hpk hdef1 fun hc => hdn d hc rfl) fun W9 mr => ?_
    refine bad (by rw [hfr]; unfold fillR; rw [hT]; rfl) _ (((MW.trans mW1).on mT fun y hy => .inr (hlow y hy)).on mr fun y hy => .inr (by omega))
  refine rvS (v := .bool false) (w' := w2') (by simp [go_sem]) ?_
  rw [ifB_bool, if_neg Bool.false_ne_true]
  obtain ⟨U, hU⟩ := hI
  have hfl : fillR s = some T := hT
  have hnpb : ¬ allP fp' pb := fun hc => (i4 pb hc).2 rfl
  have bW2 := mT.hpk bW1 hnpb
  have M2' : Mod (fun _ => False) w w2' := (MW.trans mW1).on mT fun y hy => .inr (hlow y hy)
  have hsbn : ¬ allP fp' sb := fun hc => by have := (i4 sb hc).1; omega
  have sW2 : StBlk w2' sb s.day s.next s.fund ss := mT.hpk sW1 hsbn
  have hdef2 := mT.hpk hdef1 fun hc => hdn d hc rfl
  refine rvS (ldVp bW2) ?_
  refine ca_vstate vT hU.ok fun ss' tb' lo w3' sT hlo m3' hb' => ?_
  obtain ⟨w4', e4', b4', m4'⟩ := newSt w3'
  obtain ⟨tb, htb⟩ : ∃ p, p = w3'.heap.size := ⟨_, rfl⟩
  rw [← htb] at e4' b4'
  have hss' : ∀ i, 3 ≤ i → i ≤ 7 → ∃ a n c, ss' i = .slice a n c := fun i hi hj => by
    obtain ⟨a, cc, hs', -⟩ := (sT.own i hi hj).isSl
    exact ⟨_, _, _, hs'⟩
  obtain ⟨w5', e5', b5', m5'⟩ := stSt (d := T.cal.day) (n := T.next) (f := T.led.fund) (ss := ss') b4' rfl hss'
  refine rvS e4' (ruS e5' ?_)
  have M45 : Mod (fun _ => False) w3' w5' := m4'.on m5' fun y hy => .inr (by omega)
  have M35 : Mod (fun _ => False) w2' w5' := m3'.trans M45
  have sT5 := sT.mod M45 id fun _ _ _ _ _ h => h.elim
  have hO6 : Rd w5' 6 (ss' 6) T.state.ords.length (T.state.ords.flatMap sdOC) := (sT5.own 6 (by omega) (by omega)).rd
  have hO7 : Rd w5' 6 (ss' 7) T.state.bids.length (T.state.bids.flatMap sdOC) := (sT5.own 7 (by omega) (by omega)).rd
  have h5' := h.md0 (M2'.trans M35)
  have sW5 : StBlk w5' sb s.day s.next s.fund ss := M35.hpk sW2 id
  have hlens : T.state.ords.length ≤ 100000 ∧ T.state.bids.length ≤ 100000 := told_len hU.ok
  refine JoinW.at (fun st W' => st = (.bool (!decide (T.state.ords = s.ords ∧ T.state.bids = s.bids)), ()) ∧ Mod (fun _ => False) w5' W') ?_ ?_
  · refine rvS (stFl tb 6 (by omega) _) (rvS (stLd6 b5' hss').1 ?_)
    refine rvS (stFl sb 6 (by omega) _) (rvS (stLd6 sW5 hssl).1 ?_)
    refine ca_eqSd hO6 h5'.ords hlens.1 fun w6' m6' => ?_
    by_cases c1 : T.state.ords = s.ords
    rotate_left
    · refine rvS (v := .bool true) (w' := w6') (by simp [go_sem, c1]) ?_
      rw [ifB_bool, if_pos rfl]
      exact ⟨by simp [c1], m6'⟩
    refine rvS (v := .bool false) (w' := w6') (by simp [go_sem, c1]) ?_
    rw [ifB_bool, if_neg Bool.false_ne_true]
    have b6' : StBlk w6' tb T.cal.day T.next T.led.fund ss' := m6'.hpk b5' id
    have sW6 : StBlk w6' sb s.day s.next s.fund ss := m6'.hpk sW5 id
    refine rvS (stFl tb 7 (by omega) _) (rvS (stLd6 b6' hss').2 ?_)
    refine rvS (stFl sb 7 (by omega) _) (rvS (stLd6 sW6 hssl).2 ?_)
    refine ca_eqSd (hO7.mod m6' fun _ _ h => h) (h5'.md0 m6').bids hlens.2 fun w7' m7' => ?_
    refine rvS (v := .bool (!decide (T.state.ords = s.ords ∧ T.state.bids = s.bids))) (w' := w7') (by simp [go_sem, c1]) ?_
    exact ⟨rfl, m6'.trans m7'⟩
  rintro _ w6' ⟨rfl, m6'⟩
  unfold J13_0
  intro _
  have M36 := M35.trans m6'
  by_cases hc : T.state.ords = s.ords ∧ T.state.bids = s.bids
  · rw [decide_eq_true hc, show (!true) = false from rfl, ifB_bool, if_neg Bool.false_ne_true]
    refine rvS (ldVp (M36.hpk bW2 id)) ?_
    refine retV1 (M36.hpk hdef2 id) fun W9 mr => ?_
    refine hK (vptr v) 0 W9 ((M2'.trans M36).on mr fun y hy => .inr (by omega)) ?_
    rw [hfr, hfl, Option.bind_some, if_pos hc]
    refine ⟨rfl, v, allP fp'', rfl, ((vT.md0 M36).mod mr fun pt y hy e => ?_).q, fun y hy => ?_⟩
    · rcases nT y ⟨pt, hy⟩ with h' | h'
      · exact hdn y h' e
      · omega
    · rcases nT y hy with h' | h'
      · exact hlow y h'
      · omega
  · rw [decide_eq_false hc, show (!false) = true from rfl, ifB_bool, if_pos rfl]
    refine retV1 (M36.hpk hdef2 id) fun W9 mr => ?_
    refine bad ?_ _ ((M2'.trans M36).on mr fun y hy => .inr (by omega))
    rw [hfr, hfl, Option.bind_some, if_neg hc]
end Go.Proofs
namespace Go.Proofs
open Go Go.Vc
attribute [local congr] Ca_congV
theorem take_all {α : Type} {P : α → Prop} {l : List UInt8} {f : Rs → α × Rs} (hf : ∀ s, P (f s).1) : ∀ (n : Nat) (acc : List α) (s : Rs), (∀ x ∈ acc, P x) → ∀ x ∈ (rsTake l f n acc s).1, P x
  | 0, acc, s, h => h
  | n + 1, acc, s, h => by
    unfold rsTake
    split
    · intro x hx; cases hx
    · refine take_all hf n _ _ fun x hx => ?_
      rcases List.mem_append.1 hx with hx | hx
      · exact h x hx
      · rw [List.mem_singleton.1 hx]; exact hf s
theorem take_le {α : Type} {l : List UInt8} {f : Rs → α × Rs} : ∀ (n : Nat) (acc : List α) (s : Rs), (rsTake l f n acc s).1.length ≤ acc.length + n
  | 0, acc, s => Nat.le_refl _
  | n + 1, acc, s => by
    unfold rsTake
    split
    · exact Nat.zero_le _
    · have := take_le (l := l) (f := f) n (acc ++ [(f s).1]) (f s).2
      rw [List.length_append, List.length_singleton] at this
      omega
theorem list_le {α : Type} {l : List UInt8} {f : Rs → α × Rs} (most : Nat) (s : Rs) : (rsList l f most s).1.length ≤ most := by
  have := take_le (l := l) (f := f) (rsSmall l most s).1 [] (rsSmall l most s).2
  have h2 := rsSmall_most (l := l) (most := most) (s := s)
  unfold rsList
  rw [List.length_nil] at this
  omega
theorem list_all {α : Type} {P : α → Prop} {l : List UInt8} {f : Rs → α × Rs} (hf : ∀ s, P (f s).1) (most : Nat) (s : Rs) : ∀ x ∈ (rsList l f most s).1, P x := take_all hf _ _ _ fun x hx => (by cases hx)
section
attribute [local irreducible] rsNum rsInt rsFlag rsSp rsList
theorem rsSta_fit (l : List UInt8) : (rsSta l).1.Fit where
  day := num_u32 ..
  next := num_u64 ..
  fund := rsInt_fit ..
  accts := fun a ha => list_all (f := rsAc l) (P := fun a => U32' a.num ∧ R64' a.cash) (fun s => ⟨num_u32 _ _, rsInt_fit _ _⟩) 64 _ a ha
  cts := fun a ha => list_all (f := rsCt l) (P := Ct.Fit) (fun s => ⟨rsSp_fit _ _, num_u8 _ _, rsInt_fit _ _⟩) 16 _ a ha
  poss := fun a ha => list_all (f := rsPo l) (P := fun p => (U32' p.c ∧ U32' p.a) ∧ R64' p.q ∧ R64' p.b) (fun s => ⟨⟨num_u32 _ _, num_u32 _ _⟩, rsInt_fit _ _, rsInt_fit _ _⟩) 1024 _ a ha
  ords := fun a ha => list_all (f := rsOd l) (P := fun x => U32' x.1 ∧ x.2.Fit) (fun s => ⟨num_u32 _ _, num_u64 _ _, num_u32 _ _, rsInt_fit _ _, rsInt_fit _ _⟩) 3200 _ a ha
  bids := fun a ha => list_all (f := rsOd l) (P := fun x => U32' x.1 ∧ x.2.Fit) (fun s => ⟨num_u32 _ _, num_u64 _ _, num_u32 _ _, rsInt_fit _ _, rsInt_fit _ _⟩) 800 _ a ha
theorem rsSta_len (l : List UInt8) : (rsSta l).1.accts.length ≤ 64 ∧ (rsSta l).1.cts.length ≤ 16 ∧ (rsSta l).1.poss.length ≤ 1024 ∧ (rsSta l).1.ords.length ≤ 3200 ∧ (rsSta l).1.bids.length ≤ 800 :=
  ⟨list_le .., list_le .., list_le .., list_le .., list_le ..⟩
end
noncomputable def readR (l : List UInt8) : Option (Sta × Ven) := if rsDone l (rsSta l).2 = 0 then (fromR (rsSta l).1).map fun S => ((rsSta l).1, S) else none
section
variable {w : World} {K : Kont} {v : Value} {l : List UInt8}
set_option maxRecDepth 10000 in
set_option maxHeartbeats 4000000 in
theorem ca_iread (h : Rd w 1 v l.length (bv l)) (hl : l.length ≤ 1000000000)
    (hok : ∀ s S ss w', readR l = some (s, S) → StaR w' ss s → Mod (fun _ => False) w w' → K (.tuple #[staV s ss, .int .i64 0]) w')
    (hno : ∀ w', readR l = none → Mod (fun _ => False) w w' → K (.tuple #[stV 0 0 0 (ss0 nilV), .int .i64 5]) w') : Ca Tryz.prog 18 #[v] w K := by
  have hv0 : ∀ b, inRd v b → b < w.heap.size := fun b hb => h.lt hb
  apply ca18
  unfold F18
  obtain ⟨w1, e1, b1, m1⟩ := newSt w
  obtain ⟨q, hq⟩ : ∃ q, q = w.heap.size := ⟨_, rfl⟩
  rw [← hq] at e1 b1
  refine rvS e1 ?_
  refine ca_newReader (h.mod m1 fun _ _ h => h) hl fun w2 r2 m2 => ?_
  have b2 : StBlk w2 q 0 0 0 (ss0 nilV) := m2.hpk b1 id
  obtain ⟨r, hr⟩ : ∃ r, r = w1.heap.size := ⟨_, rfl⟩
  rw [← hr] at r2 ⊢
  have hqr : q < r := by have := lt_of_heap b1; omega
  refine rvS (v := rdV r) (w' := w2) (by simp [go_sem, rptr, rdV]) ?_
  
  obtain ⟨c, hc⟩ : ∃ c, c = w2.heap.size := ⟨_, rfl⟩
  have hlay : ∃ w4, (w2.alloc (.cells #[.pointer none] tRdr)).setCell ⟨c, 0, none⟩ (rptr r) = w4 ∧ Mod (fun _ => False) w2 w4 ∧ RdVar w4 c r :=
    ⟨_, rfl, ((Mod.refl _ w2).alloc _).setCell (.inr (by omega)) _ _, by show hp _ _ = _; rw [hc]; simp [go_sem, rptr]⟩
  obtain ⟨w4, hw4, m4, v4⟩ := hlay
  refine rvS (v := .pointer (some ⟨c, 0, none⟩)) (w' := w2.alloc (.cells #[.pointer none] tRdr)) (by rw [hc]; simp [go_sem]) ?_
  refine ruS (w' := w4) (by rw [← hw4, hc]; simp [go_sem, rptr, rdV]) ?_
  clear hw4
  have hrc : r < c := by have := r2.lt; omega
  have h4 : RdC w4 c r v l ⟨0, 0⟩ := ⟨r2.mod m4 id fun _ _ h => h, v4, by omega⟩
  obtain ⟨w5, e5, b5, m5⟩ := newSt w4
  obtain ⟨p, hp0⟩ : ∃ p, p = w4.heap.size := ⟨_, rfl⟩
  rw [← hp0] at e5 b5
  refine rvS e5 ?_
  have hcp : c < p := by have := lt_of_heap v4; omega
  have md := (Mod.refl (fun _ => False) w5).drew
  have h5 := (h4.md0 m5).md0 md
  have p5 : StBlk w5.drew p 0 0 0 (ss0 nilV) := md.hpk b5 id
  have q5 : StBlk w5.drew q 0 0 0 (ss0 nilV) := md.hpk (m5.hpk (m4.hpk b2 id) id) id
  have M5 : Mod (fun b => b = r) w w5.drew := ((((m1.trans m2).trans m4).trans m5).trans md).mono fun _ _ h => h.elim
  generalize w5.drew = u5 at h5 p5 q5 M5 ⊢
  have hpu := lt_of_heap p5
  have hv : ∀ b, inRd v b → b < q := fun b hb => by have := hv0 b hb; omega
  have hrw : ∀ {W W' : World} {z : Nat}, q ≤ z → Mod (fun b => b = r) w W → Mod (fun y => y = z) W W' → Mod (fun b => b = r) w W' := fun hz a b => a.on b fun y hy => .inr (by omega)
  have hst : ∀ {W W' : World} {t : Rs}, RdC W c r v l t → Mod (fun y => y = p) W W' → RdC W' c r v l t := fun h m => h.st (by omega) hcp (fun b hb => by have := hv b hb; omega) m
  refine rdWS (rvLV h5.var) (rdPS (fun W => rvF W c) (rdWS (rvL h5.var) (rdPS (fun W => rvF W c) (rdWS (rvL h5.var) ?_))))
  refine ca_iword h5.at_ fun w6 r6 m6 => ?_
  have h6 := h5.to r6 m6
  refine ⟨rvL h6.var, rvL h6.var, rdPS (fun W => stFld W 0 (by omega)) ?_⟩
  refine ca_rnatI h6.at_ fun w7 r7 m7 => ?_
  have h7 := h6.to r7 m7
  refine ⟨rvL h7.var, ?_⟩
  refine ca_rint h7.at_ fun w8 r8 m8 => ?_
  have h8 := h7.to r8 m8
  obtain ⟨a1, ha1⟩ : ∃ a, a = rsNum l W32 ⟨0, 0⟩ := ⟨_, rfl⟩
  rw [← ha1] at h8 ⊢
  obtain ⟨a2, ha2⟩ : ∃ a, a = rsNum l W64 a1.2 := ⟨_, rfl⟩
  rw [← ha2] at h8 ⊢
  obtain ⟨a3, ha3⟩ : ∃ a, a = rsInt l a2.2 := ⟨_, rfl⟩
  rw [← ha3] at h8 ⊢
  have p8 : StBlk w8 p 0 0 0 (ss0 nilV) := m8.hpk (m7.hpk (m6.hpk p5 (by omega)) (by omega)) (by omega)
  have q8 : StBlk w8 q 0 0 0 (ss0 nilV) := m8.hpk (m7.hpk (m6.hpk q5 (by omega)) (by omega)) (by omega)
  have M8 := ((M5.trans m6).trans m7).trans m8
  obtain ⟨w9, e9, p9, m9⟩ := (stSetN p8).1 a1.1
  refine ruS e9 (rdPS (fun W => stFld W 1 (by omega)) ?_)
  obtain ⟨w10, e10, p10, m10⟩ := (stSetN p9).2.1 a2.1
  refine ruS e10 (rdPS (fun W => stFld W 2 (by omega)) ?_)
  obtain ⟨w11, e11, p11, m11⟩ := (stSetN p10).2.2 a3.1
  refine ruS e11 ?_
  have h11 := hst (hst (hst h8 m9) m10) m11
  have q11 : StBlk w11 q 0 0 0 (ss0 nilV) := m11.hpk (m10.hpk (m9.hpk q8 (by omega)) (by omega)) (by omega)
  have M11 := hrw (by omega) (hrw (by omega) (hrw (by omega) M8 m9) m10) m11
  
  have kt : ∀ {W : World} {t : Rs}, RdC W c r v l t → ∀ W1 W2 t (F : Nat → Prop), RdC W1 c r v l t → Mod F W1 W2 → (∀ y, F y → W.heap.size ≤ y) → RdC W2 c r v l t := fun hW W1 W2 t F hI m hF => by
    obtain ⟨z1, z2, z3⟩ := hW.lt
    exact ⟨hI.at_.mod m (fun hf => by have := hF _ hf; omega) fun b hb hf => by have := hF _ hf; have := z3 b hb; omega, m.hpk hI.var fun hf => by have := hF _ hf; omega, hI.ne⟩
  refine rvS (rvLV h11.var) ?_
  refine ca_takenAc (most := 64) (f := rsAc l) (Inv := fun W t => RdC W c r v l t) h11 (fun W t h => h.at_) (fun W W' t t' h h' m => h.to h' m) (kt h11) (fun W t K' hI hk => by rw [callV_func]; exact ca_rdAc hI hk) (by omega) fun s3 w12 o12 h12 m12 n12 => ?_
  have hs3 : ∃ a n c, s3 = .slice a n c := by obtain ⟨a, c, e, -⟩ := o12.isSl; exact ⟨a, _, c, e⟩
  obtain ⟨a4, ha4⟩ : ∃ a, a = rsList l (rsAc l) 64 a3.2 := ⟨_, rfl⟩
  rw [← ha4] at o12 h12
  have p12 : StBlk w12 p a1.1 a2.1 a3.1 (ss0 nilV) := m12.hpk p11 (by omega)
  have q12 : StBlk w12 q 0 0 0 (ss0 nilV) := m12.hpk q11 (by omega)
  have hp11 := lt_of_heap p11
  refine rvS (stFld _ 3 (by omega)) ?_
  obtain ⟨w13, e13, p13, m13⟩ := stSetI p12 ss0_sl 3 (by omega) (by omega) hs3
  refine ruS e13 ?_
  have sl3 := updN_sl ss0_sl 3 hs3
  have N12 : ∀ y, inSl s3 y → p < y := fun y hy => by have := n12 y hy; omega
  have o13 := o12.mod m13 fun y hy e => by have := N12 y hy; omega
  have h13 := hst h12 m13
  have q13 : StBlk w13 q 0 0 0 (ss0 nilV) := m13.hpk q12 (by omega)
  have M13 := hrw (by omega) (M11.trans m12) m13
  refine rvS (rvLV h13.var) ?_
  refine ca_takenCt (most := 16) (f := rsCt l) (Inv := fun W t => RdC W c r v l t) h13 (fun W t h => h.at_) (fun W W' t t' h h' m => h.to h' m) (kt h13) (fun W t K' hI hk => by rw [callV_func]; exact ca_rdCt hI hk) (by omega) fun s4 w14 o14 h14 m14 n14 => ?_
  have hs4 : ∃ a n c, s4 = .slice a n c := by obtain ⟨a, c, e, -⟩ := o14.isSl; exact ⟨a, _, c, e⟩
  obtain ⟨a5, ha5⟩ : ∃ a, a = rsList l (rsCt l) 16 a4.2 := ⟨_, rfl⟩
  rw [← ha5] at o14 h14
  have p14 : StBlk w14 p a1.1 a2.1 a3.1 (updN (ss0 nilV) 3 s3) := m14.hpk p13 (by omega)
  have q14 : StBlk w14 q 0 0 0 (ss0 nilV) := m14.hpk q13 (by omega)
  have hp13 := lt_of_heap p13
  refine rvS (stFld _ 4 (by omega)) ?_
  obtain ⟨w15, e15, p15, m15⟩ := stSetI p14 sl3 4 (by omega) (by omega) hs4
  refine ruS e15 ?_
  have sl4 := updN_sl sl3 4 hs4
  have N14 : ∀ y, inSl s4 y → p < y := fun y hy => by have := n14 y hy; omega
  have oA15 := (o13.mod m14 fun y hy e => by have := N12 y hy; omega).mod m15 fun y hy e => by have := N12 y hy; omega
  have oC15 := o14.mod m15 fun y hy e => by have := N14 y hy; omega
  have h15 := hst h14 m15
  have q15 : StBlk w15 q 0 0 0 (ss0 nilV) := m15.hpk q14 (by omega)
  have M15 := hrw (by omega) (M13.trans m14) m15
  refine rvS (rvLV h15.var) ?_
  refine ca_takenPo (most := 1024) (f := rsPo l) (Inv := fun W t => RdC W c r v l t) h15 (fun W t h => h.at_) (fun W W' t t' h h' m => h.to h' m) (kt h15) (fun W t K' hI hk => by rw [callV_func]; exact ca_rdPo hI hk) (by omega) fun s5 w16 o16 h16 m16 n16 => ?_
  have hs5 : ∃ a n c, s5 = .slice a n c := by obtain ⟨a, c, e, -⟩ := o16.isSl; exact ⟨a, _, c, e⟩
  obtain ⟨a6, ha6⟩ : ∃ a, a = rsList l (rsPo l) 1024 a5.2 := ⟨_, rfl⟩
  rw [← ha6] at o16 h16
  have p16 : StBlk w16 p a1.1 a2.1 a3.1 (updN (updN (ss0 nilV) 3 s3) 4 s4) := m16.hpk p15 (by omega)
  have q16 : StBlk w16 q 0 0 0 (ss0 nilV) := m16.hpk q15 (by omega)
  have hp15 := lt_of_heap p15
  refine rvS (stFld _ 5 (by omega)) ?_
  obtain ⟨w17, e17, p17, m17⟩ := stSetI p16 sl4 5 (by omega) (by omega) hs5
  refine ruS e17 ?_
  have sl5 := updN_sl sl4 5 hs5
  have N16 : ∀ y, inSl s5 y → p < y := fun y hy => by have := n16 y hy; omega
  have oA17 := (oA15.mod m16 fun y hy e => by have := N12 y hy; omega).mod m17 fun y hy e => by have := N12 y hy; omega
  have oC17 := (oC15.mod m16 fun y hy e => by have := N14 y hy; omega).mod m17 fun y hy e => by have := N14 y hy; omega
  have oP17 := o16.mod m17 fun y hy e => by have := N16 y hy; omega
  have h17 := hst h16 m17
  have q17 : StBlk w17 q 0 0 0 (ss0 nilV) := m17.hpk q16 (by omega)
  have M17 := hrw (by omega) (M15.trans m16) m17
  refine rvS (rvLV h17.var) (rvS (rvLV h17.var) ?_)
  have hcl : ∀ W t (K' : Kont), RdC W c r v l t → (∀ W', RdC W' c r v l (rsOd l t).2 → Mod (fun b => b = r) W W' → K' (sdVI (rsOd l t).1) W') → callV Tryz.prog (.func (.func 73) #[rdV r] #[]) [] W K' := fun W t K' hI hk => by
    rw [callV_func]
    exact ca_rdOd hI.at_ fun W' h' m' => hk W' (hI.to h' m') m'
  refine ca_takenOd (most := 3200) (f := rsOd l) (Inv := fun W t => RdC W c r v l t) h17 (fun W t h => h.at_) (fun W W' t t' h h' m => h.to h' m) (kt h17) hcl (by omega) fun s6 w18 o18 h18 m18 n18 => ?_
  have hs6 : ∃ a n c, s6 = .slice a n c := by obtain ⟨a, c, e, -⟩ := o18.isSl; exact ⟨a, _, c, e⟩
  obtain ⟨a7, ha7⟩ : ∃ a, a = rsList l (rsOd l) 3200 a6.2 := ⟨_, rfl⟩
  rw [← ha7] at o18 h18
  have p18 : StBlk w18 p a1.1 a2.1 a3.1 (updN (updN (updN (ss0 nilV) 3 s3) 4 s4) 5 s5) := m18.hpk p17 (by omega)
  have q18 : StBlk w18 q 0 0 0 (ss0 nilV) := m18.hpk q17 (by omega)
  have hp17 := lt_of_heap p17
  refine rvS (stFld _ 6 (by omega)) ?_
  obtain ⟨w19, e19, p19, m19⟩ := stSetI p18 sl5 6 (by omega) (by omega) hs6
  refine ruS e19 ?_
  have sl6 := updN_sl sl5 6 hs6
  have N18 : ∀ y, inSl s6 y → p < y := fun y hy => by have := n18 y hy; omega
  have oA19 := (oA17.mod m18 fun y hy e => by have := N12 y hy; omega).mod m19 fun y hy e => by have := N12 y hy; omega
  have oC19 := (oC17.mod m18 fun y hy e => by have := N14 y hy; omega).mod m19 fun y hy e => by have := N14 y hy; omega
  have oP19 := (oP17.mod m18 fun y hy e => by have := N16 y hy; omega).mod m19 fun y hy e => by have := N16 y hy; omega
  have oO19 := o18.mod m19 fun y hy e => by have := N18 y hy; omega
  have h19 := hst h18 m19
  have q19 : StBlk w19 q 0 0 0 (ss0 nilV) := m19.hpk q18 (by omega)
  have M19 := hrw (by omega) (M17.trans m18) m19
  refine rvS (rvLV h19.var) (rvS (rvLV h19.var) ?_)
  refine ca_takenOd (most := 800) (f := rsOd l) (Inv := fun W t => RdC W c r v l t) h19 (fun W t h => h.at_) (fun W W' t t' h h' m => h.to h' m) (kt h19) hcl (by omega) fun s7 w20 o20 h20 m20 n20 => ?_
  have hs7 : ∃ a n c, s7 = .slice a n c := by obtain ⟨a, c, e, -⟩ := o20.isSl; exact ⟨a, _, c, e⟩
  obtain ⟨a8, ha8⟩ : ∃ a, a = rsList l (rsOd l) 800 a7.2 := ⟨_, rfl⟩
  rw [← ha8] at o20 h20
  have p20 : StBlk w20 p a1.1 a2.1 a3.1 (updN (updN (updN (updN (ss0 nilV) 3 s3) 4 s4) 5 s5) 6 s6) := m20.hpk p19 (by omega)
  have q20 : StBlk w20 q 0 0 0 (ss0 nilV) := m20.hpk q19 (by omega)
  have hp19 := lt_of_heap p19
  refine rvS (stFld _ 7 (by omega)) ?_
  obtain ⟨w21, e21, p21, m21⟩ := stSetI p20 sl6 7 (by omega) (by omega) hs7
  refine ruS e21 ?_
  have sl7 := updN_sl sl6 7 hs7
  have N20 : ∀ y, inSl s7 y → p < y := fun y hy => by have := n20 y hy; omega
  have oA := (oA19.mod m20 fun y hy e => by have := N12 y hy; omega).mod m21 fun y hy e => by have := N12 y hy; omega
  have oC := (oC19.mod m20 fun y hy e => by have := N14 y hy; omega).mod m21 fun y hy e => by have := N14 y hy; omega
  have oP := (oP19.mod m20 fun y hy e => by have := N16 y hy; omega).mod m21 fun y hy e => by have := N16 y hy; omega
  have oO := (oO19.mod m20 fun y hy e => by have := N18 y hy; omega).mod m21 fun y hy e => by have := N18 y hy; omega
  have oB := o20.mod m21 fun y hy e => by have := N20 y hy; omega
  have h21 := hst h20 m21
  have q21 : StBlk w21 q 0 0 0 (ss0 nilV) := m21.hpk q20 (by omega)
  have M21 := hrw (by omega) (M19.trans m20) m21
  have M21' : Mod (fun _ => False) w w21 := (Mod.refl _ w).on M21 fun y hy => .inr (by omega)
  
  obtain ⟨ss, hss⟩ : ∃ ss, ss = updN (updN (updN (updN (updN (ss0 nilV) 3 s3) 4 s4) 5 s5) 6 s6) 7 s7 := ⟨_, rfl⟩
  obtain ⟨st, hst0⟩ : ∃ st : Sta, st = ⟨a1.1, a2.1, a3.1, a4.1, a5.1, a6.1, a7.1, a8.1⟩ := ⟨_, rfl⟩
  have hread : rsSta l = (st, a8.2) := by
    rw [hst0]
    subst ha8 ha7 ha6 ha5 ha4 ha3 ha2 ha1
    rfl
  have hI : StaR w21 ss st := by
    intro i hi hj
    have : i = 3 ∨ i = 4 ∨ i = 5 ∨ i = 6 ∨ i = 7 := by omega
    rw [hss, hst0]
    rcases this with rfl | rfl | rfl | rfl | rfl
    · exact oA.rd
    · exact oC.rd
    · exact oP.rd
    · exact oO.rd
    · exact oB.rd
  have hfit : st.Fit := by have := rsSta_fit l; rw [hread] at this; exact this
  have hlen := rsSta_len l
  rw [hread] at hlen
  have hp21 : StBlk w21 p st.day st.next st.fund ss := by rw [hss, hst0]; exact p21
  rw [← hss] at sl7
  have hrd : readR l = if rsDone l a8.2 = 0 then (fromR st).map fun S => (st, S) else none := by unfold readR; rw [hread]
  
  have fail : ∀ W, Mod (fun _ => False) w21 W → readR l = none → rv Tryz.prog (Instr.build tSt #[]) W fun v75 w76 => ru Tryz.prog (Instr.storeAt tSt (.pointer (some ⟨q, 0, none⟩)) v75) w76 fun w77 => rdW Tryz.prog (Instr.loadAt tSt (.pointer (some ⟨q, 0, none⟩))) w77 fun v78 => K (.tuple #[v78, .int .i64 5]) w77 := by
    intro W m hn
    refine rvS (bldSt0 W) ?_
    obtain ⟨W', e', b', m'⟩ := stSt (d := 0) (n := 0) (f := 0) (ss := ss0 nilV) (m.hpk q21 id) rfl ss0_sl
    refine ruS e' (rdWS (stLd b') ?_)
    exact hno W' hn ((M21'.trans m).on m' fun y hy => .inr (by omega))
  refine rvS (rvF _ _) (rvS (rvL h21.var) ?_)
  refine ca_done h21.at_ fun w22 m22 => ?_
  refine rvS (v := .bool (decide (rsDone l a8.2 ≠ 0))) (w' := w22) (by simp [go_sem]; try rw [Bool.eq_iff_iff]; simp) ?_
  by_cases hd : rsDone l a8.2 = 0
  · rw [ifB_bool, if_neg (by simpa using hd)]
    rw [if_pos hd] at hrd
    have p22 : StBlk w22 p st.day st.next st.fund ss := m22.hpk hp21 id
    refine rvS (stLd p22) ?_
    simp only at hlen
    refine ca_vfrom (s := st) (hI.md0 m22) hfit ⟨by omega, by omega, by omega, by omega, by omega⟩ fun x e w23 m23 hx => ?_
    refine rvS (by simp [-Int.natCast_add, go_sem] <;> first | exact ⟨rfl, rfl⟩ | exact rfl) ?_
    refine rvS (by simp [-Int.natCast_add, go_sem] <;> first | exact ⟨rfl, rfl⟩ | exact rfl) ?_
    have m223 := m22.trans m23
    cases hf : fromR st with
    | none =>
      rw [hf] at hx hrd
      obtain ⟨rfl, rfl⟩ := hx
      refine rvS (v := .bool true) (w' := w23) (by simp [go_sem]) ?_
      rw [ifB_bool, if_pos rfl]
      exact fail w23 m223 hrd
    | some S =>
      rw [hf] at hx hrd
      obtain ⟨rfl, -⟩ := hx
      refine rvS (v := .bool false) (w' := w23) (by simp [go_sem]) ?_
      rw [ifB_bool, if_neg Bool.false_ne_true]
      refine rvS (stLd (m23.hpk p22 id)) ?_
      obtain ⟨w24, e24, b24, m24⟩ := stSt (d := st.day) (n := st.next) (f := st.fund) (ss := ss) (m223.hpk q21 id) rfl sl7
      refine ruS e24 (rdWS (stLd b24) ?_)
      refine hok st S ss w24 hrd (fun i hi hj => ((hI.md0 m223) i hi hj).mod m24 fun y hy e => ?_) ((M21'.trans m223).on m24 fun y hy => .inr (by omega))
      have hy' := inRd.sl hy
      have : i = 3 ∨ i = 4 ∨ i = 5 ∨ i = 6 ∨ i = 7 := by omega
      rw [hss] at hy'
      rcases this with rfl | rfl | rfl | rfl | rfl
      · have := N12 y hy'; omega
      · have := N14 y hy'; omega
      · have := N16 y hy'; omega
      · have := N18 y hy'; omega
      · have := N20 y hy'; omega
  · rw [ifB_bool, if_pos (by simpa using hd)]
    rw [if_neg hd] at hrd
    exact fail w22 m22 hrd
end
end Go.Proofs
