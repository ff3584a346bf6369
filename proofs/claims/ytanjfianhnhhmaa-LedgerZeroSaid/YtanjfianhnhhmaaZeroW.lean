/-
  The walk of LedgerZero.
  Conditions: where they ask for any, each theorem names them.
-/
import Derived.Test.YtanjfianhnhhmaaPlayW
set_option linter.unusedVariables false
set_option linter.unusedSimpArgs false
namespace Go.Proofs
open Go Go.Vc

theorem wrap_add1 {i : Nat} (h : i < 1000000) : IntKind.i64.wrap ((i : Int) + 1) = ((i + 1 : Nat) : Int) := by rw [IntKind.wrap_i64]; omega
theorem holders_len (S : Led) (c : Int) : (S.holders c).length ≤ S.held.length := List.length_filter_le ..
theorem sum_bd {l : List Int} {B : Int} (h : ∀ x ∈ l, -B ≤ x ∧ x ≤ B) : -(B * l.length) ≤ l.sum ∧ l.sum ≤ B * l.length := by
  induction l with
  | nil => simp
  | cons x l ih =>
    have h1 := h x List.mem_cons_self
    have h2 := ih fun y hy => h y (List.mem_cons_of_mem _ hy)
    have e : B * ((x :: l).length : Int) = B * l.length + B := by
      simp only [List.length_cons, Int.natCast_add, Int.natCast_one, Int.mul_add, Int.mul_one]
    rw [e]
    simp only [List.sum_cons]
    omega
theorem take_sum_succ {l : List Int} {i : Nat} {x : Int} (h : l[i]? = some x) : (l.take (i + 1)).sum = (l.take i).sum + x := by
  rw [List.take_add_one, h]; simp

/-- What the round has at its head. -/
structure ZI (w0 : World) (l : Nat) (F : Nat → Prop) (ds : List Nat) (i : Nat) (funds : Int) (W : World) : Prop where
  out : ∃ S, LedQ W l F S ∧ S.Zero ∧ S.held.length ≤ 2 * i ∧ S.funds = funds
  mod : Mod F w0 W
  nodup : ds.Nodup
  dfr : ∀ d ∈ ds, w0.heap.size ≤ d ∧ hp W d = some (.deferred (some []))

set_option maxRecDepth 10000 in
theorem ca_zero {w : World} {v : Value} {ops : List LOp} {K : Kont} (hops : Rd w 10 v ops.length (ops.flatMap cellsOp)) (hwf : ∀ x ∈ ops, x.Wf) (hK : ∀ w', Mod (fun _ => False) w w' → K (.bool true) w') :
    Ca Try.prog 4 #[v] w K := by
  obtain ⟨va, vc, hv⟩ := hops.isSl
  subst hv
  apply ca4
  unfold F4
  refine ca_new fun w0 l F q0 m0 f0 => ?_
  have fm : ∀ {w'}, Mod F w0 w' → Mod (fun _ => False) w w' := fun m => m0.on m fun b hb => .inr (f0 b hb)
  refine JoinW.at (fun s W => s = (.bool (decide (250 < ops.length)), ()) ∧ W = w0) ?_ ?_
  · simp [go_sem, lptr]
    omega
  rintro _ w0' ⟨rfl, rfl⟩
  unfold J4_7
  intro _
  by_cases hbig : 250 < ops.length
  · simp only [decide_eq_true hbig, ifB_bool, if_true]
    simp [go_sem, lptr]
    exact ca_known fun w1 m1 => hK _ (fm (m1.mono fun _ _ h => h.elim))
  simp only [decide_eq_false hbig, ifB_bool, Bool.false_eq_true, if_false]
  simp [go_sem]
  have hFlt : ∀ b, F b → b < w0'.heap.size := fun b hb => q0.lt hb
  refine loopK (fun s W => ∃ (x : Value) (funds : Int) (i : Nat) (ds : List Nat), i ≤ ops.length ∧ s = ((x, .int .i64 funds, .int .i64 i, ()), ds) ∧ ZI w0' l F ds i funds W)
    (fun s _ => match s.1.2.2.1 with | .int _ i => ops.length - i.toNat | _ => 0) ⟨_, 0, 0, [], by omega, rfl, ⟨⟨_, q0, Led.empty_zero, by simp [Led.empty], by simp [Led.funds, Led.empty]⟩, Mod.refl _ _, List.nodup_nil, fun d hd => by cases hd⟩⟩ ?_
  rintro ⟨⟨sv, _⟩, sds⟩ W ⟨x, funds, i, ds, hi, ⟨⟩, ⟨S, qW, zS, lS, fS⟩, mW, nds, dds⟩ KN hKN
  unfold L4_6
  intro _
  by_cases hlt : i < ops.length
  · have hopsW := hops.mod (fm mW) fun _ _ h => h
    obtain ⟨b, off, cap, hsl, hAt⟩ := Rd.elemR hopsW hlt
    cases hsl
    rw [flat_get cellsOp 10 _ _ (fun _ _ => rfl) hlt] at hAt
    have hxW := hwf ops[i] (List.getElem_mem hlt)
    generalize ops[i] = op at hAt hxW
    obtain ⟨C, e, fz, hC, hCg⟩ := hAt.get
    have hC0 := hCg 0 _ rfl
    have hC1 := hCg 1 _ rfl
    have hC2 := hCg 2 _ rfl
    have hC3 := hCg 3 _ rfl
    have hC4 := hCg 4 _ rfl
    have hC5 := hCg 5 _ rfl
    have hC6 := hCg 6 _ rfl
    have hC7 := hCg 7 _ rfl
    have hC8 := hCg 8 _ rfl
    have hC9 := hCg 9 _ rfl
    simp only [Nat.add_zero, Nat.add_assoc] at hC0 hC1 hC2 hC3 hC4 hC5 hC6 hC7 hC8 hC9
    have hw := wrap_add1 (i := i) (by omega)
    simp [-Int.natCast_add, go_sem, hlt, hC, hC0, hC1, hC2, hC3, hC4, hC5, hC6, hC7, hC8, hC9]
    generalize hw1 : W.alloc _ = W1
    have mw1 : Mod (fun _ => False) W W1 := by subst hw1; exact (Mod.refl _ W).alloc _
    have hloc : hp W1 W.heap.size = some (.cells #[.int .i64 op.kind, .int .u32 op.a, .int .u32 op.b, .int .u32 op.c, .int .i64 op.n, .int .i64 op.m, .int .u32 op.acc.num, .int .i64 op.acc.cash, .bool op.acc.kil, .bool op.acc.dfl] 40 (0, 0)) := by subst hw1; simp [go_sem]
    have q1 := qW.mod mw1 fun _ _ h => h
    have hok := qW.ok
    refine JoinW.at (fun s W' => s = (sv, ()) ∧ Mod (fun _ => False) W1 W') ?_ ?_
    · by_cases k6 : op.kind = 6
      · simp only [if_pos k6]
        refine ca_copy (q1.mod ((Mod.refl (fun _ => False) W1).drew) fun _ _ h => h) fun w3 l3 F3 q3 m3 f3 => ?_
        have m3' : Mod (fun _ => False) W1 w3 := ((Mod.refl _ W1).drew).trans m3
        have hloc3 := m3'.keep hloc id
        simp [go_sem, hp_of hloc3]
        refine ca_mark q3 (by omega) fun w4 vv q4 o4 m4 f4 => ?_
        have m4' : Mod (fun _ => False) W1 w4 := m3'.on m4 fun b hb => .inr (f3 b hb)
        have hwon : ((S.mark op.c op.n false).2.1.map (·.2)).sum = 0 := by
          unfold Led.mark
          split
          · rfl
          · exact zS.won _ _
        have hwb : (S.mark op.c op.n false).2.1.length ≤ 500 ∧ ∀ x ∈ (S.mark op.c op.n false).2.1.map (·.2), -1100000000000000 ≤ x ∧ x ≤ 1100000000000000 := by
          unfold Led.mark
          split
          · simp
          · rename_i hcond
            have hpr : 1 ≤ op.n ∧ op.n ≤ MP := amongB_iff.1 (by cases h : amongB op.n 1 MP with | true => rfl | false => exact absurd (.inr h) hcond)
            refine ⟨?_, fun x hx => ?_⟩
            · have := holders_len S op.c
              simp; omega
            · simp only [List.map_map, List.mem_map, Function.comp_apply] at hx
              obtain ⟨p, hp, rfl⟩ := hx
              obtain ⟨p1, p2, p3, p4, p5, p6, p7, p8⟩ := hok.pos p (List.mem_filter.1 hp).1
              have hb := mul_bd (x := p.q) (y := op.n) (m := MP) (n := MP) ⟨p4, p5⟩ ⟨by omega, hpr.2⟩
              simp only [MP, MF] at hb p6 p7
              omega
        generalize (S.mark op.c op.n false).2.1 = L at o4 hwon hwb
        obtain ⟨sa, sc, hvv, -⟩ := o4.isSl
        subst hvv
        simp [go_sem]
        refine loopK (fun s W' => ∃ j : Nat, j ≤ L.length ∧ s = (.int .i64 ((L.map (·.2)).take j).sum, .int .i64 j, ()) ∧ W' = w4)
          (fun s _ => match s.2.1 with | .int _ i => L.length - i.toNat | _ => 0) ⟨0, by omega, by simp, rfl⟩ ?_
        rintro ⟨_, _⟩ W' ⟨j, hj, ⟨⟩, rfl⟩ KN5 hKN5
        unfold L4_0
        intro _
        by_cases hjl : j < L.length
        · obtain ⟨b', cap', hsl', hAt'⟩ := Own.elem o4 hjl
          obtain ⟨rfl, -, rfl⟩ : sa = some ⟨b', 0, none⟩ ∧ True ∧ sc = cap' := by injection hsl' with e1 e2 e3; exact ⟨e1, trivial, e3⟩
          rw [flat_get cellsVa 2 _ _ (fun _ _ => rfl) hjl] at hAt'
          obtain ⟨D, e', fz', hD, hDg⟩ := hAt'.get
          have hD1 := hDg 1 _ rfl
          (try simp only [Nat.zero_add] at hD1)
          have hwj := wrap_add1 (i := j) (by omega)
          have hgj : (L.map (·.2))[j]? = some L[j].2 := by simp [hjl]
          have htk := take_sum_succ hgj
          have hbd := sum_bd (l := (L.map (·.2)).take (j + 1)) (B := 1100000000000000) fun x hx => hwb.2 x (List.mem_of_mem_take hx)
          have hlen : ((L.map (·.2)).take (j + 1)).length ≤ 501 := by rw [List.length_take]; omega
          have hws : IntKind.i64.wrap (((L.map (·.2)).take j).sum + L[j].2) = ((L.map (·.2)).take (j + 1)).sum := by
            rw [IntKind.wrap_i64, ← htk]; omega
          simp [-Int.natCast_add, go_sem, hjl, hD, hD1]
          rw [hws, hwj]
          exact hKN5 _ _ ⟨j + 1, by omega, rfl, rfl⟩ (by simp; omega)
        · obtain rfl : j = L.length := by omega
          have : ((L.map (·.2)).take L.length).sum = 0 := by rw [List.take_of_length_le (by simp)]; exact hwon
          simp [go_sem, this]
          exact m4'
      · simp only [if_neg k6]
        exact ⟨trivial, Mod.refl _ _⟩
    rintro _ W2 ⟨rfl, m2⟩
    unfold J4_5
    intro _
    have hloc2 := m2.keep hloc id
    have q2 := q1.mod m2 fun _ _ h => h
    simp [-Int.natCast_add, go_sem, hp_of hloc2]
    refine ca_play (x := op) q2 hxW (by omega) fun W3 q3 m3 => ?_
    have mW3 : Mod F w0' W3 := ((mW.trans (mw1.mono fun _ _ h => h.elim)).trans (m2.mono fun _ _ h => h.elim)).trans m3
    have hWF : ∀ b, w0'.heap.size ≤ b → ¬ F b := fun b hb hf => by have := hFlt b hf; omega
    have hloc3 := m3.keep hloc2 (hWF _ mW.size)
    have dds3 : ∀ d ∈ sds, w0'.heap.size ≤ d ∧ hp W3 d = some (.deferred (some [])) := fun d hd => ⟨(dds d hd).1, m3.keep (m2.keep (mw1.keep (dds d hd).2 id) id) (hWF d (dds d hd).1)⟩
    have hok3 := q3.ok
    have z3 : (S.play op).2.Zero := zS.play hok op
    have l3 : (S.play op).2.held.length ≤ 2 * (i + 1) := by have := Led.play_len hok op; omega
    have f3 : (S.play op).2.funds = funds + (S.play op).1 := by rw [Led.play_funds hok.sa, fS]
    generalize (S.play op).2 = S3 at q3 hok3 z3 l3 f3
    generalize (S.play op).1 = dx at f3
    have hfb := hok3.funds
    have hwf3 : IntKind.i64.wrap (funds + dx) = S3.funds := by
      rw [IntKind.wrap_i64, ← f3]; simp only [MF] at hfb; omega
    have hlt3 := lt_of_heap hloc3
    have hne1 : W.heap.size ≠ W3.heap.size := by omega
    have hne2 : W.heap.size ≠ W3.heap.size + 1 := by omega
    simp [-Int.natCast_add, go_sem, hwf3, hp_of hloc3, hne1, hne2]
    generalize hvq : W3.heap.size = vq
    generalize hw5 : World.alloc _ _ = w5
    have m5 : Mod (fun _ => False) W3 w5 := by subst hw5; exact ((Mod.refl _ W3).alloc _).alloc _
    have gq5 : hp w5 vq = some (.cells #[.int .i64 0] 2 (0, 0)) := by subst hw5 hvq; simp [go_sem]
    have gb5 : hp w5 (vq + 1) = some (.cells #[.int .i64 0] 2 (0, 0)) := by subst hw5 hvq; simp [go_sem]
    refine ca_holders (q3.mod m5 fun _ _ h => h) (by omega) fun gv1 w6 tl1 m6 => ?_
    obtain ⟨f1, cap1, rfl⟩ := tl1.fn
    have hloc6 := (m5.trans m6).keep hloc3 id
    simp [-Int.natCast_add, go_sem, hp_of hloc6, eql_func_nil tSeqP]
    refine ca_holders ((q3.mod m5 fun _ _ h => h).mod m6 fun _ _ h => h) (by omega) fun gv2 w7 tl2 m7 => ?_
    obtain ⟨Ok, hit, hOk⟩ := tl2.out
    have m37 : Mod (fun _ => False) W3 w7 := (m5.trans m6).trans m7
    have gq7 := (m6.trans m7).keep gq5 id
    have gb7 := (m6.trans m7).keep gb5 id
    have hvb7 := lt_of_heap gb7
    have hvq0 : w0'.heap.size ≤ vq := by have := mW3.size; omega
    have hH : ∀ p ∈ S3.holders op.c, p ∈ S3.held := fun p hp => (List.mem_filter.1 hp).1
    have hHl : (S3.holders op.c).length ≤ 502 := by have := holders_len S3 op.c; omega
    obtain ⟨zq, zb⟩ := z3.holders op.c
    generalize hHd : S3.holders op.c = H at *
    have e3 : ∀ o, Mod (fun _ => False) w7 ((w7.alloc (.deferred (some []))).alloc (.loop o)) := fun o => ((Mod.refl _ w7).alloc _).alloc _
    let J : (Nat → Prop) → Nat → World → Prop := fun Q j W => LedQ W l F S3 ∧ hp W vq = some (.cells #[.int .i64 ((H.map (·.q)).take j).sum] 2 (0, 0)) ∧ hp W (vq + 1) = some (.cells #[.int .i64 ((H.map (·.b)).take j).sum] 2 (0, 0)) ∧
      hp W w7.heap.size = some (.deferred (some [])) ∧ (∀ d ∈ sds, hp W d = some (.deferred (some []))) ∧ Mod (fun b => b = vq ∨ b = vq + 1) w7 W ∧ ∀ b, Q b → w7.heap.size + 1 < b ∧ b < W.heap.size
    have hsd7 : ∀ d ∈ sds, d < vq := fun d hd => by have := lt_of_heap (dds3 d hd).2; omega
    refine RFW_topN hit (by simp) J (fun _ _ => False) (fun o => hOk _ (e3 o)) ?_ ?_ ?_ ?_ (fun _ _ _ h => h.elim)
    · intro o Q W1 mo hQ
      have m71 := (e3 o).trans mo
      have hd : hp ((w7.alloc (.deferred (some []))).alloc (.loop o)) w7.heap.size = some (.deferred (some [])) := by simp [go_sem]
      exact ⟨q3.mod (m37.trans m71) fun _ _ h => h, m71.keep gq7 id, m71.keep gb7 id, mo.keep hd id, fun d hd => (m37.trans m71).keep (dds3 d hd).2 id, m71.mono fun _ _ h => h.elim, hQ⟩
    · rintro Q j W1 W2 ⟨j1, j2, j3, j4, j5, j6, j7⟩ mm
      exact ⟨j1.mod mm fun b hb e => by have := hFlt b hb; omega, mm.keep j2 (by omega), mm.keep j3 (by omega), mm.keep j4 (by omega), fun d hd => mm.keep (j5 d hd) (by have := hsd7 d hd; omega), j6.on mm fun b hb => .inr (by omega), fun b hb => ⟨(j7 b hb).1, Nat.lt_of_lt_of_le (j7 b hb).2 mm.size⟩⟩
    · rintro Q j x W1 r hx ⟨j1, j2, j3, j4, j5, j6, j7⟩ hrec hready KN' KJ' hKN' hKJ'
      obtain ⟨p, hpi, rfl⟩ : ∃ p, H[j]? = some p ∧ x = [poV p] := by
        simp only [List.getElem?_map] at hx
        cases hh : H[j]? with
        | none => rw [hh] at hx; cases hx
        | some p => rw [hh] at hx; exact ⟨p, rfl, (Option.some.inj hx).symm⟩
      have hjl := (List.getElem?_eq_some_iff.1 hpi).1
      have bq := sum_bd (l := (H.map (·.q)).take (j + 1)) (B := 10000000) fun x hx => by
        obtain ⟨p, hp, rfl⟩ := List.mem_map.1 (List.mem_of_mem_take hx)
        obtain ⟨p1, p2, p3, p4, p5, p6, p7, p8⟩ := hok3.pos p (hH p hp)
        simp only [MP] at p4 p5; omega
      have bb := sum_bd (l := (H.map (·.b)).take (j + 1)) (B := 1000000000000000) fun x hx => by
        obtain ⟨p, hp, rfl⟩ := List.mem_map.1 (List.mem_of_mem_take hx)
        obtain ⟨p1, p2, p3, p4, p5, p6, p7, p8⟩ := hok3.pos p (hH p hp)
        simp only [MF] at p6 p7; omega
      have tq := take_sum_succ (l := H.map (·.q)) (i := j) (x := p.q) (by simp [hpi])
      have tb := take_sum_succ (l := H.map (·.b)) (i := j) (x := p.b) (by simp [hpi])
      have hl1 : ((H.map (·.q)).take (j + 1)).length ≤ 502 := by rw [List.length_take, List.length_map]; omega
      have hl2 : ((H.map (·.b)).take (j + 1)).length ≤ 502 := by rw [List.length_take, List.length_map]; omega
      have wq : IntKind.i64.wrap (((H.map (·.q)).take j).sum + p.q) = ((H.map (·.q)).take (j + 1)).sum := by rw [IntKind.wrap_i64, ← tq]; omega
      have wb : IntKind.i64.wrap (((H.map (·.b)).take j).sum + p.b) = ((H.map (·.b)).take (j + 1)).sum := by rw [IntKind.wrap_i64, ← tb]; omega
      obtain ⟨rc, hrc⟩ : ∃ rc, rc = w7.heap.size + 1 := ⟨_, rfl⟩
      rw [← hrc] at hrec hKN' j7 ⊢
      have hrl := lt_of_heap hrec
      unfold R4_3
      simp [go_sem, poV]
      refine beginK_of (r := r) ?_ hready ?_
      · rw [heap_alloc, if_neg (by omega)]
        exact hrec
      have g1 : vq ≠ W1.heap.size := by omega
      have g2 : vq + 1 ≠ W1.heap.size := by omega
      have g3 : vq ≠ rc := by omega
      have g4 : vq + 1 ≠ rc := by omega
      have g5 : W1.heap.size ≠ rc := by omega
      have g6 : W1.heap.size ≠ vq := by omega
      have g7 : W1.heap.size ≠ vq + 1 := by omega
      simp [go_sem, hp_of j2, hp_of j3, g1, g2, g3, g4, g5, g6, g7, wq, wb]
      refine hKN' _ ?_ ?_ ?_
      · have mm : Mod (fun b => b = rc ∨ b = vq ∨ b = vq + 1) W1 ((((W1.alloc (.cells #[.int .u32 p.c, .int .u32 p.a, .int .i64 p.q, .int .i64 p.b] 31)).putObj rc (.loop { r with state := .busy })).setCell ⟨vq, 0, none⟩ (.int .i64 ((H.map (·.q)).take (j + 1)).sum)).setCell ⟨vq + 1, 0, none⟩ (.int .i64 ((H.map (·.b)).take (j + 1)).sum)) :=
          ((((Mod.refl (fun b => b = rc ∨ b = vq ∨ b = vq + 1) W1).alloc _).putObj (b := rc) (.inl (.inl rfl)) _).setCell (b := vq) (.inl (.inr (.inl rfl))) _ _).setCell (b := vq + 1) (.inl (.inr (.inr rfl))) _ _
        refine ⟨j1.mod mm fun b hb e => by have := hFlt b hb; omega, by simp [go_sem, hp_of j2, g1, g3], by simp [go_sem, hp_of j3, g2, g4], mm.keep j4 (by omega), fun d hd => mm.keep (j5 d hd) (by have := hsd7 d hd; omega), j6.on mm fun b hb => ?_, fun b hb => ⟨by have := (j7 b hb).1; omega, Nat.lt_of_lt_of_le (j7 b hb).2 mm.size⟩⟩
        rcases hb with h | h | h
        · exact .inr (by omega)
        · exact .inl (.inl h)
        · exact .inl (.inr h)
      · show hp _ rc = _
        simp [go_sem, hp_of hrec, g5.symm, g3.symm, g4.symm]
      · intro b hb
        have hb7 := j7 b hb
        show hp _ b = hp W1 b
        simp [go_sem, show b ≠ vq by omega, show b ≠ vq + 1 by omega, show b ≠ rc by omega, show b ≠ W1.heap.size by omega]
    · rintro Q W1 o ⟨j1, j2, j3, j4, j5, j6, j7⟩
      have hHl' : ((H.map fun a => [poV a]) : List (List Value)).length = H.length := by simp
      rw [hHl', List.take_of_length_le (by simp)] at j2 j3
      rw [show (H.map (·.q)).sum = 0 from zq] at j2
      rw [show (H.map (·.b)).sum = 0 from zb] at j3
      generalize hw8 : W1.putObj (w7.heap.size + 1) (.loop o) = w8
      have m8 : Mod (fun b => b = w7.heap.size + 1) W1 w8 := by subst hw8; exact (Mod.refl (fun b => b = w7.heap.size + 1) W1).putObj (.inl rfl) _
      have k1 := j1.mod m8 fun b hb e => by have := hFlt b hb; omega
      have k2 := m8.keep j2 (by omega)
      have k3 := m8.keep j3 (by omega)
      have k4 := m8.keep j4 (by omega)
      have k5 : ∀ d ∈ sds, hp w8 d = some (.deferred (some [])) := fun d hd => m8.keep (j5 d hd) (by have := hsd7 d hd; omega)
      unfold A4_4
      simp only [afterK]
      refine JoinW.at (fun s W' => s = (.bool false, ()) ∧ Mod (fun _ => False) w8 W') ?_ ?_
      · simp [go_sem, hp_of k2, hp_of k3]
        refine ca_funds k1 fun w9 m9 => ?_
        simp [go_sem]
        exact m9
      rintro _ w9 ⟨rfl, m9⟩
      unfold J4_1
      intro _
      simp [-Int.natCast_add, go_sem, hw]
      have mAll : Mod F w0' w9 := (((mW3.trans (m37.mono fun _ _ h => h.elim)).on j6 fun b hb => .inr (by omega)).on m8 fun b hb => .inr (by omega)).trans (m9.mono fun _ _ h => h.elim)
      refine hKN _ _ ⟨sv, S3.funds, i + 1, w7.heap.size :: sds, by omega, rfl, ⟨S3, k1.mod m9 fun _ _ h => h, z3, l3, rfl⟩, mAll, List.nodup_cons.2 ⟨fun h => ?_, nds⟩, fun d hd => ?_⟩ (by simp; omega)
      · have := hsd7 _ h; omega
      · rcases List.mem_cons.1 hd with rfl | hd
        · exact ⟨by omega, m9.keep k4 id⟩
        · exact ⟨(dds d hd).1, m9.keep (k5 d hd) id⟩
  · obtain rfl : i = ops.length := by omega
    simp [go_sem]
    refine ca_known fun w1 m1 => ?_
    refine retD_all nds (fun d hd => m1.keep (dds d hd).2 id) fun w2 m2 => ?_
    exact hK _ (fm ((mW.trans (m1.mono fun _ _ h => h.elim)).on m2 fun b hb => .inr (dds b hb).1))
end Go.Proofs
