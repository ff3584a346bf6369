/-
  The walk of LedgerPlays.
  Conditions: where they ask for any, each theorem names them.
-/
import Derived.Test.YtanjfianhnhhmaaSameW
set_option linter.unusedVariables false
set_option linter.unusedSimpArgs false
namespace Go.Proofs
open Go Go.Vc
attribute [local congr] Ca_cong
theorem JoinW_cong {S : Type} {A : (S → World → Prop) → Prop} {B : S → World → Prop} : JoinW A B = JoinW A B := rfl
attribute [local congr] JoinW_cong
theorem rv_ok {P : Program} {s : Sem Value} {w : World} {K : Kont} {v : Value} {w' : World} (h : s.run P w = .ok v w') (hK : K v w') : rv P s w K := by
  rw [rv_iff]; unfold rvD; rw [h]; exact hK
theorem ru_ok {P : Program} {s : Sem Unit} {w : World} {K : World → Prop} {w' : World} (h : s.run P w = .ok () w') (hK : K w') : ru P s w K := by
  rw [ru_iff]; unfold ruD; rw [h]; exact hK

/-- What a call of LedgerPlays makes of the ledger. -/
def Led.stp (S : Led) (x : LOp) : Led :=
  if x.kind = 1 then (S.deposit x.a x.n).2 else if x.kind = 2 then (S.withdraw x.a x.n).2 else if x.kind = 4 then (S.set x.acc).2
  else if x.kind = 5 then (S.trade x.c x.a x.b x.n x.m).2 else if x.kind = 6 then (S.mark x.c x.n x.acc.kil).2.2 else S
theorem Led.set_held (S : Led) (a : Ac) : (S.set a).2.held = S.held := by
  unfold Led.set
  split
  · rfl
  · split
    · rfl
    · unfold Led.putA; split <;> rfl
theorem Led.stp_len {S : Led} (hok : S.Ok) (x : LOp) : (S.stp x).held.length ≤ S.held.length + 2 := by
  unfold Led.stp
  split
  · rw [Led.deposit_held]; omega
  · split
    · rw [Led.withdraw_held]; omega
    · split
      · rw [Led.set_held]; omega
      · split
        · exact Led.trade_len ..
        · split
          · have := Led.mark_len hok x.c x.n x.acc.kil; omega
          · omega

/-- Where the ways meet behind a call. -/
structure PlJ (w : World) (r xb : Nat) (x : LOp) (S' : Led) (s : Value × Value × Value × Unit) (W : World) : Prop where
  out : ∃ l F G, s = (lptr l, .bool false, .bool true, ()) ∧ LedQ W l F S' ∧ RfQ W r G S' ∧ (∀ b, F b → ¬ G b) ∧ (∀ b, F b → w.heap.size ≤ b ∧ b ≠ xb) ∧ (∀ b, G b → w.heap.size ≤ b ∧ b ≠ xb) ∧ Mod (fun _ => False) w W ∧
    hp W xb = some (.cells #[.int .i64 x.kind, .int .u32 x.a, .int .u32 x.b, .int .u32 x.c, .int .i64 x.n, .int .i64 x.m, .int .u32 x.acc.num, .int .i64 x.acc.cash, .bool x.acc.kil, .bool x.acc.dfl] 40 (0, 0))

/-- A call on both. -/
theorem PlJ.both {w W1 w3 w4 : World} {r xb l : Nat} {x : LOp} {S1 S' : Led} {F G G4 : Nat → Prop} (q1 : LedQ W1 l F S1) (r1 : RfQ W1 r G S1) (dis : ∀ b, F b → ¬ G b) (hF : ∀ b, F b → w.heap.size ≤ b ∧ b ≠ xb) (hG : ∀ b, G b → w.heap.size ≤ b ∧ b ≠ xb) (m01 : Mod (fun _ => False) w W1)
    (hx : hp W1 xb = some (.cells #[.int .i64 x.kind, .int .u32 x.a, .int .u32 x.b, .int .u32 x.c, .int .i64 x.n, .int .i64 x.m, .int .u32 x.acc.num, .int .i64 x.acc.cash, .bool x.acc.kil, .bool x.acc.dfl] 40 (0, 0)))
    (q3 : LedQ w3 l F S') (m3 : Mod F W1 w3) (r4 : RfQ w4 r G4 S') (st : RStp G r w3 w4 G4) : PlJ w r xb x S' (lptr l, .bool false, .bool true, ()) w4 := by
  have hgr := r1.self
  have h3 := m3.keep hx (fun hf => (hF _ hf).2 rfl)
  have h4 := st.mod.keep h3 (fun e => (hG _ hgr).2 e.symm)
  have l3 := lt_of_heap h3
  have s1 := m01.size
  have s3 := m3.size
  refine ⟨l, F, G4, rfl, q3.mod st.mod fun b hb e => dis b hb (e ▸ hgr), r4, fun b hb hg => ?_, hF, fun b hb => ?_, (m01.on m3 fun b hb => .inr (hF b hb).1).on st.mod fun b hb => .inr (hb ▸ (hG _ hgr).1), h4⟩
  · rcases st.fresh b hg with h | h
    · exact dis b hb h
    · have := q3.lt hb; omega
  · rcases st.fresh b hb with h | h
    · exact hG b h
    · exact ⟨by omega, by omega⟩
/-- .. and a call that only reads. -/
theorem PlJ.step {w W1 w4 : World} {r xb l : Nat} {x : LOp} {S' : Led} {F G : Nat → Prop} (q1 : LedQ W1 l F S') (r1 : RfQ W1 r G S') (dis : ∀ b, F b → ¬ G b) (hF : ∀ b, F b → w.heap.size ≤ b ∧ b ≠ xb) (hG : ∀ b, G b → w.heap.size ≤ b ∧ b ≠ xb) (m01 : Mod (fun _ => False) w W1)
    (hx : hp W1 xb = some (.cells #[.int .i64 x.kind, .int .u32 x.a, .int .u32 x.b, .int .u32 x.c, .int .i64 x.n, .int .i64 x.m, .int .u32 x.acc.num, .int .i64 x.acc.cash, .bool x.acc.kil, .bool x.acc.dfl] 40 (0, 0)))
    (m : Mod (fun _ => False) W1 w4) : PlJ w r xb x S' (lptr l, .bool false, .bool true, ()) w4 :=
  PlJ.both q1 r1 dis hF hG m01 hx (q1.mod m fun _ _ h => h) (m.mono fun _ _ h => h.elim) (r1.modF m) (RStp.refl _ _ _)

set_option maxRecDepth 10000 in
set_option maxHeartbeats 4000000 in
theorem ca_plays {w : World} {v : Value} {ops : List LOp} {K : Kont} (hops : Rd w 10 v ops.length (ops.flatMap cellsOp)) (hwf : ∀ x ∈ ops, x.Wf) (hK : ∀ w', Mod (fun _ => False) w w' → K (.bool true) w') :
    Ca Try.prog 6 #[v] w K := by
  obtain ⟨va, vc, rfl⟩ := hops.isSl
  apply ca6
  unfold F6
  refine ca_new fun w2 l0 F0 q2 m2 f2 => ?_
  obtain ⟨r, hr⟩ : ∃ r, r = w2.heap.size := ⟨_, rfl⟩
  simp [go_sem, ← hr]
  generalize hw3 : World.alloc _ _ = w3
  have m3 : Mod (fun _ => False) w2 w3 := by subst hw3; exact (Mod.refl _ w2).alloc _
  have gr : hp w3 r = some (.cells #[.int .i64 0, .slice none 0 0, .slice none 0 0] 61 (0, 0)) := by subst hw3 hr; simp [go_sem]
  have r3 : RfQ w3 r (fun b => b = r) Led.empty := by
    refine ⟨⟨_, _, gr, ⟨rfl, .inl ⟨rfl, none, 0, rfl⟩⟩, ⟨rfl, .inl ⟨rfl, none, 0, rfl⟩⟩, fun b hb => ?_, fun b hb => ?_⟩, rfl, fun b hb => ?_⟩
    · obtain ⟨a, n, c, e, -⟩ := hb; cases e
    · obtain ⟨a, n, c, e, -⟩ := hb; cases e
    · rw [hb]; exact lt_of_heap gr
  have q3 := q2.mod m3 fun _ _ h => h
  have m03 : Mod (fun _ => False) w w3 := m2.trans m3
  have hF3 : ∀ b, F0 b → b < r := fun b hb => by have := q2.lt hb; omega
  refine JoinW.at (fun s W => s = (.bool (decide (250 < ops.length)), ()) ∧ W = w3) ?_ ?_
  · simp [go_sem, lptr]
    try omega
  rintro _ w3' ⟨rfl, rfl⟩
  unfold J6_3
  intro _
  by_cases hbig : 250 < ops.length
  · simp only [decide_eq_true hbig, ifB_bool, if_true]
    simp [go_sem, lptr]
    exact ca_known fun w4 m4 => hK _ (m03.trans m4)
  simp only [decide_eq_false hbig, ifB_bool, Bool.false_eq_true, if_false]
  simp [go_sem]
  refine loopK (fun s W => ∃ (i l : Nat) (S : Led) (F G : Nat → Prop), i ≤ ops.length ∧ s = (.bool false, lptr l, .int .i64 i, ()) ∧ LedQ W l F S ∧ RfQ W r G S ∧ (∀ b, F b → ¬ G b) ∧ (∀ b, F b → w.heap.size ≤ b) ∧ (∀ b, G b → w.heap.size ≤ b) ∧ S.held.length ≤ 2 * i ∧ Mod (fun _ => False) w W)
    (fun s _ => match s.2.2.1 with | .int _ i => ops.length - i.toNat | _ => 0) ⟨0, l0, _, F0, _, by omega, rfl, q3, r3, fun b hb e => by have := hF3 b hb; omega, f2, fun b hb => by have := m2.size; omega, by simp [Led.empty], m03⟩ ?_
  rintro ⟨_, _⟩ W ⟨i, l, S, F, G, hi, ⟨⟩, qW, rW, dis, hF, hG, lS, mW⟩ KN hKN
  unfold L6_2
  intro _
  by_cases hlt : i < ops.length
  · have hopsW := hops.mod mW fun _ _ h => h
    obtain ⟨b, off, cap, hsl, hAt⟩ := Rd.elemR hopsW hlt
    cases hsl
    rw [flat_get cellsOp 10 _ _ (fun _ _ => rfl) hlt] at hAt
    have hxW := hwf ops[i] (List.getElem_mem hlt)
    generalize ops[i] = op at hAt hxW
    obtain ⟨C, e, fz, hC, hCg⟩ := hAt.get
    have hC0 := hCg 0 _ rfl
    have hC1 := hCg 1 _ rfl
    have hC2 := hCg 2 _ rfl
    have hC3 := hCg 3 _ rfl
    have hC4 := hCg 4 _ rfl
    have hC5 := hCg 5 _ rfl
    have hC6 := hCg 6 _ rfl
    have hC7 := hCg 7 _ rfl
    have hC8 := hCg 8 _ rfl
    have hC9 := hCg 9 _ rfl
    simp only [Nat.add_zero, Nat.add_assoc] at hC0 hC1 hC2 hC3 hC4 hC5 hC6 hC7 hC8 hC9
    have hw := wr_add1 (i := i) (by omega)
    obtain ⟨xb, hxb⟩ : ∃ xb, xb = W.heap.size := ⟨_, rfl⟩
    refine rv_ok (v := .bool true) (w' := W) (by simp [go_sem, hlt]) ?_
    rw [ifB_bool, if_pos rfl]
    refine rv_ok (by simp [-Int.natCast_add, go_sem, hlt]; first | exact ⟨rfl, rfl⟩ | exact rfl) ?_
    refine rv_ok (by simp [-Int.natCast_add, go_sem, hlt, hC, hC0, hC1, hC2, hC3, hC4, hC5, hC6, hC7, hC8, hC9]; first | exact ⟨rfl, rfl⟩ | exact rfl) ?_
    refine rv_ok (by simp [go_sem]; first | exact ⟨rfl, rfl⟩ | exact rfl) ?_
    refine ru_ok (by simp [-Int.natCast_add, go_sem, ← hxb]; first | exact ⟨rfl, rfl⟩ | exact rfl) ?_
    rw [← hxb]
    generalize hw1 : W.alloc _ = W1
    have mw1 : Mod (fun _ => False) W W1 := by subst hw1; exact (Mod.refl _ W).alloc _
    have hloc : hp W1 xb = some (.cells #[.int .i64 op.kind, .int .u32 op.a, .int .u32 op.b, .int .u32 op.c, .int .i64 op.n, .int .i64 op.m, .int .u32 op.acc.num, .int .i64 op.acc.cash, .bool op.acc.kil, .bool op.acc.dfl] 40 (0, 0)) := by subst hw1 hxb; simp [go_sem]
    have q1 := qW.mod mw1 fun _ _ h => h
    have r1 := rW.modF mw1
    have m01 := mW.trans mw1
    have hF1 : ∀ b, F b → w.heap.size ≤ b ∧ b ≠ xb := fun b hb => ⟨hF b hb, by have := qW.lt hb; omega⟩
    have hG1 : ∀ b, G b → w.heap.size ≤ b ∧ b ≠ xb := fun b hb => ⟨hG b hb, by have := rW.lt b hb; omega⟩
    have hok := qW.ok
    have both := @PlJ.both w W1
    refine JoinW.at (PlJ w r xb op (S.stp op)) ?_ ?_
    · refine rv_ok (by simp [go_sem]; exact ⟨rfl, rfl⟩) ?_
      refine rv_ok (by simp [go_sem, hp_of hloc]; exact ⟨rfl, rfl⟩) ?_
      by_cases k1 : op.kind = 1
      · refine rv_ok (v := .bool true) (w' := W1) (by simp [go_sem, k1]) ?_
        rw [ifB_bool, if_pos rfl]
        have hs : S.stp op = (S.deposit op.a op.n).2 := by simp [Led.stp, k1]
        rw [hs]
        simp [go_sem, hp_of hloc]
        refine ca_deposit (q1.mod ((Mod.refl (fun _ => False) W1).drew) fun _ _ h => h) hxW.a fun w4 q4 m4 => ?_
        have m14 : Mod F W1 w4 := ((Mod.refl F W1).drew).trans m4
        have hl4 := m14.keep hloc (fun hf => (hF1 _ hf).2 rfl)
        simp [go_sem, hp_of hl4]
        refine ca_rdeposit (r1.mod m14 fun b hb hf => dis b hf hb) hok fun w5 G5 r5 st5 => ?_
        simp [go_sem]
        exact PlJ.both q1 r1 dis hF1 hG1 m01 hloc q4 m14 r5 st5
      refine rv_ok (v := .bool false) (w' := W1) (by simp [go_sem, k1]) ?_
      rw [ifB_bool, if_neg Bool.false_ne_true]
      by_cases k2 : op.kind = 2
      · refine rv_ok (v := .bool true) (w' := W1) (by simp [go_sem, k2]) ?_
        rw [ifB_bool, if_pos rfl]
        have hs : S.stp op = (S.withdraw op.a op.n).2 := by simp [Led.stp, k2]
        rw [hs]
        simp [go_sem, hp_of hloc]
        refine ca_withdraw (q1.mod ((Mod.refl (fun _ => False) W1).drew) fun _ _ h => h) hxW.a fun w4 q4 m4 => ?_
        have m14 : Mod F W1 w4 := ((Mod.refl F W1).drew).trans m4
        have hl4 := m14.keep hloc (fun hf => (hF1 _ hf).2 rfl)
        simp [go_sem, hp_of hl4]
        refine ca_rwithdraw (r1.mod m14 fun b hb hf => dis b hf hb) hok fun w5 G5 r5 st5 => ?_
        simp [go_sem]
        exact PlJ.both q1 r1 dis hF1 hG1 m01 hloc q4 m14 r5 st5
      refine rv_ok (v := .bool false) (w' := W1) (by simp [go_sem, k2]) ?_
      rw [ifB_bool, if_neg Bool.false_ne_true]
      by_cases k3 : op.kind = 3
      · refine rv_ok (v := .bool true) (w' := W1) (by simp [go_sem, k3]) ?_
        rw [ifB_bool, if_pos rfl]
        have hs : S.stp op = S := by simp [Led.stp, k3]
        rw [hs]
        simp [go_sem, hp_of hloc]
        refine ca_get q1 fun w4 m4 => ?_
        have hl4 := m4.keep hloc id
        have lb := lt_of_heap hl4
        obtain ⟨xa, hxa⟩ : ∃ xa, xa = w4.heap.size := ⟨_, rfl⟩
        simp only [acV]
        simp [go_sem, hp_of hl4, ← hxa, show xb ≠ xa by omega]
        generalize hw5 : World.alloc _ _ = w5
        have m5 : Mod (fun _ => False) w4 w5 := by subst hw5; exact (Mod.refl _ w4).alloc _
        have ga : hp w5 xa = some (.cells #[.int .u32 (S.getV op.a).1.num, .int .i64 (S.getV op.a).1.cash, .bool (S.getV op.a).1.kil, .bool (S.getV op.a).1.dfl] 34 (0, 0)) := by subst hw5 hxa; simp [go_sem]
        refine ca_rget (r1.modF (m4.trans m5)) (by have := hok.len; omega) fun w6 m6 => ?_
        have ga6 := m6.keep ga id
        have la6 := lt_of_heap ga6
        simp only [acV]
        simp [go_sem, hp_of ga6, show xa ≠ w6.heap.size by omega]
        exact PlJ.step q1 r1 dis hF1 hG1 m01 hloc (((m4.trans m5).trans m6).alloc _)
      refine rv_ok (v := .bool false) (w' := W1) (by simp [go_sem, k3]) ?_
      rw [ifB_bool, if_neg Bool.false_ne_true]
      by_cases k4 : op.kind = 4
      · refine rv_ok (v := .bool true) (w' := W1) (by simp [go_sem, k4]) ?_
        rw [ifB_bool, if_pos rfl]
        have hs : S.stp op = (S.set op.acc).2 := by simp [Led.stp, k4]
        rw [hs]
        simp [go_sem, hp_of hloc]
        refine ca_set (a := op.acc) (q1.mod ((Mod.refl (fun _ => False) W1).drew) fun _ _ h => h) hxW.num fun w4 q4 m4 => ?_
        have m14 : Mod F W1 w4 := ((Mod.refl F W1).drew).trans m4
        have hl4 := m14.keep hloc (fun hf => (hF1 _ hf).2 rfl)
        simp [go_sem, hp_of hl4]
        refine ca_rset (a := op.acc) (r1.mod m14 fun b hb hf => dis b hf hb) hok fun w5 G5 r5 st5 => ?_
        simp [go_sem]
        exact PlJ.both q1 r1 dis hF1 hG1 m01 hloc q4 m14 r5 st5
      refine rv_ok (v := .bool false) (w' := W1) (by simp [go_sem, k4]) ?_
      rw [ifB_bool, if_neg Bool.false_ne_true]
      by_cases k5 : op.kind = 5
      · refine rv_ok (v := .bool true) (w' := W1) (by simp [go_sem, k5]) ?_
        rw [ifB_bool, if_pos rfl]
        have hs : S.stp op = (S.trade op.c op.a op.b op.n op.m).2 := by simp [Led.stp, k5]
        rw [hs]
        simp [go_sem, hp_of hloc]
        refine ca_trade (q1.mod ((Mod.refl (fun _ => False) W1).drew) fun _ _ h => h) hxW.c fun w4 q4 m4 => ?_
        have m14 : Mod F W1 w4 := ((Mod.refl F W1).drew).trans m4
        have hl4 := m14.keep hloc (fun hf => (hF1 _ hf).2 rfl)
        simp [go_sem, hp_of hl4]
        refine ca_rtrade (r1.mod m14 fun b hb hf => dis b hf hb) hok (by omega) hxW.c fun w5 G5 r5 st5 => ?_
        simp [go_sem]
        exact PlJ.both q1 r1 dis hF1 hG1 m01 hloc q4 m14 r5 st5
      refine rv_ok (v := .bool false) (w' := W1) (by simp [go_sem, k5]) ?_
      rw [ifB_bool, if_neg Bool.false_ne_true]
      by_cases k6 : op.kind = 6
      · refine rv_ok (v := .bool true) (w' := W1) (by simp [go_sem, k6]) ?_
        rw [ifB_bool, if_pos rfl]
        have hs : S.stp op = (S.mark op.c op.n op.acc.kil).2.2 := by simp [Led.stp, k6]
        rw [hs]
        simp [go_sem, hp_of hloc]
        refine ca_mark q1 (by omega) fun w4 vA q4 oA m4 fA => ?_
        have hl4 := m4.keep hloc (fun hf => (hF1 _ hf).2 rfl)
        obtain ⟨sa, sc, hvA, -⟩ := oA.isSl
        simp only [hvA]
        simp [go_sem, hp_of hl4]
        rw [← hvA]
        refine ca_rmark (r1.mod m4 fun b hb hf => dis b hf hb) hok (by omega) fun w5 G5 vB r5 oB st5 fB => ?_
        obtain ⟨sb, sd, hvB, -⟩ := oB.isSl
        have hgr := r1.lt'
        have oA5 := oA.mod st5.mod fun b hb e => by have := fA b hb; subst e; omega
        simp only [hvA, hvB]
        simp [go_sem]
        rw [← hvA, ← hvB]
        have hml : (S.mark op.c op.n op.acc.kil).2.1.length ≤ S.held.length := by
          unfold Led.mark
          split
          · simp
          · have h1 : (S.holders op.c).length ≤ S.held.length := List.length_filter_le ..
            simp; omega
        refine ca_sameVa oA5.rd oB.rd (by omega) fun w6 m6 => ?_
        simp [go_sem]
        exact PlJ.both q1 r1 dis hF1 hG1 m01 hloc q4 m4 (r5.modF m6) ⟨st5.mod.trans (m6.mono fun _ _ h => h.elim), st5.fresh⟩
      refine rv_ok (v := .bool false) (w' := W1) (by simp [go_sem, k6]) ?_
      rw [ifB_bool, if_neg Bool.false_ne_true]
      by_cases k7 : op.kind = 7
      · refine rv_ok (v := .bool true) (w' := W1) (by simp [go_sem, k7]) ?_
        rw [ifB_bool, if_pos rfl]
        have hs : S.stp op = S := by simp [Led.stp, k7]
        rw [hs]
        refine ca_copy q1 fun w4 l4 F4 q4 m4 f4 => ?_
        refine ca_deposit (q1.mod m4 fun _ _ h => h) ⟨by omega, by omega⟩ fun w5 q5 m5 => ?_
        have hl5 := m5.keep (m4.keep hloc id) (fun hf => (hF1 _ hf).2 rfl)
        simp [go_sem, hp_of hl5]
        refine ca_mark q5 (by rw [Led.deposit_held]; omega) fun w6 vA q6 oA m6 fA => ?_
        have hl6 := m6.keep hl5 (fun hf => (hF1 _ hf).2 rfl)
        simp [go_sem, lptr]
        have m16 : Mod F W1 w6 := ((m4.mono fun _ _ h => h.elim).trans m5).trans m6
        have lb := lt_of_heap hloc
        exact ⟨l4, F4, G, rfl, (q4.mod m5 fun b hb hf => by have := f4 b hb; have := q1.lt hf; omega).mod m6 fun b hb hf => by have := f4 b hb; have := q1.lt hf; omega, r1.mod m16 fun b hb hf => dis b hf hb, fun b hb hg => by have := f4 b hb; have := r1.lt b hg; omega,
          fun b hb => by have := f4 b hb; have := m01.size; exact ⟨by omega, by omega⟩, hG1, m01.on m16 fun b hb => .inr (hF1 b hb).1, hl6⟩
      refine rv_ok (v := .bool false) (w' := W1) (by simp [go_sem, k7]) ?_
      rw [ifB_bool, if_neg Bool.false_ne_true]
      have hs : S.stp op = S := by simp [Led.stp, k1, k2, k4, k5, k6]
      rw [hs]
      simp [go_sem, hp_of hloc]
      refine ca_position (q1.mod ((Mod.refl (fun _ => False) W1).drew) fun _ _ h => h) fun w4 m4 => ?_
      have m14 : Mod (fun _ => False) W1 w4 := ((Mod.refl (fun _ => False) W1).drew).trans m4
      have hl4 := m14.keep hloc id
      simp only [poV]
      simp [go_sem, hp_of hl4]
      refine ca_rposition (r1.modF m14) (by omega) fun w5 m5 => ?_
      simp only [poV]
      simp [go_sem]
      exact PlJ.step q1 r1 dis hF1 hG1 m01 hloc (m14.trans m5)
    · rintro _ W2 ⟨l2, F2, G2, rfl, q2', r2', dis2, hF2, hG2, m2', hx2⟩
      have hlen := Led.stp_len hok op
      unfold J6_1
      intro _
      refine JoinW.at (fun s W' => s = (.bool false, ()) ∧ Mod (fun _ => False) W2 W') ?_ ?_
      · simp [go_sem]
        refine ca_same q2' r2' (by omega) fun W3 m3' => ?_
        simp [go_sem, hp_of (m3'.keep hx2 id)]
        refine ca_eqHolders (q2'.mod m3' fun _ _ h => h) (r2'.modF m3') (by omega) fun W4 m4' => ?_
        simp [go_sem]
        exact m3'.trans m4'
      · rintro _ W4 ⟨rfl, m4'⟩
        unfold J6_0
        intro _
        simp [-Int.natCast_add, go_sem, hw]
        exact hKN _ _ ⟨i + 1, l2, _, F2, G2, by omega, rfl, q2'.mod m4' fun _ _ h => h, r2'.modF m4', dis2, fun b hb => (hF2 b hb).1, fun b hb => (hG2 b hb).1, by omega, m2'.trans m4'⟩ (by simp; omega)
  · obtain rfl : i = ops.length := by omega
    clear hKN
    refine rv_ok (v := .bool false) (w' := W) (by simp [go_sem]) ?_
    rw [ifB_bool, if_neg Bool.false_ne_true]
    exact ca_known fun w1 m1 => hK _ (mW.trans m1)
end Go.Proofs
