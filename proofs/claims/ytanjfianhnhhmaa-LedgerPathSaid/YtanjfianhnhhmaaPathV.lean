/-
  The walk of LedgerPath: the law itself.
  Conditions: where they ask for any, each theorem names them.
-/
import Derived.Test.YtanjfianhnhhmaaPathW
set_option linter.unusedVariables false
set_option linter.unusedSimpArgs false
namespace Go.Proofs
open Go Go.Vc

theorem run_store_func {P : Program} {w : World} {a : Addr} {f : Fn} {x y : Array Value} {m : Mode} : (Go.store a (.func f x y) m).run P w = stored P w a (.func f x y) m := run_store P w a _ m rfl

set_option maxRecDepth 10000 in
set_option maxHeartbeats 2000000 in
theorem ca_path {w : World} {v : Value} {ops : List LOp} {K : Kont} {c p q : Int} (hops : Rd w 10 v ops.length (ops.flatMap cellsOp)) (hwf : ∀ x ∈ ops, x.Wf) (hK : ∀ w', Mod (fun _ => False) w w' → K (.bool true) w') :
    Ca Try.prog 5 #[v, .int .u32 c, .int .i64 p, .int .i64 q] w K := by
  obtain ⟨va, vc, hv⟩ := hops.isSl
  subst hv
  apply ca5
  unfold F5
  simp [go_sem]
  obtain ⟨n0, hn0⟩ : ∃ n0, n0 = w.heap.size := ⟨_, rfl⟩
  rw [← hn0]
  generalize hw1 : World.alloc _ _ = w1
  have m1 : Mod (fun _ => False) w w1 := by subst hw1; exact ((Mod.refl _ w).alloc _).alloc _
  have gc : hp w1 n0 = some (.cells #[.int .u32 c] 22 (0, 0)) := by subst hw1 hn0; simp [go_sem]
  have gr : hp w1 (n0 + 1) = some (.cells #[.bool false] 4 (0, 0)) := by subst hw1 hn0; simp [go_sem]
  refine ca_new fun w2 l F q2 m2 f2 => ?_
  simp [go_sem, lptr]
  obtain ⟨bl, hbl⟩ : ∃ bl, bl = w2.heap.size := ⟨_, rfl⟩
  rw [← hbl]
  generalize hw3 : World.alloc _ _ = w3
  have m3 : Mod (fun _ => False) w2 w3 := by subst hw3; exact (Mod.refl _ w2).alloc _
  have gl : hp w3 bl = some (.cells #[lptr l] 23 (0, 0)) := by subst hw3 hbl; simp [go_sem, lptr]
  have q3 := q2.mod m3 fun _ _ h => h
  have gc3 := (m2.trans m3).keep gc id
  have gr3 := (m2.trans m3).keep gr id
  have hF1 : ∀ b, F b → n0 + 1 < b := fun b hb => by have := f2 b hb; have := lt_of_heap gr; omega
  have hF3 : ∀ b, F b → b < bl := fun b hb => by have := q2.lt hb; omega
  have hbl2 : n0 + 1 < bl := by have := lt_of_heap gr; have := m2.size; omega
  have m13 : Mod (fun _ => False) w w3 := (m1.trans m2).trans m3
  -- what may have turned at the end
  have fin : ∀ {W}, Mod (fun b => n0 ≤ b) w3 W → Mod (fun _ => False) w W := fun h => m13.on h fun b hb => .inr (by omega)
  have sub : ∀ {W W'}, Mod (fun _ => False) W W' → Mod (fun b => n0 ≤ b) W W' := fun h => h.mono fun _ _ h => h.elim
  have store : ∀ (W : World) (r : Bool) (x : Bool), hp W (n0 + 1) = some (.cells #[.bool r] 4 (0, 0)) → hp (W.setCell ⟨n0 + 1, 0, none⟩ (.bool x)) (n0 + 1) = some (.cells #[.bool x] 4 (0, 0)) := fun W r x h => by simp [go_sem, h]
  refine JoinW.at (fun s W => s = (.bool (decide (150 < ops.length)), ()) ∧ W = w3) ?_ ?_
  · simp [go_sem, hp_of gl, lptr]
    omega
  rintro _ w3' ⟨rfl, rfl⟩
  unfold J5_7
  intro _
  by_cases hbig : 150 < ops.length
  · simp only [decide_eq_true hbig, ifB_bool, if_true]
    simp [go_sem, hp_of gl, lptr]
    refine ca_known fun w4 m4 => ?_
    have gr4 := m4.keep gr3 id
    simp [go_sem, hp_of gr4]
    exact hK _ (fin ((sub m4).setCell (b := n0 + 1) (.inl (by omega)) _ _))
  simp only [decide_eq_false hbig, ifB_bool, Bool.false_eq_true, if_false]
  simp [go_sem]
  refine loopK (fun s W => ∃ (i : Nat) (S : Led), i ≤ ops.length ∧ s = (.int .i64 i, ()) ∧ LedQ W l F S ∧ S.held.length ≤ 2 * i ∧ Mod F w3' W)
    (fun s _ => match s.1 with | .int _ i => ops.length - i.toNat | _ => 0) ⟨0, _, by omega, rfl, q3, by simp [Led.empty], Mod.refl _ _⟩ ?_
  rintro ⟨_, _⟩ W ⟨i, S, hi, ⟨⟩, qW, lS, mW⟩ KN hKN
  have mWn : Mod (fun b => n0 ≤ b) w3' W := mW.mono fun b _ hb => by have := hF1 b hb; omega
  have glW := mW.keep gl (fun hf => by have := hF3 _ hf; omega)
  have gcW := mW.keep gc3 (fun hf => by have := hF1 _ hf; omega)
  have grW := mW.keep gr3 (fun hf => by have := hF1 _ hf; omega)
  unfold L5_6
  intro _
  by_cases hlt : i < ops.length
  · have hopsW := hops.mod (fin mWn) fun _ _ h => h
    obtain ⟨b, off, cap, hsl, hAt⟩ := Rd.elemR hopsW hlt
    cases hsl
    rw [flat_get cellsOp 10 _ _ (fun _ _ => rfl) hlt] at hAt
    have hxW := hwf ops[i] (List.getElem_mem hlt)
    generalize ops[i] = op at hAt hxW
    obtain ⟨C, e, fz, hC, hCg⟩ := hAt.get
    have hC0 := hCg 0 _ rfl
    have hC1 := hCg 1 _ rfl
    have hC2 := hCg 2 _ rfl
    have hC3 := hCg 3 _ rfl
    have hC4 := hCg 4 _ rfl
    have hC5 := hCg 5 _ rfl
    have hC6 := hCg 6 _ rfl
    have hC7 := hCg 7 _ rfl
    have hC8 := hCg 8 _ rfl
    have hC9 := hCg 9 _ rfl
    simp only [Nat.add_zero, Nat.add_assoc] at hC0 hC1 hC2 hC3 hC4 hC5 hC6 hC7 hC8 hC9
    have hw := wrap_add1' (i := i) (by omega)
    simp [-Int.natCast_add, go_sem, hlt, hp_of glW, hC, hC0, hC1, hC2, hC3, hC4, hC5, hC6, hC7, hC8, hC9]
    refine ca_play (x := op) (qW.mod ((Mod.refl (fun _ => False) W).drew) fun _ _ h => h) hxW (by omega) fun W3 q3 m3 => ?_
    simp [-Int.natCast_add, go_sem, hw]
    have := Led.play_len qW.ok op
    exact hKN _ _ ⟨i + 1, _, by omega, rfl, q3, by omega, mW.trans (((Mod.refl _ W).drew).trans m3)⟩ (by simp; omega)
  · obtain rfl : i = ops.length := by omega
    clear hKN
    simp [go_sem, hp_of glW]
    refine ca_copy qW fun W1 l2 F2 qK mK fK => ?_
    have hF2 : ∀ b, F2 b → W.heap.size ≤ b := fK
    obtain ⟨bk, hbk⟩ : ∃ bk, bk = W1.heap.size := ⟨_, rfl⟩
    have qL1 := qW.mod mK fun _ _ h => h
    have gl1 := mK.keep glW id
    have gc1 := mK.keep gcW id
    have gr1 := mK.keep grW id
    have lW : bl < W.heap.size := lt_of_heap glW
    have sW : W.heap.size ≤ W1.heap.size := mK.size
    have nbk : bl ≠ bk := by omega
    have nck : n0 ≠ bk := by omega
    simp [go_sem, lptr, hp_of gl1, hp_of gc1, ← hbk, nbk, nck]
    generalize hW2 : World.alloc _ _ = W2
    have m2' : Mod (fun _ => False) W1 W2 := by subst hW2; exact (Mod.refl _ W1).alloc _
    have gk2 : hp W2 bk = some (.cells #[lptr l2] 23 (0, 0)) := by subst hW2 hbk; simp [go_sem, lptr]
    have qL2 := qL1.mod m2' fun _ _ h => h
    have qK2 := qK.mod m2' fun _ _ h => h
    have gl2 := m2'.keep gl1 id
    have gc2 := m2'.keep gc1 id
    have gr2 := m2'.keep gr1 id
    have sW2 := m2'.size
    have hFl : ∀ b, F b → b < bl := hF3
    have hF2k : ∀ b, F2 b → b < bk := fun b hb => by have := qK.lt hb; omega
    have hFF : ∀ b, F2 b → ¬ F b := fun b h1 h2 => by have := hFl b h2; have := hF2 b h1; omega
    have hs := qW.ok.sp
    have hok := qW.ok
    have hlen : S.held.length ≤ 300 := by omega
    -- the first mark
    refine ca_mark qL2 (by omega) fun W3 vA qA oA mA fA => ?_
    have lenA := Led.mark_len hok c p false
    have okA := qA.ok
    have gl3 := mA.keep gl2 (fun hf => by have := hFl _ hf; omega)
    have gc3' := mA.keep gc2 (fun hf => by have := hF1 _ hf; omega)
    have gr3' := mA.keep gr2 (fun hf => by have := hF1 _ hf; omega)
    have gk3 := mA.keep gk2 (fun hf => by have := hFl _ hf; omega)
    have qK3 := qK2.mod mA fun b h1 h2 => hFF b h1 h2
    obtain ⟨sa, sc, hvA, -⟩ := oA.isSl
    obtain ⟨ba, hba⟩ : ∃ ba, ba = W3.heap.size := ⟨_, rfl⟩
    have k3 := lt_of_heap gk3
    have n3a : bl ≠ ba := by omega
    have n3b : n0 ≠ ba := by omega
    simp only [hvA]
    simp [go_sem, hp_of gl3, hp_of gc3', lptr, ← hba, n3a, n3b]
    rw [← hvA]
    generalize hW4 : World.alloc _ _ = W4
    have m4' : Mod (fun _ => False) W3 W4 := by subst hW4; exact (Mod.refl _ W3).alloc _
    have ga4 : hp W4 ba = some (.cells #[vA] 41 (0, 0)) := by subst hW4 hba; simp [go_sem]
    have qA4 := qA.mod m4' fun _ _ h => h
    -- the second mark
    refine ca_mark qA4 (by omega) fun W5 vB qB oB mB fB => ?_
    have gl5 := mB.keep (m4'.keep gl3 id) (fun hf => by have := hFl _ hf; omega)
    have gc5 := mB.keep (m4'.keep gc3' id) (fun hf => by have := hF1 _ hf; omega)
    have gr5 := mB.keep (m4'.keep gr3' id) (fun hf => by have := hF1 _ hf; omega)
    have gk5 := mB.keep (m4'.keep gk3 id) (fun hf => by have := hFl _ hf; omega)
    have ga5 := mB.keep ga4 (fun hf => by have := hFl _ hf; omega)
    have s4' := m4'.size
    have oA5 := (oA.mod m4' fun _ _ h => h).mod mB fun b hb hf => by have := fA b hb; have := hFl b hf; omega
    have qK5 := (qK3.mod m4' fun _ _ h => h).mod mB fun b h1 h2 => hFF b h1 h2
    obtain ⟨sa', sc', hvB, -⟩ := oB.isSl
    obtain ⟨bb, hbb⟩ : ∃ bb, bb = W5.heap.size := ⟨_, rfl⟩
    have k5 := lt_of_heap ga5
    have n5a : bk ≠ bb := by omega
    have n5b : n0 ≠ bb := by omega
    simp only [hvB]
    simp [go_sem, hp_of gk5, hp_of gc5, lptr, ← hbb, n5a, n5b]
    rw [← hvB]
    generalize hW6 : World.alloc _ _ = W6
    have m6' : Mod (fun _ => False) W5 W6 := by subst hW6; exact (Mod.refl _ W5).alloc _
    have gb6 : hp W6 bb = some (.cells #[vB] 41 (0, 0)) := by subst hW6 hbb; simp [go_sem]
    have qK6 := qK5.mod m6' fun _ _ h => h
    -- the mark of the copy
    refine ca_mark qK6 (by omega) fun W7 vD qD oD mD fD => ?_
    have gl7 := mD.keep (m6'.keep gl5 id) (fun hf => by have := hF2 _ hf; omega)
    have gc7 := mD.keep (m6'.keep gc5 id) (fun hf => by have := hF2 _ hf; omega)
    have gr7 := mD.keep (m6'.keep gr5 id) (fun hf => by have := hF2 _ hf; omega)
    have gk7 := mD.keep (m6'.keep gk5 id) (fun hf => by have := hF2k _ hf; omega)
    have ga7 := mD.keep (m6'.keep ga5 id) (fun hf => by have := hF2k _ hf; omega)
    have gb7 := mD.keep gb6 (fun hf => by have := hF2k _ hf; omega)
    have s6' := m6'.size
    have s3 := mA.size
    have oA7 := (oA5.mod m6' fun _ _ h => h).mod mD fun b hb hf => by have := fA b hb; have := hF2k b hf; have := lt_of_heap gk2; omega
    have oB7 := (oB.mod m6' fun _ _ h => h).mod mD fun b hb hf => by have := fB b hb; have := hF2k b hf; have := lt_of_heap gk3; omega
    have qL7 := (qB.mod m6' fun _ _ h => h).mod mD fun b h1 h2 => hFF b h2 h1
    obtain ⟨sa'', sc'', hvD, -⟩ := oD.isSl
    obtain ⟨bd, hbd⟩ : ∃ bd, bd = W7.heap.size := ⟨_, rfl⟩
    have k7 := lt_of_heap gb7
    simp only [hvD]
    simp [go_sem, ← hbd]
    rw [← hvD]
    generalize hW8 : World.alloc _ _ = W8
    have m8' : Mod (fun _ => False) W7 W8 := by subst hW8; exact (Mod.refl _ W7).alloc _
    have gd8 : hp W8 bd = some (.cells #[vD] 41 (0, 0)) := by subst hW8 hbd; simp [go_sem]
    have gl8 := m8'.keep gl7 id
    have gc8 := m8'.keep gc7 id
    have gr8 := m8'.keep gr7 id
    have gk8 := m8'.keep gk7 id
    have ga8 := m8'.keep ga7 id
    have gb8 := m8'.keep gb7 id
    have oA8 := oA7.mod m8' fun _ _ h => h
    have oB8 := oB7.mod m8' fun _ _ h => h
    have oD8 := oD.mod m8' fun _ _ h => h
    have qL8 := qL7.mod m8' fun _ _ h => h
    have qD8 := qD.mod m8' fun _ _ h => h
    have mAll : Mod (fun b => n0 ≤ b) w3' W8 := by
      have e1 : Mod (fun b => n0 ≤ b) w3' W2 := (mWn.trans (sub mK)).trans (sub m2')
      have e2 : Mod (fun b => n0 ≤ b) w3' W4 := (e1.trans (mA.mono fun b _ hb => by have := hF1 b hb; omega)).trans (sub m4')
      have e3 : Mod (fun b => n0 ≤ b) w3' W6 := (e2.trans (mB.mono fun b _ hb => by have := hF1 b hb; omega)).trans (sub m6')
      exact (e3.trans (mD.mono fun b _ hb => by have := hF2 b hb; omega)).trans (sub m8')
    clear oA oA5 oA7 oB oB7 oD qA qA4 qB qL7 qK3 qK5 qK6 qD
    generalize he : (S.mark c p false).1 = e
    generalize hf : ((S.mark c p false).2.2.mark c q false).1 = f
    generalize hg : (S.mark c q false).1 = g
    refine JoinW.at (fun s W' => s = (.bool (decide (e ≠ 0 ∨ f ≠ 0 ∨ g ≠ 0)), ()) ∧ W' = W8) ?_ ?_
    · by_cases e1 : e = 0
      · by_cases e2 : f = 0
        · by_cases e3 : g = 0 <;> simp [go_sem, e1, e2, e3]
        · simp [go_sem, e1, e2]
      · simp [go_sem, e1]
    rintro _ W8' ⟨rfl, rfl⟩
    unfold J5_5
    intro _
    by_cases hb : e ≠ 0 ∨ f ≠ 0 ∨ g ≠ 0
    · simp only [decide_eq_true hb, ifB_bool, if_true]
      refine ca_known fun w9 m9 => ?_
      have gr9 := m9.keep gr8 id
      simp [go_sem, hp_of gr9]
      exact hK _ (fin ((mAll.trans (sub m9)).setCell (b := n0 + 1) (.inl (by omega)) _ _))
    simp only [decide_eq_false hb, ifB_bool, Bool.false_eq_true, if_false]
    obtain ⟨rfl, rfl, rfl⟩ : e = 0 ∧ f = 0 ∧ g = 0 := by
      refine ⟨?_, ?_, ?_⟩ <;> exact Classical.byContradiction fun hx => hb (by simp [hx])
    obtain ⟨hc0, hp1, hp2, a1, a2⟩ := mark_ok0 he
    obtain ⟨-, hq1, hq2, b1, b2⟩ := mark_ok0 hf
    obtain ⟨-, -, -, d1, d2⟩ := mark_ok0 hg
    rw [a1] at oA8
    rw [b1, a2] at oB8
    rw [d1] at oD8
    rw [b2, a2] at qL8
    rw [d2] at qD8
    have pw := fun n => path_won hs (c := c) (p := p) (q := q) n
    have pp := fun n => path_pos hs (c := c) (p := p) (q := q) n
    have ba1 := fun n => won_bd hok c p n ⟨hp1, hp2⟩
    have ba2 := fun n => won_bd hok c q n ⟨hq1, hq2⟩
    have lA : ((S.holders c).map fun x => (x.a, x.q * p - x.b)).length ≤ 300 := by
      have : (S.holders c).length ≤ S.held.length := List.length_filter_le ..
      simp; omega
    have lD : ((S.holders c).map fun x => (x.a, x.q * q - x.b)).length ≤ 300 := by
      have : (S.holders c).length ≤ S.held.length := List.length_filter_le ..
      simp; omega
    have hS1 : SortP (S.marked (S.holders c) p false).held := marked_sort hs
    have lB : (((S.marked (S.holders c) p false).holders c).map fun x => (x.a, x.q * q - x.b)).length ≤ 300 := by
      have h1 : ((S.marked (S.holders c) p false).holders c).length ≤ (S.marked (S.holders c) p false).held.length := List.length_filter_le ..
      rw [a2] at lenA
      simp; omega
    have again := path_again hS1 (c := c) (q := q)
    have lenB : ((S.marked (S.holders c) p false).marked ((S.marked (S.holders c) p false).holders c) q false).held.length ≤ 300 := by
      have := Led.mark_len okA c q false
      rw [a2] at this lenA
      rw [a2] at b2
      rw [b2] at this
      omega
    have okB := qL8.ok
    have mk2 := mark_of (S := (S.marked (S.holders c) p false).marked ((S.marked (S.holders c) p false).holders c) q false) false hc0 ⟨hq1, hq2⟩
    obtain ⟨-, -, -, g1, g2⟩ := mark_ok0 mk2
    generalize (S.marked (S.holders c) p false).marked ((S.marked (S.holders c) p false).holders c) q false = SL at qL8 pp again lenB okB mk2 g1 g2
    generalize S.marked (S.holders c) q false = SK at qD8 pp
    generalize ((S.holders c).map fun x => (x.a, x.q * p - x.b)) = LA at oA8 pw ba1 lA
    generalize (((S.marked (S.holders c) p false).holders c).map fun x => (x.a, x.q * q - x.b)) = LB at oB8 pw lB
    generalize ((S.holders c).map fun x => (x.a, x.q * q - x.b)) = LD at oD8 pw ba2 lD
    have nbl : bl ≠ W8'.heap.size := by have := lt_of_heap gl8; omega
    obtain ⟨bf, hbf⟩ : ∃ bf, bf = W8'.heap.size := ⟨_, rfl⟩
    rw [← hbf] at nbl
    simp [go_sem, hp_of gl8, ← hbf, nbl, run_store_func]
    generalize hW9 : World.alloc _ _ = W9
    have m9 : Mod (fun _ => False) W8' W9 := by subst hW9; exact (Mod.refl _ W8').alloc _
    have gf9 : hp W9 bf = some (.cells #[.func (.func 19) #[] #[]] 52 (0, 0)) := by subst hW9 hbf; simp [go_sem]
    refine ca_accounts (qL8.mod m9 fun _ _ h => h) fun gv1 W10 tl1 m10 => ?_
    obtain ⟨f1, cap1, rfl⟩ := tl1.fn
    have gl10 := (m9.trans m10).keep gl8 id
    simp [go_sem, hp_of gl10, eql_func_nil tSeqA]
    refine ca_accounts ((qL8.mod m9 fun _ _ h => h).mod m10 fun _ _ h => h) fun gv2 W11 tl2 m11 => ?_
    obtain ⟨Ok, hit, hOk⟩ := tl2.out
    have m811 : Mod (fun _ => False) W8' W11 := (m9.trans m10).trans m11
    have hl := m811.keep gl8 id
    have hcx := m811.keep gc8 id
    have hr := m811.keep gr8 id
    have hk := m811.keep gk8 id
    have ha := m811.keep ga8 id
    have hb' := m811.keep gb8 id
    have hd := m811.keep gd8 id
    have hfn := (m10.trans m11).keep gf9 id
    have oA := oA8.mod m811 fun _ _ h => h
    have oB := oB8.mod m811 fun _ _ h => h
    have oD := oD8.mod m811 fun _ _ h => h
    have qL := qL8.mod m811 fun _ _ h => h
    have qD := qD8.mod m811 fun _ _ h => h
    have mAll11 := mAll.trans (sub m811)
    clear oA8 oB8 oD8 qL8 qD8
    have e3 : ∀ o, Mod (fun _ => False) W11 ((W11.alloc (.deferred (some []))).alloc (.loop o)) := fun o => ((Mod.refl _ W11).alloc _).alloc _
    let J : (Nat → Prop) → Nat → World → Prop := fun Q j W => Mod (fun _ => False) W11 W ∧ hp W W11.heap.size = some (.deferred (some [])) ∧ ∀ b, Q b → W11.heap.size + 1 < b ∧ b < W.heap.size
    refine RFW_topN hit (by simp) J (fun _ _ => False) (fun o => hOk _ (e3 o)) ?_ ?_ ?_ ?_ (fun _ _ _ h => h.elim)
    · intro o Q W1 mo hQ
      have hdd : hp ((W11.alloc (.deferred (some []))).alloc (.loop o)) W11.heap.size = some (.deferred (some [])) := by simp [go_sem]
      exact ⟨(e3 o).trans mo, mo.keep hdd id, hQ⟩
    · rintro Q j X X' ⟨j1, j2, j3⟩ mm
      exact ⟨j1.on mm fun b hb => .inr (by omega), mm.keep j2 (by omega), fun b hb => ⟨(j3 b hb).1, Nat.lt_of_lt_of_le (j3 b hb).2 mm.size⟩⟩
    · rintro Q j x X r hx ⟨j1, j2, j3⟩ hrec hready KN' KJ' hKN' hKJ'
      obtain ⟨ac, hac, rfl⟩ : ∃ ac, SL.all[j]? = some ac ∧ x = [acV ac] := by
        simp only [List.getElem?_map] at hx
        cases hh : SL.all[j]? with
        | none => rw [hh] at hx; cases hx
        | some ac => rw [hh] at hx; exact ⟨ac, rfl, (Option.some.inj hx).symm⟩
      obtain ⟨rc, hrc⟩ : ∃ rc, rc = W11.heap.size + 1 := ⟨_, rfl⟩
      rw [← hrc] at hrec hKN' j3 ⊢
      have hrl := lt_of_heap hrec
      unfold R5_3
      simp [go_sem, acV]
      refine beginK_of (r := r) ?_ hready ?_
      · rw [heap_alloc, if_neg (by omega)]
        exact hrec
      generalize hX2 : World.putObj _ _ _ = X2
      have mX : Mod (fun b => b = rc) X X2 := by subst hX2; exact ((Mod.refl (fun b => b = rc) X).alloc _).putObj (b := rc) (.inl rfl) _
      have mX2 : Mod (fun _ => False) W11 X2 := j1.on mX fun b hb => .inr (by omega)
      have gx : hp X2 X.heap.size = some (.cells #[.int .u32 ac.num, .int .i64 ac.cash, .bool ac.kil, .bool ac.dfl] 34 (0, 0)) := by subst hX2; simp [go_sem, show X.heap.size ≠ rc by omega]
      have grc : hp X2 rc = some (.loop { r with state := .busy }) := by subst hX2; simp [go_sem, show rc ≠ X.heap.size by omega, hp_of hrec]
      have xl := mX2.keep hl id
      have xc := mX2.keep hcx id
      have xk := mX2.keep hk id
      have xa := mX2.keep ha id
      have xb := mX2.keep hb' id
      have xd := mX2.keep hd id
      have xf := mX2.keep hfn id
      have dr : Mod (fun _ => False) X2 X2.drew := (Mod.refl _ X2).drew
      refine JoinW.at (fun s W' => s = (.bool false, ()) ∧ Mod (fun _ => False) X2 W') ?_ ?_
      · simp [go_sem, hp_of xl, hp_of xc, hp_of xk, hp_of xa, hp_of xb, hp_of xd, hp_of xf, hp_of gx]
        refine ca_won ((oA.rd.mod mX2 fun _ _ h => h).mod dr fun _ _ h => h) (by omega) ?_
        simp [go_sem, hp_of xl, hp_of xc, hp_of xk, hp_of xa, hp_of xb, hp_of xd, hp_of xf, hp_of gx]
        refine ca_won ((oB.rd.mod mX2 fun _ _ h => h).mod dr fun _ _ h => h) (by omega) ?_
        have hbA := ba1 ac.num
        have hbD := ba2 ac.num
        have hpw := pw ac.num
        have hwr : IntKind.i64.wrap (wonBy LA ac.num + wonBy LB ac.num) = wonBy LD ac.num := by rw [hpw, IntKind.wrap_i64]; omega
        simp [go_sem, hp_of xl, hp_of xc, hp_of xk, hp_of xa, hp_of xb, hp_of xd, hp_of xf, hp_of gx, hwr]
        refine ca_won ((oD.rd.mod mX2 fun _ _ h => h).mod dr fun _ _ h => h) (by omega) ?_
        simp [go_sem, hp_of xl, hp_of xc, hp_of xk, hp_of gx]
        have qLd := (qL.mod mX2 fun _ _ h => h).mod dr fun _ _ h => h
        have qDd := (qD.mod mX2 fun _ _ h => h).mod dr fun _ _ h => h
        refine ca_position qLd fun Y1 n1 => ?_
        have n1' := dr.trans n1
        have y1 := n1'.keep gx id
        have y2 := n1'.keep xc id
        have y3 := n1'.keep xk id
        simp [go_sem, hp_of y1, hp_of y2, hp_of y3, poV]
        refine ca_position (qDd.mod n1 fun _ _ h => h) fun Y2 n2 => ?_
        rw [pp ac.num]
        simp [go_sem, poV]
        exact n1'.trans n2
      rintro _ X3 ⟨rfl, mX3⟩
      unfold J5_0
      intro _
      simp only [ifB_bool, Bool.false_eq_true, if_false]
      refine hKN' X3 ⟨mX2.trans mX3, mX3.keep (mX.keep j2 (by omega)) id, fun b hb => ⟨by have := (j3 b hb).1; omega, by have := (j3 b hb).2; have := mX.size; have := mX3.size; omega⟩⟩ (mX3.keep grc id) fun b hb => ?_
      have := j3 b hb
      rw [mX3.blk b (by have := mX.size; omega) id, mX.blk b this.2 (by omega)]
    · rintro Q X o ⟨j1, j2, j3⟩
      unfold A5_4
      simp only [afterK]
      generalize hX2 : X.putObj (W11.heap.size + 1) (.loop o) = X2
      have mX : Mod (fun b => b = W11.heap.size + 1) X X2 := by subst hX2; exact (Mod.refl (fun b => b = W11.heap.size + 1) X).putObj (.inl rfl) _
      have mX2 : Mod (fun _ => False) W11 X2 := j1.on mX fun b hb => .inr (by omega)
      have gd2 := mX.keep j2 (by omega)
      have xl := mX2.keep hl id
      have xc := mX2.keep hcx id
      have xr := mX2.keep hr id
      simp [go_sem, hp_of xl, hp_of xc]
      have hrL : n0 + 1 < W11.heap.size := lt_of_heap hr
      refine ca_mark ((qL.mod mX2 fun _ _ h => h)) (by omega) fun X3 vH qH oH mH fH => ?_
      rw [g1] at oH
      rw [mk2]
      have r3 := mH.keep xr (fun hf => by have := hF1 _ hf; omega)
      have d3 := mH.keep gd2 (fun hf => by have := hFl _ hf; have := lt_of_heap hl; omega)
      have mX3 : Mod (fun b => n0 ≤ b) w3' X3 := (mAll11.trans (sub mX2)).trans (mH.mono fun b _ hb => by have := hF1 b hb; omega)
      have lH : ((SL.holders c).map fun x => (x.a, x.q * q - x.b)).length ≤ 300 := by
        have : (SL.holders c).length ≤ SL.held.length := List.length_filter_le ..
        simp; omega
      generalize ((SL.holders c).map fun x => (x.a, x.q * q - x.b)) = LH at oH again lH
      obtain ⟨ha', hc', hvH, -⟩ := oH.isSl
      subst hvH
      simp [go_sem]
      refine loopK (fun s W' => ∃ j : Nat, j ≤ LH.length ∧ s = (.int .i64 j, ()) ∧ W' = X3)
        (fun s _ => match s.1 with | .int _ i => LH.length - i.toNat | _ => 0) ⟨0, by omega, rfl, rfl⟩ ?_
      rintro ⟨_, _⟩ W' ⟨j, hj, ⟨⟩, rfl⟩ KN5 hKN5
      unfold L5_1
      intro _
      by_cases hjl : j < LH.length
      · obtain ⟨b', off', cap', hsl', hAt'⟩ := Rd.elemR oH.rd hjl
        cases hsl'
        rw [flat_get cellsVa 2 _ _ (fun _ _ => rfl) hjl] at hAt'
        obtain ⟨D, e', fz', hD, hDg⟩ := hAt'.get
        have hD1 : D[off' + (j * 2 + 1)]? = some (.int .i64 0) := by
          have h1 := hDg 1 _ rfl
          rw [again _ (List.getElem_mem hjl)] at h1
          rwa [Nat.add_assoc] at h1
        have hwj := wrap_add1' (i := j) (by omega)
        simp [-Int.natCast_add, go_sem, hjl, hD, hD1, hwj]
        exact hKN5 _ _ ⟨j + 1, by omega, rfl, rfl⟩ (by simp; omega)
      · obtain rfl : j = LH.length := by omega
        simp [go_sem]
        refine ca_known fun X4 m4 => ?_
        have r4 := m4.keep r3 id
        have d4 := m4.keep d3 id
        have hne : W11.heap.size ≠ n0 + 1 := by omega
        simp [go_sem, hp_of r4, retD_hp, retD_nil, hp_of d4, hne, Ne.symm hne, d4]
        refine hK _ (fin ?_)
        exact ((mX3.trans (sub m4)).setCell (b := n0 + 1) (.inl (by omega)) _ _).putObj (b := W11.heap.size) (.inl (by omega)) _
end Go.Proofs
