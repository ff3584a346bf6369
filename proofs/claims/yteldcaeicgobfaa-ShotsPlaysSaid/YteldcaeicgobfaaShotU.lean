/-
  The walk of ShotsPlays.
  Conditions: where they ask for any, each theorem names them.
-/
import Derived.Test.YteldcaeicgobfaaShotT
set_option linter.unusedVariables false
set_option linter.unusedSimpArgs false
namespace Go.Proofs
open Go Go.Vc

def goodO (o : SOp) : Bool := decide (o.x.data.length ≤ 3000) && decide (o.bs.length ≤ 1000) && decide (0 ≤ o.n) && triedB o.ts

set_option maxRecDepth 10000 in
theorem ca_shotsPlays {w : World} {K : Kont} {l : List SOp} {a0 : Value} (h : Rd w 7 a0 l.length (l.flatMap sopCells)) (hok : ∀ o ∈ l, SOpOk w o) (hK : ∀ w', Mod (fun _ => False) w w' → K (.bool true) w') :
    Ca Try.prog 11 #[a0] w K := by
  obtain ⟨la, lc, rfl⟩ := h.isSl
  apply ca11
  unfold F11
  refine rn_lenO21 ?_
  by_cases h60 : 60 < l.length
  · have h60' : (60 : Int) < l.length := by omega
    refine rv_of (v := .bool true) (w' := w) (by simp [go_sem, h60']) ?_
    rw [ifB_bool, if_pos rfl]
    exact ca_known21 hK
  have h60' : ¬ (60 : Int) < l.length := by omega
  refine rv_of (v := .bool false) (w' := w) (by simp [go_sem, h60']) ?_
  rw [ifB_bool, if_neg (by simp)]
  refine ca_new fun w1 d1 m1 => ?_
  obtain ⟨o1, o2, o3, o4⟩ := open_law d1.len fs42_ne fs42_ok (spend_new fs42)
  have h0 := o3 rfl
  obtain ⟨-, hid, hmn⟩ := o1.resolve_right fun h => by rw [h0] at h; exact absurd h.1 (by decide)
  refine ca_sopen (fs := fs42) d1 (by simp [DM.new]) (fun w' F' h => absurd h0 h) fun w2 F2 vb G R _ d2 s2 hv nG => ?_
  generalize (DM.new.sopen fs42).2 = X at d2 hv o2 o4 hid hmn
  obtain ⟨D2, z, k2, cl2, ms⟩ := X
  simp only at d2 hv o2 o4 hid hmn
  obtain rfl : z = shot0 := hmn.resolve_right fun h => by cases h
  obtain ⟨d, hd⟩ : ∃ d, w.heap.size = d := ⟨_, rfl⟩
  rw [hd] at d1 d2 s2 hv
  have hd1 : d < w1.heap.size := d1.lt d1.self
  have mw2 : Mod (fun _ => False) w w2 := m1.on s2.mod fun b hb => .inr (by show w.heap.size ≤ b; omega)
  have new2 : ∀ b, F2 b → w.heap.size ≤ b := fun b hb => by
    rcases s2.sub b hb with h | h
    · omega
    · have := m1.size; omega
  have Gn : ∀ y, G y → w.heap.size ≤ y := fun y hy => by have := (nG y (.inl hy)).1; have := m1.size; omega
  rw [hd]
  refine rv_of (v := dptr vb) (w' := w2) (by simp [go_sem]) ?_
  refine rv_of (v := .int .i64 0) (w' := w2) (by simp [go_sem]) ?_
  refine rv_of (v := .bool false) (w' := w2) (by simp [go_sem]) ?_
  rw [ifB_bool, if_neg (by simp)]
  refine rv_of (shot_zero w2) ?_
  refine rv_shvar fun w3 q1 mA hq1 hA zA => ?_
  refine ru_shot hA ⟨_, _, _, rfl⟩ fun w4 m4 h4 => ?_
  refine rv_of (sload h4).2.2.2 ?_
  refine rv_shvar fun w5 q2 mB hq2 hB zB => ?_
  refine ru_shot hB ⟨_, _, _, rfl⟩ fun w6 m6 h6 => ?_
  have l1 := lt_of_heap hA
  have l2 := lt_of_heap h4
  have m26 : Mod (fun _ => False) w2 w6 := ((mA.on m4 fun b e => .inr (by omega)).trans mB).on m6 fun b e => .inr (by have := m4.size; omega)
  have q12 : q1 ≠ q2 := by omega
  have hQ1 : hp w6 q1 = some (.cells (shotC shot0 (.slice none 0 0)).toArray 83 (0, 0)) := m6.keep (mB.keep h4 id) q12
  have r0 : ShR w6 shot0 (.slice none 0 0) := ⟨by simp [shot0], .inl ⟨rfl, _, _, rfl⟩⟩
  have no : ∀ y, ¬ inRd (.slice none 0 0) y := fun y hu => by obtain ⟨_, _, _, e, _⟩ := hu; cases e
  have q1n : w2.heap.size ≤ q1 := by omega
  have q2n : w2.heap.size ≤ q2 := by omega
  have GRq : ∀ y, G y ∨ R y → y ≠ q1 ∧ y ≠ q2 := fun y hy => by have := hv.lt hy; omega
  have S0 : SSt w w6 d q1 q2 F2 D2 k2 shot0 none shot0 (.slice none 0 0) (.slice none 0 0) := ⟨d2.mod m26 fun _ _ h => h, mw2.trans m26, new2, fun h => by have := d2.lt h; omega, fun h => by have := d2.lt h; omega, q12, by have := mw2.size; omega, by have := mw2.size; omega,
    ⟨hQ1, r0, fun y hy => absurd hy (no y), fun y hy => absurd hy (no y)⟩, ⟨h6, r0, fun y hy => absurd hy (no y), fun y hy => absurd hy (no y)⟩, .inl ⟨rfl, rfl⟩, by omega, fun keep torn => hid.crash d2.len keep torn⟩
  have O0 : SOn w w6 d q1 q2 vb F2 D2 k2 shot0 ms G R (.slice none 0 0) (.slice none 0 0) := ⟨hid, hv.mod m26 fun _ _ h => h, fun y hy => (nG y hy).2, Gn, GRq, fun y _ => ⟨no y, no y⟩⟩
  unfold L11_5
  refine loopK (fun s W => ∃ (i : Nat) (x v : Value) (off : Bool), i ≤ l.length ∧ s = (x, v, .bool off, .int .i64 i, ()) ∧ SGood w W d q1 q2 v off)
    (fun s _ => match s.2.2.2.1 with | .int _ i => l.length - i.toNat | _ => 0) ⟨0, _, _, false, by omega, rfl, F2, D2, k2, shot0, none, shot0, _, _, S0, fun _ => ⟨rfl, vb, ms, G, R, rfl, O0⟩⟩ ?_
  clear S0 O0 hQ1 m26 l1 l2 h6 m6 hB mB h4 m4 hA mA hv s2 d2 d1 m1 mw2 new2 GRq q1n q2n no r0 Gn nG hid o1 o2 o3 o4 hmn h0 zA zB hq1 hq2
  rintro ⟨x0, _⟩ W ⟨i, x, v, off, hi, ⟨⟩, hG⟩ KN hKN _
  have hw1 : IntKind.i64.wrap ((i : Int) + 1) = ((i + 1 : Nat) : Int) := by rw [IntKind.wrap_i64]; omega
  by_cases hlt : i < l.length
  · have hlt' : (i : Int) < l.length := by omega
    obtain ⟨b, of, cap, C, e, fz, hv, hC, c0, c1, c2, c3, c4, c5, c6⟩ := sop_cells h hlt
    have ho := hok _ (List.getElem_mem hlt)
    obtain ⟨F, D, k, xs, op, x2, sl1, sl2, hS, hO⟩ := hG
    have hCW : hp W b = some (.cells C e fz) := hS.mod.keep hC id
    obtain ⟨o, hoo⟩ : ∃ o, l[i] = o := ⟨_, rfl⟩
    rw [hoo] at c0 c1 c2 c3 c4 c5 c6 ho
    obtain ⟨sa, sc, hoS⟩ := ho.sl.isSl
    obtain ⟨ba, bc, hoB⟩ := ho.rd.isSl
    obtain ⟨ma, mc, hoM⟩ := ho.more.isSl
    refine rn_lenO21 ?_
    refine rv_of (v := .bool true) (w' := W) (by simp [go_sem, hlt']) ?_
    rw [ifB_bool, if_pos rfl]
    refine joinK (fun s W' => ∃ v' off', s = (.bool off', v', x0, ()) ∧ SGood w W' d q1 q2 v' off') (fun JJ hJJ => ?_) ?_
    · rw [hv]
      refine rv_of (v := .pointer (some ⟨b, of + i * 7, none⟩)) (w' := W) (by simp [go_sem, hlt]) ?_
      refine rv_of (v := .agg (sopCells o).toArray) (w' := W) (by simp [go_sem, hCW, c0, c1, c2, c3, c4, c5, c6, sopCells]) ?_
      have hal2 : (Instr.alloc 98 true (.tuple #[])).run Try.prog W = .ok (.pointer (some ⟨W.heap.size, 0, none⟩)) (W.alloc (.cells [.int .i64 0, .int .i64 0, .int .u64 0, .int .u64 0, .slice none 0 0, .slice none 0 0, .slice none 0 0].toArray 98)) := by simp [go_sem]
      refine rv_of hal2 ?_
      have mA : Mod (fun _ => False) W (W.alloc (.cells [.int .i64 0, .int .i64 0, .int .u64 0, .int .u64 0, .slice none 0 0, .slice none 0 0, .slice none 0 0].toArray 98)) := (Mod.refl _ W).alloc _
      have hA : hp (W.alloc (.cells [.int .i64 0, .int .i64 0, .int .u64 0, .int .u64 0, .slice none 0 0, .slice none 0 0, .slice none 0 0].toArray 98)) W.heap.size = some (.cells [.int .i64 0, .int .i64 0, .int .u64 0, .int .u64 0, .slice none 0 0, .slice none 0 0, .slice none 0 0].toArray 98 (0, 0)) := by simp only [hp_alloc, if_pos]
      generalize (W.alloc (.cells [.int .i64 0, .int .i64 0, .int .u64 0, .int .u64 0, .slice none 0 0, .slice none 0 0, .slice none 0 0].toArray 98)) = W1 at mA hA
      obtain ⟨p, hp0⟩ : ∃ p, W.heap.size = p := ⟨_, rfl⟩
      rw [hp0] at hA ⊢
      refine sop_copy rfl ⟨_, _, _, hoS⟩ ⟨_, _, _, hoB⟩ ⟨_, _, _, hoM⟩ hA fun W2 mp hP => ?_
      have mW : Mod (fun _ => False) W W2 := mA.on mp fun b e => .inr (by omega)
      have S2 := hS.mod0 mW
      have pF : ¬ F p := fun h => by have := hS.disk.lt h; omega
      have hO2 : off = false → op = none ∧ ∃ vb ms G R, v = dptr vb ∧ ¬ G p ∧ SOn w W2 d q1 q2 vb F D k xs ms G R sl1 sl2 := fun h => by
        obtain ⟨h1, vb, ms, G, R, h2, h3⟩ := hO h
        exact ⟨h1, vb, ms, G, R, h2, fun hg => by have := h3.at_.lt (.inl hg); omega, h3.mod0 mW⟩
      obtain ⟨f0, f1, f2, f3, f4, hld⟩ := sop_ld (p := p) (o := o) ⟨_, _, _, hoS⟩ ⟨_, _, _, hoB⟩ ⟨_, _, _, hoM⟩
      obtain ⟨l0, l1, l2, l3, l4, l5, l6⟩ := hld W2 hP
      have hJ : ∀ W' v' off', SGood w W' d q1 q2 v' off' → JJ (.bool off', v', x0, ()) W' := fun W' v' off' hg => hJJ _ _ ⟨v', off', rfl, hg⟩
      refine joinK (fun s W' => s = (.bool (!goodO o), ()) ∧ W' = W2) (fun JC hJC => ?_) ?_
      · obtain ⟨-, -, g2⟩ := sfield (q := p) (o := 2)
        refine rv_of (f2 W2) ?_
        refine rv_of (g2 W2) ?_
        refine rv_of l4 ?_
        rw [hoS]
        refine rn_len23 ?_
        by_cases hx3 : o.x.data.length ≤ 3000
        · have hh : ¬ (3000 : Int) < o.x.data.length := by omega
          refine rv_of (v := .bool false) (w' := W2) (by simp [go_sem, hh]) ?_
          rw [ifB_bool, if_neg (by simp)]
          refine rv_of (f3 W2) ?_
          refine rv_of l5 ?_
          rw [hoB]
          refine rn_len23 ?_
          by_cases hb : o.bs.length ≤ 1000
          · have hh : ¬ (1000 : Int) < o.bs.length := by omega
            refine rv_of (v := .bool false) (w' := W2) (by simp [go_sem, hh]) ?_
            rw [ifB_bool, if_neg (by simp)]
            refine rv_of (f1 W2) ?_
            refine rv_of l1 ?_
            by_cases hn0 : 0 ≤ o.n
            · have hh : ¬ o.n < 0 := by omega
              refine rv_of (v := .bool false) (w' := W2) (by simp [go_sem, hh]) ?_
              rw [ifB_bool, if_neg (by simp)]
              refine rv_of (f4 W2) ?_
              refine rv_of l6 ?_
              refine ca_tried21 (ho.more.mod S2.mod fun _ _ h => h) (fun t ht => (ho.tries t ht).mod S2.mod) ?_
              refine rv_of (v := .bool (!triedB o.ts)) (w' := W2) (by simp [go_sem]) ?_
              exact hJC _ _ ⟨by simp [goodO, hx3, hn0, hb], rfl⟩
            · have hh : o.n < 0 := by omega
              refine rv_of (v := .bool true) (w' := W2) (by simp [go_sem, hh]) ?_
              rw [ifB_bool, if_pos rfl]
              exact hJC _ _ ⟨by simp [goodO, hn0], rfl⟩
          · have hh : (1000 : Int) < o.bs.length := by omega
            refine rv_of (v := .bool true) (w' := W2) (by simp [go_sem, hh]) ?_
            rw [ifB_bool, if_pos rfl]
            exact hJC _ _ ⟨by simp [goodO, hb], rfl⟩
        · have hh : (3000 : Int) < o.x.data.length := by omega
          refine rv_of (v := .bool true) (w' := W2) (by simp [go_sem, hh]) ?_
          rw [ifB_bool, if_pos rfl]
          exact hJC _ _ ⟨by simp [goodO, hx3], rfl⟩
      rintro _ _ ⟨rfl, rfl⟩
      rename_i W3
      cases hc : goodO o
      · unfold J11_3
        intro _
        rw [ifB_bool, if_pos (by simp)]
        exact hJ _ v off ⟨F, D, k, xs, op, x2, sl1, sl2, S2, fun h => by
          obtain ⟨h1, vb, ms, G, R, h2, -, h3⟩ := hO2 h
          exact ⟨h1, vb, ms, G, R, h2, h3⟩⟩
      · simp only [goodO, Bool.and_eq_true, decide_eq_true_eq] at hc
        obtain ⟨⟨⟨hx3, hb⟩, hn0⟩, htr⟩ := hc
        rw [show (!true) = false from rfl]
        by_cases hk2 : o.kind = 2
        · exact sround_crash S2 hP pF ho hk2 hn0 htr hJ
        cases off
        · obtain ⟨rfl, vb', ms, G, R, rfl, pG, hO'⟩ := hO2 rfl
          have hx2 : x2 = xs := by
            rcases hS.two with ⟨-, h⟩ | h
            · exact h
            · cases h
          subst hx2
          by_cases hk0 : o.kind = 0
          · exact sround_save S2 hO' hP pF pG ho hk0 hx3 hJ
          · exact sround_arm S2 hO' hP ho hk2 hk0 hn0 hJ
        · unfold J11_3
          intro _
          rw [ifB_bool, if_neg (by simp)]
          refine rv_of (f0 _) ?_
          refine rv_of l0 ?_
          refine rv_of (v := .bool false) (w' := W3) (by simp [go_sem, hk2]) ?_
          rw [ifB_bool, if_neg (by simp)]
          show ifB (.bool true) _ _
          rw [ifB_bool, if_pos rfl]
          exact hJ _ v true ⟨F, D, k, xs, op, x2, sl1, sl2, S2, fun h => by cases h⟩
    rintro _ W' ⟨v', off', rfl, hg⟩
    unfold J11_4
    intro _
    refine rv_of (v := .int .i64 ((i + 1 : Nat) : Int)) (w' := W') (by simp [-Int.natCast_add, go_sem, hw1]) ?_
    exact hKN _ _ ⟨i + 1, _, v', off', hlt, rfl, hg⟩ (by simp; omega)
  · have : i = l.length := by omega
    subst this
    obtain ⟨F, D, k, xs, op, x2, sl1, sl2, hS, hO⟩ := hG
    refine rn_lenO21 ?_
    refine rv_of (v := .bool false) (w' := W) (by simp [go_sem]) ?_
    rw [ifB_bool, if_neg (by simp)]
    exact ca_known21 fun w' m' => hK _ (hS.mod.trans m')
end Go.Proofs
