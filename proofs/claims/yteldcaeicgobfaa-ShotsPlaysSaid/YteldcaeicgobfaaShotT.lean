/-
  The rounds of ShotsPlays: a save; the power armed.
  Conditions: where they ask for any, each theorem names them.
-/
import Derived.Test.YteldcaeicgobfaaShotS
set_option linter.unusedVariables false
set_option linter.unusedSimpArgs false
namespace Go.Proofs
open Go Go.Vc

set_option maxRecDepth 10000 in
theorem sround_save {w W : World} {d q1 q2 p k vb : Nat} {F G R : Nat → Prop} {D : DM} {x : ShotM} {ms : Nat → List UInt8} {sl1 sl2 : Value} {o : SOp} {K : Kont} {J35 : Value × Value × Value × Unit → World → Prop} {x0 y0 : Value}
    (hS : SSt w W d q1 q2 F D k x none x sl1 sl2) (hO : SOn w W d q1 q2 vb F D k x ms G R sl1 sl2) (hP : hp W p = some (.cells (sopCells o).toArray 98 (0, 0))) (pF : ¬ F p) (pG : ¬ G p) (ho : SOpOk w o) (hk : o.kind = 0) (h3 : o.x.data.length ≤ 3000)
    (hJ : ∀ W' v' off', SGood w W' d q1 q2 v' off' → J35 (.bool off', v', x0, ()) W') :
    J11_3 J35 (x0, dptr vb, .bool false, y0, ()) (.pointer (some ⟨p, 0, none⟩)) (dptr d) K (.pointer (some ⟨q1, 0, none⟩)) (.pointer (some ⟨q2, 0, none⟩)) (.bool false, ()) W := by
  obtain ⟨sa, sc, hoS⟩ := ho.sl.isSl
  obtain ⟨ba, bc, hoB⟩ := ho.rd.isSl
  obtain ⟨ma, mc, hoM⟩ := ho.more.isSl
  obtain ⟨f0, f1, f2, f3, f4, hld⟩ := sop_ld (p := p) (o := o) ⟨_, _, _, hoS⟩ ⟨_, _, _, hoB⟩ ⟨_, _, _, hoM⟩
  have lX : ∀ W, hp W p = some (.cells (sopCells o).toArray 98 (0, 0)) → (Instr.loadAt 83 (.pointer (some ⟨p, 2, none⟩))).run Try.prog W = .ok (.agg (shotC o.x o.sl).toArray) W := fun W h => (hld W h).2.2.1
  obtain ⟨g0, -⟩ := sfield (q := p) (o := 2)
  unfold J11_3
  intro _
  rw [ifB_bool, if_neg (by simp)]
  refine rv_of (f0 W) ?_
  refine rv_of (hld W hP).1 ?_
  refine rv_of (v := .bool false) (w' := W) (by simp [go_sem, hk]) ?_
  rw [ifB_bool, if_neg (by simp)]
  show ifB (.bool false) _ _
  rw [ifB_bool, if_neg (by simp)]
  refine rv_of (f0 W) ?_
  refine rv_of (hld W hP).1 ?_
  refine rv_of (v := .bool true) (w' := W) (by simp [go_sem, hk]) ?_
  rw [ifB_bool, if_pos rfl]
  refine rv_of (f2 W) ?_
  refine rv_of (lX W hP) ?_
  have hw : D.waits.length < 10000000000 := by have := hS.few; omega
  have hid := hO.idle
  have sold : ∀ u, inRd o.sl u → u < w.heap.size := fun u hu => ho.sl.lt hu
  have sW : ShR W o.x o.sl := ho.sl.mod hS.mod fun _ _ h => h
  have hokx : o.x.ok := ⟨ho.x.1, ho.x.2.1, by omega⟩
  have hmayx : ∀ h : o.x.idx ≠ 0, o.x.may = true := fun h => by simp [ShotM.may, h]; omega
  -- what is asked behind a save
  have cmp : ∀ (W2 : World) (e : Int), hp W2 p = some (.cells (sopCells o).toArray 98 (0, 0)) → hp W2 q1 = some (.cells (shotC x sl1).toArray 83 (0, 0)) →
      (if o.x.idx ≤ x.idx then e = 2 ∧ J35 (.bool false, dptr vb, x0, ()) W2 else
        JoinW (S := Value × Unit) (fun J217 =>
         rv Try.prog (bin .eql 28 true (.int .i64 e) (.int .i64 180)) W2 fun v218 w219 =>
         ifB v218
         (Ca Try.prog 30 #[dptr d] w219 fun v220 w221 =>
         J217 (v220, ()) w221)
         (J217 ((.bool false), ()) w219))
         (J11_2 (.pointer (some ⟨p, 0, none⟩)) (.pointer (some ⟨q2, 0, none⟩)) J35 (x0, dptr vb, .bool false, y0, ()) (.int .i64 e) K (.pointer (some ⟨q1, 0, none⟩)))) →
      rv Try.prog (Instr.fieldAt 98 (.pointer (some ⟨p, 0, none⟩)) 2) W2 fun v201 w202 =>
       rv Try.prog (Instr.fieldAt 83 v201 0) w202 fun v203 w204 =>
       rv Try.prog (Instr.loadAt 27 v203) w204 fun v205 w206 =>
       rv Try.prog (Instr.fieldAt 83 (.pointer (some ⟨q1, 0, none⟩)) 0) w206 fun v207 w208 =>
       rv Try.prog (Instr.loadAt 27 v207) w208 fun v209 w210 =>
       rv Try.prog (bin .leq 27 false v205 v209) w210 fun v211 w212 =>
       ifB v211
       (rv Try.prog (bin .neq 28 true (.int .i64 e) (.int .i64 2)) w212 fun v213 w214 =>
       ifB v213
       (K (.bool false) w214)
       (J35 (.bool false, dptr vb, x0, ()) w214))
       (JoinW (S := Value × Unit) (fun J217 =>
       rv Try.prog (bin .eql 28 true (.int .i64 e) (.int .i64 180)) w212 fun v218 w219 =>
       ifB v218
       (Ca Try.prog 30 #[dptr d] w219 fun v220 w221 =>
       J217 (v220, ()) w221)
       (J217 ((.bool false), ()) w219))
       (J11_2 (.pointer (some ⟨p, 0, none⟩)) (.pointer (some ⟨q2, 0, none⟩)) J35 (x0, dptr vb, .bool false, y0, ()) (.int .i64 e) K (.pointer (some ⟨q1, 0, none⟩)))) := by
    intro W2 e hP2 hq1 h
    obtain ⟨e0, -⟩ := sfield (q := q1) (o := 0)
    obtain ⟨a1, n1, c1, h1⟩ := hS.sure.isSl
    rw [h1] at hq1
    refine rv_of (f2 _) ?_
    refine rv_of (g0 _) ?_
    refine rv_of (hld W2 hP2).2.2.2.1 ?_
    refine rv_of (e0 _) ?_
    refine rv_of (sload hq1).1 ?_
    have hi := hokx.1
    refine rv_of (v := .bool (decide (o.x.idx ≤ x.idx))) (w' := W2) (by simp [go_sem]) ?_
    by_cases hc : o.x.idx ≤ x.idx
    · rw [if_pos hc] at h
      rw [decide_eq_true hc, ifB_bool, if_pos rfl]
      refine rv_of (v := .bool false) (w' := W2) (by simp [go_sem, h.1]) ?_
      rw [ifB_bool, if_neg (by simp)]
      exact h.2
    · rw [if_neg hc] at h
      rw [decide_eq_false hc, ifB_bool, if_neg (by simp)]
      exact h
  refine ca_ssave hO.at_ hS.disk hO.nF hid.k1 ho.x sW hw (fun hb W2 m2 => ?_) (fun hmay hlt he W2 F2 d2 m2 nF2 => ?_) (fun hmay hlt he W2 F2 ms' R' d2 m2 nF2 hQ hms nR' gF => ?_)
  · -- it is refused
    have hle : o.x.idx ≤ x.idx := by
      rcases hb with h | h
      · by_cases h0 : o.x.idx = 0
        · omega
        · rw [hmayx h0] at h; cases h
      · exact h
    refine cmp W2 2 (m2.keep hP id) (m2.keep hS.sure.at_ id) ?_
    rw [if_pos hle]
    exact ⟨rfl, hJ _ _ _ ⟨F, D, k, x, none, x, sl1, sl2, hS.mod0 m2, fun _ => ⟨rfl, vb, ms, G, R, rfl, hO.mod0 m2⟩⟩⟩
  · -- the power went
    have hnl : ¬ o.x.idx ≤ x.idx := by omega
    obtain ⟨hsv, hfew⟩ := save_law hS.disk.len d2.len fs42_ne fs42_ok hid hokx hmay hlt
    obtain ⟨h180, hoff, hpe⟩ := hsv.resolve_left fun h => he h.1
    have hsn : secN o.x.data.length ≤ 100 := by unfold secN; omega
    have pn : ∀ u, F u ∨ G u → u ≠ p := fun u hu e => by
      rcases hu with h | h
      · exact pF (e ▸ h)
      · exact pG (e ▸ h)
    have hP2 := m2.keep hP fun h => pn _ h rfl
    have nq : ∀ u, F u ∨ G u → u ≠ q1 ∧ u ≠ q2 := fun u hu => by
      rcases hu with h | h
      · exact ⟨fun e => hS.q1F (e ▸ h), fun e => hS.q2F (e ▸ h)⟩
      · exact hO.nq u (.inl h)
    have hq1 := m2.keep hS.sure.at_ fun h => (nq _ h).1 rfl
    have hq2 := m2.keep hS.may.at_ fun h => (nq _ h).2 rfl
    refine cmp W2 _ hP2 hq1 ?_
    rw [if_neg hnl, h180]
    refine joinK (fun s W3 => s = (.bool true, ()) ∧ W3 = W2) (fun JJ hJJ => ?_) ?_
    · refine rv_of (v := .bool true) (w' := W2) (by simp [go_sem]) ?_
      rw [ifB_bool, if_pos rfl]
      refine ca_down d2 ?_
      rw [hoff]
      exact hJJ _ _ ⟨rfl, rfl⟩
    rintro _ _ ⟨rfl, rfl⟩
    rename_i W3
    unfold J11_2
    intro _
    rw [ifB_bool, if_pos rfl]
    refine rv_of (f2 _) ?_
    refine rv_of (lX _ hP2) ?_
    refine ru_shot hq2 ⟨_, _, _, hoS⟩ fun W4 m4 h4 => ?_
    have nold : ∀ u, F u ∨ G u → w.heap.size ≤ u := fun u hu => by
      rcases hu with h | h
      · exact hS.new u h
      · exact hO.Gn u h
    have hws := hS.mod.size
    have F2n : ∀ u, F2 u → w.heap.size ≤ u := fun u hu => by
      rcases nF2 u hu with h | h
      · exact hS.new u h
      · omega
    have nF2' : ∀ u, u < W.heap.size → ¬ F u → ¬ F2 u := fun u h1 h2 h => by
      rcases nF2 u h with h | h
      · exact h2 h
      · omega
    have q1F2 := nF2' q1 (lt_of_heap hS.sure.at_) hS.q1F
    have q2F2 := nF2' q2 (lt_of_heap hS.may.at_) hS.q2F
    have mw3 : Mod (fun _ => False) w W3 := hS.mod.on m2 fun b hb => .inr (nold b hb)
    have mw4 : Mod (fun _ => False) w W4 := mw3.on m4 fun b hb => .inr (by rw [hb]; exact hS.q2n)
    have r1 : ShR W4 x sl1 := (hS.sure.rd.mod m2 fun u hu h => by
      rcases h with h | h
      · exact hS.sure.nF u hu h
      · exact (hO.ns u h).1 hu).mod m4 fun u hu h => (hS.sure.nq u hu).2 h
    refine hJ W4 (dptr vb) true ⟨F2, _, k, x, some o.x, o.x, sl1, o.sl, ⟨d2.mod m4 fun b hb e => q2F2 (e ▸ hb), mw4, F2n, q1F2, q2F2, hS.q12, hS.q1n, hS.q2n, ⟨m4.keep hq1 hS.q12, r1, fun u hu => nF2' u (hS.sure.rd.lt hu) (hS.sure.nF u hu), hS.sure.nq⟩,
      ⟨h4, ho.sl.mod mw4 fun _ _ h => h, fun u hu h => ?_, fun u hu => ?_⟩, .inr rfl, by omega, hpe⟩, fun h => by cases h⟩
    · have := sold u hu; have := F2n u h; omega
    · have := sold u hu; have := hS.q1n; have := hS.q2n; omega
  · -- it lasts
    have hnl : ¬ o.x.idx ≤ x.idx := by omega
    obtain ⟨hsv, hfew⟩ := save_law hS.disk.len d2.len fs42_ne fs42_ok hid hokx hmay hlt
    have hid2 := (hsv.resolve_right fun h => by rw [he] at h; exact absurd h.1 (by decide)).2 ms' hms
    have hsn : secN o.x.data.length ≤ 100 := by unfold secN; omega
    have pn : ∀ u, F u ∨ G u → u ≠ p := fun u hu e => by
      rcases hu with h | h
      · exact pF (e ▸ h)
      · exact pG (e ▸ h)
    have hP2 := m2.keep hP fun h => pn _ h rfl
    have nq : ∀ u, F u ∨ G u → u ≠ q1 ∧ u ≠ q2 := fun u hu => by
      rcases hu with h | h
      · exact ⟨fun e => hS.q1F (e ▸ h), fun e => hS.q2F (e ▸ h)⟩
      · exact hO.nq u (.inl h)
    have hq1 := m2.keep hS.sure.at_ fun h => (nq _ h).1 rfl
    have hq2 := m2.keep hS.may.at_ fun h => (nq _ h).2 rfl
    refine cmp W2 _ hP2 hq1 ?_
    rw [if_neg hnl]
    generalize (D.ssave (fs42 (1 - k)) o.x (ms (1 - k))).2 = D2 at d2 hid2 hfew
    refine joinK (fun s W3 => s = (.bool false, ()) ∧ W3 = W2) (fun JJ hJJ => ?_) ?_
    · refine rv_of (v := .bool false) (w' := W2) (by simp [go_sem]) ?_
      rw [ifB_bool, if_neg (by simp)]
      exact hJJ _ _ ⟨rfl, rfl⟩
    rintro _ _ ⟨rfl, rfl⟩
    rename_i W3
    unfold J11_2
    intro _
    rw [ifB_bool, if_neg (by simp)]
    refine rv_of (v := .bool false) (w' := W3) (by simp [go_sem]) ?_
    rw [ifB_bool, if_neg (by simp)]
    refine rv_of (f2 _) ?_
    refine rv_of (lX _ hP2) ?_
    refine ru_shot hq1 ⟨_, _, _, hoS⟩ fun W4 m4 h4 => ?_
    have pq1 : p ≠ q1 := fun e => by
      have h1 := hS.sure.at_
      rw [← e, hP] at h1
      simp [sopCells, shotC] at h1
    have pq2 : p ≠ q2 := fun e => by
      have h1 := hS.may.at_
      rw [← e, hP] at h1
      simp [sopCells, shotC] at h1
    have hP4 := m4.keep hP2 pq1
    refine rv_of (f2 _) ?_
    refine rv_of (lX _ hP4) ?_
    refine ru_shot (m4.keep hq2 fun e => hS.q12 e.symm) ⟨_, _, _, hoS⟩ fun W5 m5 h5 => ?_
    have m35 : Mod (fun b => b = q1 ∨ b = q2) W3 W5 := (m4.mono fun b _ h => .inl h).trans (m5.mono fun b _ h => .inr h)
    have nold : ∀ u, F u ∨ G u → w.heap.size ≤ u := fun u hu => by
      rcases hu with h | h
      · exact hS.new u h
      · exact hO.Gn u h
    have hws := hS.mod.size
    have F2n : ∀ u, F2 u → w.heap.size ≤ u := fun u hu => by
      rcases nF2 u hu with h | h
      · exact hS.new u h
      · omega
    have nF2' : ∀ u, u < W.heap.size → ¬ F u → ¬ F2 u := fun u h1 h2 h => by
      rcases nF2 u h with h | h
      · exact h2 h
      · omega
    have q1l := lt_of_heap hS.sure.at_
    have q2l := lt_of_heap hS.may.at_
    have q1F2 := nF2' q1 q1l hS.q1F
    have q2F2 := nF2' q2 q2l hS.q2F
    have mw3 : Mod (fun _ => False) w W3 := hS.mod.on m2 fun b hb => .inr (nold b hb)
    have mw5 : Mod (fun _ => False) w W5 := mw3.on m35 fun b hb => .inr (by
      rcases hb with h | h
      · rw [h]; exact hS.q1n
      · rw [h]; exact hS.q2n)
    have r5 : ShR W5 o.x o.sl := ho.sl.mod mw5 fun _ _ h => h
    have nFs : ∀ u, inRd o.sl u → ¬ F2 u := fun u hu h => by have := sold u hu; have := F2n u h; omega
    have nqs : ∀ u, inRd o.sl u → u ≠ q1 ∧ u ≠ q2 := fun u hu => by have := sold u hu; have := hS.q1n; have := hS.q2n; omega
    have GRq : ∀ u, G u ∨ R' u → u ≠ q1 ∧ u ≠ q2 := fun u hu => by
      rcases hu with h | h
      · exact hO.nq u (.inl h)
      · have := nR' u h; omega
    refine hJ W5 (dptr vb) false ⟨F2, D2, 1 - k, o.x, none, o.x, o.sl, o.sl, ⟨d2.mod m35 fun b hb h => ?_, mw5, F2n, q1F2, q2F2, hS.q12, hS.q1n, hS.q2n, ⟨m5.keep h4 hS.q12, r5, nFs, nqs⟩, ⟨h5, r5, nFs, nqs⟩, .inl ⟨rfl, rfl⟩, by omega, fun keep torn => hid2.crash d2.len keep torn⟩, fun _ => ⟨rfl, vb, ms', G, R', rfl, hid2, hQ.mod m35 fun u hu h => ?_, gF, hO.Gn, GRq, fun u hu => ?_⟩⟩
    · rcases h with rfl | rfl
      · exact q1F2 hb
      · exact q2F2 hb
    · obtain ⟨h1, h2⟩ := GRq u hu
      rcases h with h | h
      · exact h1 h
      · exact h2 h
    · have := hO.Gn u hu
      have : ¬ inRd o.sl u := fun h => by have := sold u h; omega
      exact ⟨this, this⟩

theorem sround_arm {w W : World} {d q1 q2 p k vb : Nat} {F G R : Nat → Prop} {D : DM} {x : ShotM} {ms : Nat → List UInt8} {sl1 sl2 : Value} {o : SOp} {K : Kont} {J35 : Value × Value × Value × Unit → World → Prop} {x0 y0 : Value}
    (hS : SSt w W d q1 q2 F D k x none x sl1 sl2) (hO : SOn w W d q1 q2 vb F D k x ms G R sl1 sl2) (hP : hp W p = some (.cells (sopCells o).toArray 98 (0, 0))) (ho : SOpOk w o) (hk2 : o.kind ≠ 2) (hk : o.kind ≠ 0) (hn0 : 0 ≤ o.n)
    (hJ : ∀ W' v' off', SGood w W' d q1 q2 v' off' → J35 (.bool off', v', x0, ()) W') :
    J11_3 J35 (x0, dptr vb, .bool false, y0, ()) (.pointer (some ⟨p, 0, none⟩)) (dptr d) K (.pointer (some ⟨q1, 0, none⟩)) (.pointer (some ⟨q2, 0, none⟩)) (.bool false, ()) W := by
  obtain ⟨sa, sc, hoS⟩ := ho.sl.isSl
  obtain ⟨ba, bc, hoB⟩ := ho.rd.isSl
  obtain ⟨ma, mc, hoM⟩ := ho.more.isSl
  obtain ⟨f0, f1, f2, f3, f4, hld⟩ := sop_ld (p := p) (o := o) ⟨_, _, _, hoS⟩ ⟨_, _, _, hoB⟩ ⟨_, _, _, hoM⟩
  obtain ⟨l0, l1, -⟩ := hld W hP
  unfold J11_3
  intro _
  rw [ifB_bool, if_neg (by simp)]
  refine rv_of (f0 W) ?_
  refine rv_of l0 ?_
  refine rv_of (v := .bool false) (w' := W) (by simp [go_sem, hk2]) ?_
  rw [ifB_bool, if_neg (by simp)]
  show ifB (.bool false) _ _
  rw [ifB_bool, if_neg (by simp)]
  refine rv_of (f0 W) ?_
  refine rv_of l0 ?_
  refine rv_of (v := .bool false) (w' := W) (by simp [go_sem, hk]) ?_
  rw [ifB_bool, if_neg (by simp)]
  refine rv_of (f0 W) ?_
  refine rv_of l0 ?_
  by_cases h1 : o.kind = 1
  · refine rv_of (v := .bool true) (w' := W) (by simp [go_sem, h1]) ?_
    rw [ifB_bool, if_pos rfl]
    refine rv_of (f1 W) ?_
    refine rv_of l1 ?_
    have hr := ho.n
    have ht0 : 0 ≤ o.n.tmod 60 := Int.tmod_nonneg _ hn0
    have ht1 : o.n.tmod 60 < 60 := Int.tmod_lt_of_pos _ (by omega)
    refine rv_of (v := .int .i64 (o.n.tmod 60)) (w' := W) (by simp [go_sem, IntKind.wrap_i64]) ?_
    obtain ⟨ar1, ar2⟩ := hO.idle.arm (a := o.n.tmod 60) ht0
    refine ca_arm hS.disk (by omega) fun W2 d2 m2 => ?_
    rw [ar1]
    refine rv_of (v := .bool false) (w' := W2) (by simp [go_sem]) ?_
    rw [ifB_bool, if_neg (by simp)]
    have s2 : Stp F W W2 F := ⟨m2.mono fun b _ hb => hb ▸ hS.disk.self, fun b hb => .inl hb⟩
    have S2 : SSt w W2 d q1 q2 F _ k x none x sl1 sl2 := hS.step d2 s2 (by rw [ar2.waits]; simp) fun keep torn => ar2.crash d2.len keep torn
    exact hJ W2 (dptr vb) false ⟨F, _, k, x, none, x, sl1, sl2, S2, fun _ => ⟨rfl, vb, ms, G, R, rfl, ar2, hO.at_.mod m2 fun u hu e => hO.nF u hu (e ▸ hS.disk.self), hO.nF, hO.Gn, hO.nq, hO.ns⟩⟩
  · refine rv_of (v := .bool false) (w' := W) (by simp [go_sem, h1]) ?_
    rw [ifB_bool, if_neg (by simp)]
    exact hJ W (dptr vb) false ⟨F, D, k, x, none, x, sl1, sl2, hS, fun _ => ⟨rfl, vb, ms, G, R, rfl, hO⟩⟩
end Go.Proofs
