/-
  The computed calculus: soundness over the guide's 'wpIn', and a function's contract out of its body.
  Conditions: none; nothing here speaks of a program.
-/
import Derived.Test.YteldcaeicgobfaaVcSound
set_option linter.unusedSimpArgs false
set_option linter.unusedVariables false
namespace Go.Vc
open Go

theorem tupOf_congr {E E' : Env} (h : ∀ t, E'.get t = E.get t) : ∀ l, tupOf E' l = tupOf E l
  | [] => rfl
  | t :: l => by
    simp only [tupOf, h t]
    rw [tupOf_congr h l]
theorem tupOf_put : ∀ {l : List Nat} {s : Tup l} {r : List (Nat × Option Value)} {g : Nat → Value} {ds : List Nat}, l.Nodup → tupOf { l := putTup l s r, g := g, ds := ds } l = s
  | [], _, _, _, _, _ => rfl
  | t :: l, (v, s), r, g, ds, hn => by
    obtain ⟨hnt, hn⟩ := List.nodup_cons.1 hn
    simp only [tupOf]
    refine Prod.ext ?_ ?_
    · simp [Env.get, putTup, Env.look]
    · simp only
      have e : ∀ l' : List Nat, t ∉ l' → tupOf { l := putTup (t :: l) (v, s) r, g := g, ds := ds } l' = tupOf { l := putTup l s r, g := g, ds := ds } l' := by
        intro l'
        induction l' with
        | nil => intro _; rfl
        | cons k l' ih =>
          intro hk
          have hkt : Nat.beq t k = false := by
            cases hb : Nat.beq t k with
            | false => rfl
            | true => exact absurd (by rw [Nat.eq_of_beq_eq_true hb]; exact List.mem_cons_self) hk
          simp only [tupOf]
          rw [ih fun hm => hk (List.mem_cons_of_mem _ hm)]
          congr 1
          simp [Env.get, putTup, Env.look, hkt]
      rw [e l hnt]
      exact tupOf_put hn
theorem liveOf_nodup {ds : List Nat} : ∀ {l : List (Nat × Option Value)} {acc : List Nat}, acc.Nodup → (liveOf ds l acc).Nodup
  | [], acc, h => by simpa [liveOf] using h
  | (k, v) :: r, acc, h => by
    unfold liveOf
    cases hc : ds.contains k && !acc.contains k with
    | true =>
      simp only [Bool.and_eq_true] at hc
      exact liveOf_nodup (List.nodup_cons.2 ⟨by simpa using hc.2, h⟩)
    | false => exact liveOf_nodup h

/-- Behind a round: the frame is a loop's head's again. -/
theorem headE_again {n : Nat} {E E1 E2 : Env} {ds : List Nat} {a : Act} {mk : List Nat} (h1 : Fr ds E E2) (hr : Rel n E2 a) (hm : E2.ds = mk) :
    Rel n (headE E ds (liveOf ds E.l []) (tupOf E2 (liveOf ds E.l [])) (fun t => a.tmps.getD t undef) mk) a := by
  refine ⟨hr.size, fun t => ?_, by rw [hr.defs, hm]; rfl⟩
  by_cases ht : t ∈ ds
  · by_cases hl : t ∈ liveOf ds E.l []
    · unfold Env.get headE
      simp only [look_putTup_of hl]
      exact hr.get t
    · have hnone : Env.look E.l t = none := by
        apply Classical.byContradiction
        intro hne
        exact hl (liveOf_all ht hne)
      unfold Env.get headE
      have : ds.contains t = true := by simpa using ht
      simp only [look_putTup hl, hnone, this]
  · rw [headE_fr t ht, ← h1 t ht]
    exact hr.get t

theorem headE_meet {n : Nat} {E E2 : Env} {ds live : List Nat} {a : Act} {mk : List Nat} (hall : ∀ t ∈ ds, Env.look E.l t ≠ none → t ∈ live) (hsub : ∀ t ∈ live, t ∈ ds) (h1 : Fr ds E E2) (hr : Rel n E2 a) (hm : E2.ds = mk) :
    Rel n (headE E ds live (tupOf E2 live) (fun t => a.tmps.getD t undef) mk) a := by
  refine ⟨hr.size, fun t => ?_, by rw [hr.defs, hm]; rfl⟩
  by_cases ht : t ∈ ds
  · by_cases hl : t ∈ live
    · unfold Env.get headE
      simp only [look_putTup_of hl]
      exact hr.get t
    · have hnone : Env.look E.l t = none := by
        apply Classical.byContradiction
        intro hne
        exact hl (hall t ht hne)
      unfold Env.get headE
      have : ds.contains t = true := by simpa using ht
      simp only [look_putTup hl, hnone, this]
  · rw [headE_frJ hsub t ht, ← h1 t ht]
    exact hr.get t

theorem headE_same {E : Env} {ds : List Nat} : ∀ t, (headE E ds (liveOf ds E.l []) (tupOf E (liveOf ds E.l [])) E.g E.ds).get t = E.get t := by
  intro t
  by_cases ht : t ∈ ds
  · by_cases hl : t ∈ liveOf ds E.l []
    · simp only [Env.get, headE, look_putTup_of hl]
    · have hnone : Env.look E.l t = none := by
        apply Classical.byContradiction
        intro hne
        exact hl (liveOf_all ht hne)
      have : ds.contains t = true := by simpa using ht
      simp only [Env.get, headE, look_putTup hl, this, hnone]
  · exact headE_fr t ht

theorem tupOf_headE {E : Env} {ds : List Nat} {s : Tup (liveOf ds E.l [])} {g : Nat → Value} {mk : List Nat} : tupOf (headE E ds (liveOf ds E.l []) s g mk) (liveOf ds E.l []) = s :=
  tupOf_put (liveOf_nodup List.nodup_nil)

def actE (a : Act) : Env := { l := [], g := fun t => a.tmps.getD t undef, ds := a.defers.map fun d => match d.target with | .collected r => r | _ => 0 }
theorem Rel.actE {n : Nat} {E : Env} {a : Act} (h : Rel n E a) : (∀ t, (Vc.actE a).get t = E.get t) ∧ (Vc.actE a).ds = E.ds := by
  refine ⟨h.get, ?_⟩
  unfold Vc.actE
  simp only
  rw [h.defs, List.map_map]
  conv => rhs; rw [← List.map_id E.ds]
  exact List.map_congr_left fun _ _ => rfl

theorem run_callFunc_of {P : Program} (hP : NoNum P = true) {f : FuncId} {args : Array Value} {w w1 : World} {K : Kont} (h : Ca P f args w K) :
    (callFunc f args).run P w1 = .ok (.enter f args) w1 := by
  obtain ⟨fn, hf, hb⟩ := h.bodied
  have hname : (fn.name == "runtime.NumGoroutine") = false := by
    have := (Array.all_eq_true'.1 hP) fn (Array.mem_of_getElem? hf)
    simpa using this
  have hname' : ¬ fn.name = "runtime.NumGoroutine" := by simpa using hname
  have hnone' : ¬ fn.body = none := by intro hh; rw [hh] at hb; exact absurd hb (by simp)
  unfold callFunc
  simp [Sem.run_bind, Result.andThen, hf, hname', hnone']

theorem rel_putAll {n : Nat} : ∀ (ps : List Nat) (i : Nat) (args : List Value) (E : Env) (tmps : Array Value), (ps.all fun d => Nat.blt d n) = true → args.length = i + ps.length → Rel n E { tmps := tmps, defers := [] } →
    Rel n { E with l := putAll ps i args E.l } { tmps := (ps.zip (args.drop i)).foldl (fun tmps (t, a) => tmps.setIfInBounds t a) tmps, defers := [] }
  | [], _, _, E, tmps, _, _, h => by simpa [putAll] using h
  | t :: ps, i, args, E, tmps, hps, hlen, h => by
    simp only [List.all_cons, Bool.and_eq_true] at hps
    simp only [List.length_cons] at hlen
    have hi : i < args.length := by omega
    have hd : args.drop i = args[i] :: args.drop (i + 1) := List.drop_eq_getElem_cons hi
    have hg : args.getD i undef = args[i] := by simp [hi]
    have h1 : Rel n (E.put (some t) args[i]) (({ tmps := tmps, defers := [] } : Act).put (some t) args[i]) := h.put (d := some t) hps.1 _
    have := rel_putAll ps (i + 1) args (E.put (some t) args[i]) (tmps.setIfInBounds t args[i]) hps.2 (by omega) h1
    rw [hd]
    simpa only [putAll, Env.put, hg, List.zip_cons_cons, List.foldl_cons] using this

theorem zip_foldl (ps : Array Nat) (args : List Value) (tmps : Array Value) :
    (ps.zip ⟨args⟩).foldl (fun tmps (t, a) => tmps.setIfInBounds t a) tmps = (ps.toList.zip args).foldl (fun tmps (t, a) => tmps.setIfInBounds t a) tmps := by
  rw [← Array.foldl_toList]
  simp

theorem run_enterLoop_inner {P : Program} {w : World} {l0 : Nat} {r : Loop} (h : w.heap[l0]? = some (.loop r)) (fn : FuncId) (tmps : Array Value) (ps : Array Tmp) (assign body : Code) :
    (Instr.enterLoop fn tmps ps assign body (some l0)).run P w =
      .ok (w.heap.size, []) (w.alloc (.loop { state := .ready, pending := none, fn, tmps, params := ps, assign, body, defers := r.defers })) := by
  unfold Instr.enterLoop
  simp only [Sem.run_bind, run_getLoop h, Result.andThen, Sem.run_pure, run_newObj_alloc]

theorem vc_sound {P : Program} {jn : Bool} (hP : NoNum P = true) {n : Nat} : ∀ (c : Code) (ro : Option Nat) (Q : Exit → Env → World → Prop) (Q' : Exit → Act → World → Prop) (E : Env) (a : Act) (w : World),
    okC P n c = true → Rel n E a → (∀ e E a w, Rel n E a → Q e E w → Q' e a w) → vc P jn ro c Q E w → c.wpIn (FR ro) 0 P Q' a w := by
  intro c
  induction c with
  | skip => intro ro Q Q' E a w _ hr hq h; exact wpIn_skip (hq _ _ _ _ hr h)
  | region id ops draw =>
    intro ro Q Q' E a w hok hr hq h
    simp only [okC, Bool.and_eq_true] at hok
    cases draw with
    | false => exact wpIn_region_list (vcList_sound (ops := ops.toList) hP (hq .normal) ops.toList hok.1 E a w hr h)
    | true =>
      have hok2 := hok.2
      simp only [Bool.not_true, Bool.false_or, Bool.and_eq_true] at hok2
      refine wpIn_region_any hok2.1 ?_
      have := vcD_sound (ro := ro) (ops := ops.toList) hP hok2.2 hok.1 (hq .normal) ops.size [] [] [] [] E a w.drew (ops.toList.length + 1) (Array.replicate ops.size false)
        ⟨(fun i => by simp), (fun i hi => by cases hi), List.nodup_nil, trivial, (fun i hi => by cases hi), hr.size, hr.defs, (fun t _ => hr.get t), (fun i hi => by cases hi)⟩
        (fun i hi => by simp at hi; simp [hi]) (by simp) (by simp) (by simpa using List.length_filter_le _ (List.range ops.size)) h
      simpa using this
  | seq x y ihx ihy =>
    intro ro Q Q' E a w hok hr hq h
    simp only [okC, Bool.and_eq_true] at hok
    simp only [vc] at h
    cases hj : jn && joins x y with
    | true =>
      rw [hj] at h
      simp only [force_eq] at h
      obtain ⟨J, hJ, hA⟩ := h.out
      simp only [Bool.and_eq_true] at hj
      have hrf := joins_rf hj.2
      have hA' := vc_mono x ro _ (fun e E' w' => (match e with | .normal => J (tupOf E' (liveJ (dstsOf x) E.l (usesOf y))) w' | e => Q e E' w') ∧ Fr (dstsOf x) E E' ∧ E'.ds = E.ds) _ w hA
        (fun e E' w' hf hd hQ => ⟨by cases e <;> exact hQ, hf, hd hrf⟩)
      refine wpIn_seq (ihx ro _ _ E a w hok.1 hr (fun e E1 a1 w1 hr1 hQ => ?_) hA')
      obtain ⟨hQ, hf, hd⟩ := hQ
      cases e with
      | normal => exact ihy ro Q Q' _ a1 w1 hok.2 (headE_meet (fun t ht hne => liveJ_all ht hne) liveJ_sub hf hr1 hd) hq (hJ _ _ hQ _)
      | exit id => exact hq _ _ _ _ hr1 hQ
      | goto id => exact hq _ _ _ _ hr1 hQ
      | ret => exact hq _ _ _ _ hr1 hQ
      | panic ch => exact hq _ _ _ _ hr1 hQ
      | outgrown => exact hq _ _ _ _ hr1 hQ
    | false =>
    rw [hj] at h
    refine wpIn_seq (ihx ro _ _ E a w hok.1 hr (fun e E1 a1 w1 hr1 hQ => ?_) h)
    cases e with
    | normal => exact ihy ro Q Q' E1 a1 w1 hok.2 hr1 hq hQ
    | exit id => exact hq _ _ _ _ hr1 hQ
    | goto id => exact hq _ _ _ _ hr1 hQ
    | ret => exact hq _ _ _ _ hr1 hQ
    | panic ch => exact hq _ _ _ _ hr1 hQ
    | outgrown => exact hq _ _ _ _ hr1 hQ
  | cond c t f iht ihf =>
    intro ro Q Q' E a w hok hr hq h
    simp only [okC, Bool.and_eq_true] at hok
    simp only [vc, isB] at h
    split at h
    · rename_i b hb
      have hb' : a.eval c = .bool b := by rw [hr.ev]; exact hb
      cases b with
      | true => exact wpIn_cond hb' (iht ro Q Q' E a w hok.1 hr hq h)
      | false => exact wpIn_cond hb' (ihf ro Q Q' E a w hok.2 hr hq h)
    · exact h.elim
  | block id c ih =>
    intro ro Q Q' E a w hok hr hq h
    refine wpIn_block (ih ro _ _ E a w hok hr (fun e E1 a1 w1 hr1 hQ => ?_) h)
    cases e with
    | exit i =>
      simp only at hQ
      cases hb : Nat.beq i id with
      | true =>
        rw [hb] at hQ
        simp only [bc] at hQ
        simp only [Exit.inBlock, Nat.eq_of_beq_eq_true hb, if_true]
        exact hq _ _ _ _ hr1 hQ
      | false =>
        rw [hb] at hQ
        have hne : ¬ i = id := fun e => by subst e; simp at hb
        simp only [Exit.inBlock, hne, if_false]
        exact hq _ _ _ _ hr1 hQ
    | normal => exact hq _ _ _ _ hr1 hQ
    | goto id => exact hq _ _ _ _ hr1 hQ
    | ret => exact hq _ _ _ _ hr1 hQ
    | panic ch => exact hq _ _ _ _ hr1 hQ
    | outgrown => exact hq _ _ _ _ hr1 hQ
  | loop c ih =>
    intro ro Q Q' E a w hok hr hq h
    simp only [vc, force_eq] at h
    cases hrf : hasRF c with
    | false =>
      rw [hrf] at h
      obtain ⟨I, m, h0, h1⟩ := h.out
      refine wpIn_loop (fun a w => ∃ s g, Rel n (headE E (dstsOf c) (liveOf (dstsOf c) E.l []) s g E.ds) a ∧ I s w) (fun a w => m (tupOf (actE a) (liveOf (dstsOf c) E.l [])) w)
        ⟨_, E.g, hr.of_get headE_same rfl, h0⟩ ?_
      rintro a1 w1 ⟨s, g, hr1, hI⟩
      have hb := vc_mono c ro _ (fun e E' w' => (match e with | .normal => I (tupOf E' (liveOf (dstsOf c) E.l [])) w' ∧ m (tupOf E' (liveOf (dstsOf c) E.l [])) w' < m s w1 | e => Q e E' w') ∧ Fr (dstsOf c) E E' ∧ E'.ds = E.ds) _ w1 (h1 s w1 hI g)
        (fun e E' w' hf hd hQ => ⟨by cases e <;> exact hQ, headE_fr.trans hf, hd hrf⟩)
      refine ih ro _ _ _ a1 w1 hok hr1 (fun e E2 a2 w2 hr2 hQ => ?_) hb
      obtain ⟨hQ, hf, hd⟩ := hQ
      cases e with
      | normal =>
        refine ⟨⟨_, _, headE_again (E1 := E) hf hr2 hd, hQ.1⟩, ?_⟩
        rw [tupOf_congr (hr2.actE.1), tupOf_congr (hr1.actE.1), tupOf_headE]
        exact hQ.2
      | exit id => exact hq _ _ _ _ hr2 hQ
      | goto id => exact hq _ _ _ _ hr2 hQ
      | ret => exact hq _ _ _ _ hr2 hQ
      | panic ch => exact hq _ _ _ _ hr2 hQ
      | outgrown => exact hq _ _ _ _ hr2 hQ
    | true =>
      rw [hrf] at h
      obtain ⟨I, m, h0, h1⟩ := h.out
      refine wpIn_loop (fun a w => ∃ s g, Rel n (headE E (dstsOf c) (liveOf (dstsOf c) E.l []) s.1 g s.2) a ∧ I s w) (fun a w => m (tupOf (actE a) (liveOf (dstsOf c) E.l []), (actE a).ds) w)
        ⟨(_, E.ds), E.g, hr.of_get headE_same rfl, h0⟩ ?_
      rintro a1 w1 ⟨s, g, hr1, hI⟩
      have hb := vc_mono c ro _ (fun e E' w' => (match e with | .normal => I (tupOf E' (liveOf (dstsOf c) E.l []), E'.ds) w' ∧ m (tupOf E' (liveOf (dstsOf c) E.l []), E'.ds) w' < m s w1 | e => Q e E' w') ∧ Fr (dstsOf c) E E') _ w1 (h1 s w1 hI g)
        (fun e E' w' hf hd hQ => ⟨by cases e <;> exact hQ, headE_fr.trans hf⟩)
      refine ih ro _ _ _ a1 w1 hok hr1 (fun e E2 a2 w2 hr2 hQ => ?_) hb
      obtain ⟨hQ, hf⟩ := hQ
      cases e with
      | normal =>
        refine ⟨⟨(_, E2.ds), _, headE_again (E1 := E) hf hr2 rfl, hQ.1⟩, ?_⟩
        rw [tupOf_congr (hr2.actE.1), tupOf_congr (hr1.actE.1), tupOf_headE, hr2.actE.2, hr1.actE.2]
        exact hQ.2
      | exit id => exact hq _ _ _ _ hr2 hQ
      | goto id => exact hq _ _ _ _ hr2 hQ
      | ret => exact hq _ _ _ _ hr2 hQ
      | panic ch => exact hq _ _ _ _ hr2 hQ
      | outgrown => exact hq _ _ _ _ hr2 hQ
  | rangeFunc gv ps assign body iha ihb =>
    intro ro Q Q' E a w hok hr hq h
    simp only [okC, Bool.and_eq_true] at hok
    obtain ⟨⟨hps, hoka⟩, hokb⟩ := hok
    simp only [vc, RFW_iff, RFD] at h
    split at h
    · rename_i f first captured hgv
      have hgv' : a.eval gv = .func (.func f) first captured := by rw [hr.ev]; exact hgv
      -- what the rest of the proof wants, from the record on
      have main : ∀ (w1 : World) (D : Nat) (mk : List Nat) (fn : FuncId),
          (∀ rec : Loop, rec.state = .ready → rec.pending = none → rec.defers = D →
            (∀ (args : List Value) (W : World) (K : Kont), args.length = ps.toList.length → RecOf W w1.heap.size rec →
              vc P jn (some w1.heap.size) assign (fun e E W => match e with
                | .normal => beginK w1.heap.size W fun W => vc P jn (some w1.heap.size) body (fun e _ W => match e with
                  | .normal => ∃ r, RecAt W w1.heap.size r ∧ K (.bool true) (W.putObj w1.heap.size (.loop { r with state := .ready, pending := none }))
                  | .ret => ∃ r, RecAt W w1.heap.size r ∧ K (.bool false) (W.putObj w1.heap.size (.loop { r with state := .done, pending := some .ret }))
                  | .exit id => ∃ r, RecAt W w1.heap.size r ∧ K (.bool false) (W.putObj w1.heap.size (.loop { r with state := .done, pending := some (.exit id) }))
                  | _ => False) E W
                | _ => False) { E with l := putAll ps.toList 0 args E.l, ds := [] } W →
              Yl P w1.heap.size ⟨args⟩ W K) →
            Ca P f ⟨first.toList ++ (.func (.yield w1.heap.size) #[] #[] :: captured.toList)⟩ (w1.alloc (.loop rec)) fun _ W =>
              ∃ r, RecAt W w1.heap.size r ∧ r.state ≠ .busy ∧ afterK (fun W => Q .normal { E with ds := mk ++ E.ds } W) (fun W => Q .ret { E with ds := mk ++ E.ds } W)
                (fun id W => Q (.exit id) { E with ds := mk ++ E.ds } W) r.pending (W.putObj w1.heap.size (.loop { r with state := .exhausted }))) →
          let rc : Loop := { state := .ready, pending := none, fn, tmps := a.tmps, params := ps, assign, body, defers := D }
          let a' : Act := { a with defers := (mk.map fun d => { target := .collected d, args := #[] }) ++ a.defers }
          CallsIn (FR ro) 0 P f ⟨first.toList ++ (.func (.yield w1.heap.size) #[] #[] :: captured.toList)⟩ (w1.alloc (.loop rc)) (rangePost (FR ro) 0 P w1.heap.size Q' a') ∧
            ∀ w2, (callFunc f ⟨first.toList ++ (.func (.yield w1.heap.size) #[] #[] :: captured.toList)⟩).run P w2 = .ok (.enter f ⟨first.toList ++ (.func (.yield w1.heap.size) #[] #[] :: captured.toList)⟩) w2 := by
        intro w1 D mk fn hh rc a'
        have hca := hh rc rfl rfl rfl (fun args W K hlen hrec hrnd => by
          obtain ⟨st, pend, hat⟩ := hrec
          refine ⟨_, _, _, _, run_yield hat (by simpa using hlen), ?_⟩
          refine roundIn_of_wpIn (F := Fence.wide) trivial ?_
          have hrel : Rel n { E with l := putAll ps.toList 0 args E.l, ds := [] } { tmps := (ps.zip ⟨args⟩).foldl (fun tmps (t, a) => tmps.setIfInBounds t a) a.tmps, defers := [] } := by
            rw [zip_foldl]
            exact rel_putAll ps.toList 0 args { E with ds := [] } a.tmps hps (by simpa using hlen) ⟨hr.size, hr.get, rfl⟩
          refine iha (some w1.heap.size) _ _ _ _ W hoka hrel (fun e E1 a1 W1 hr1 hQ => ?_) hrnd
          cases e with
          | normal =>
            obtain ⟨r, hra, hst, hbody⟩ := hQ.out
            refine ⟨_, run_beginRound hra hst, ?_⟩
            refine ihb (some w1.heap.size) _ _ E1 a1 _ hokb hr1 (fun e E2 a2 W2 hr2 hQ2 => ?_) hbody
            cases e with
            | normal =>
              obtain ⟨r2, hra2, hK⟩ := hQ2
              exact ⟨_, _, run_endRound none hra2, _, rfl, hK⟩
            | ret =>
              obtain ⟨r2, hra2, hK⟩ := hQ2
              exact ⟨_, _, run_endRound _ hra2, _, rfl, hK⟩
            | exit id =>
              obtain ⟨r2, hra2, hK⟩ := hQ2
              exact ⟨_, _, run_endRound _ hra2, _, rfl, hK⟩
            | goto id => exact hQ2.elim
            | panic ch => exact hQ2.elim
            | outgrown => exact hQ2.elim
          | exit id => exact hQ.elim
          | goto id => exact hQ.elim
          | ret => exact hQ.elim
          | panic ch => exact hQ.elim
          | outgrown => exact hQ.elim)
        refine ⟨FR.calls (Calls.mono hca.out ?_), fun w2 => run_callFunc_of hP hca⟩
        rintro e W ⟨v, rfl, r, hra, hb, haft⟩
        refine ⟨_, _, run_endLoop hra hb, ?_⟩
        have hr' : Rel n { E with ds := mk ++ E.ds } a' := ⟨hr.size, hr.get, by simp only [a', hr.defs, List.map_append]⟩
        generalize W.putObj w1.heap.size (.loop { r with state := .exhausted }) = W4 at haft ⊢
        unfold afterK at haft
        split at haft
        · rename_i hp; rw [hp]; exact hq _ _ _ _ hr' haft
        · rename_i hp; rw [hp]; exact wpIn_ret (hq _ _ _ _ hr' haft)
        · rename_i hp; rw [hp]; exact wpIn_exit (hq _ _ _ _ hr' haft)
        · exact haft.elim
      refine wpIn_rangeFunc fun fn _ => ?_
      have hinv : ∀ l : Nat, (do let d ← resolve a.eval (rangeCall gv l) 0; invoke d.target d.args : Sem Next) = callFunc f ⟨first.toList ++ (.func (.yield l) #[] #[] :: captured.toList)⟩ := by
        intro l
        have e1 : resolve a.eval (rangeCall gv l) 0 = Deferred.ofValue (a.eval gv) #[.func (.yield l) #[] #[]] := by simp [resolve, Act.eval]
        rw [e1, hgv']
        have e2 : (do let d ← Deferred.ofValue (.func (.func f) first captured) #[.func (.yield l) #[] #[]]; invoke d.target d.args : Sem Next) = callFunc f (first ++ #[.func (.yield l) #[] #[]] ++ captured) := rfl
        rw [e2]
        congr 1
        apply Array.ext'; simp
      have hres : ∀ (l : Nat) (w1 : World), (resolve a.eval (rangeCall gv l) 0).run P w1 = .ok { target := .fn (.func f) captured, args := first ++ #[.func (.yield l) #[] #[]] } w1 := by
        intro l w1
        have e1 : resolve a.eval (rangeCall gv l) 0 = Deferred.ofValue (a.eval gv) #[.func (.yield l) #[] #[]] := by simp [resolve, Act.eval]
        rw [e1, hgv']; rfl
      have hinv2 : ∀ l : Nat, (invoke (.fn (.func f) captured) (first ++ #[.func (.yield l) #[] #[]]) : Sem Next) = callFunc f ⟨first.toList ++ (.func (.yield l) #[] #[] :: captured.toList)⟩ := by
        intro l
        have e2 : (invoke (.fn (.func f) captured) (first ++ #[.func (.yield l) #[] #[]]) : Sem Next) = callFunc f (first ++ #[.func (.yield l) #[] #[]] ++ captured) := rfl
        rw [e2]
        congr 1
        apply Array.ext'; simp
      cases ro with
      | none =>
        have hm := main (w.alloc (.deferred (some []))) w.heap.size [w.heap.size] fn h
        obtain ⟨W1, hW1⟩ : ∃ W1, W1 = (w.alloc (.deferred (some []))).alloc (.loop { state := .ready, pending := none, fn, tmps := a.tmps, params := ps, assign, body, defers := w.heap.size }) := ⟨_, rfl⟩
        have hm1 := hm.1
        have hm2 := hm.2 W1
        rw [World.size_alloc] at hm1 hm2
        refine ⟨w.heap.size + 1, [{ target := .collected w.heap.size, args := #[] }], W1, _, W1, f, ⟨first.toList ++ (.func (.yield (w.heap.size + 1)) #[] #[] :: captured.toList)⟩, W1, ?_, hres _ _, fun _ _ => FR.fn none _, ?_, (fun hh => by rw [FR.depth] at hh; cases hh), ?_⟩
        · rw [hW1]; exact run_enterLoop_outer fn a.tmps ps assign body
        · rw [hinv2]; exact hm2
        · rw [hW1]; exact hm1
      | some l0 =>
        obtain ⟨r0, hr0, h⟩ := h
        have hm := main w r0.defers [] fn h
        obtain ⟨W1, hW1⟩ : ∃ W1, W1 = w.alloc (.loop { state := .ready, pending := none, fn, tmps := a.tmps, params := ps, assign, body, defers := r0.defers }) := ⟨_, rfl⟩
        refine ⟨w.heap.size, [], W1, _, W1, f, ⟨first.toList ++ (.func (.yield w.heap.size) #[] #[] :: captured.toList)⟩, W1, ?_, hres _ _, fun _ _ => FR.fn (some l0) _, ?_, (fun hh => by rw [FR.depth] at hh; cases hh), ?_⟩
        · rw [FR.round, hW1]; exact run_enterLoop_inner hr0 fn a.tmps ps assign body
        · rw [hinv2]; exact hm.2 _
        · rw [hW1]; exact hm.1
    · exact h.elim
  | exit id => intro ro Q Q' E a w _ hr hq h; exact wpIn_exit (hq _ _ _ _ hr h)
  | scope c ih => intro ro Q Q' E a w hok hr hq h; exact h.elim
  | label l => intro ro Q Q' E a w _ hr hq h; exact wpIn_label (hq _ _ _ _ hr h)
  | goto l => intro ro Q Q' E a w _ hr hq h; exact h.elim
  | ret => intro ro Q Q' E a w _ hr hq h; exact wpIn_ret (hq _ _ _ _ hr h)
  | refuse why => intro ro Q Q' E a w _ hr hq h; exact h.elim

/-! ### A function's contract -/

/-- The function leaves: each mark's block is taken over, and shut. -/
def retD : List Nat → World → (World → Prop) → Prop
  | [], w, K => K w
  | d :: ds, w, K => w.heap[d]? = some (.deferred (some [])) ∧ retD ds (w.putObj d (.deferred none)) K
/-- The results, one behind the other. -/
def resK (P : Program) : List ResultVar → Env → World → (List Value → Prop) → Prop
  | [], _, _, K => K []
  | .tmp t :: r, E, w, K => resK P r E w fun vs => K (E.get t :: vs)
  | .cell a t :: r, E, w, K => match bigT P t with
    | true => rdX P (bigS t (E.get a)) w fun v => resK P r E w fun vs => K (v :: vs)
    | false => rdW P (Instr.loadAt t (E.get a)) w fun v => resK P r E w fun vs => K (v :: vs)
def packV : List Value → Value
  | [v] => v
  | vs => .tuple ⟨vs⟩

def args0 : Nat → List Value → List (Nat × Option Value)
  | _, [] => []
  | i, v :: r => (i, some v) :: args0 (i + 1) r

def vcFnB (P : Program) (jn : Bool) (fn : Func) (args : List Value) (w : World) (K : Kont) : Prop :=
  match fn.body with
  | none => False
  | some c => vc P jn none c (fun e E w => match e with
      | .normal => retD E.ds w fun w => resK P fn.results.toList E w fun vs => K (packV vs) w
      | .ret => retD E.ds w fun w => resK P fn.results.toList E w fun vs => K (packV vs) w
      | _ => False) { l := args0 0 args, g := fun _ => undef, ds := [] } w

def vcFn (P : Program) (fn : Func) (args : List Value) (w : World) (K : Kont) : Prop := vcFnB P false fn args w K
def vcFnJ (P : Program) (fn : Func) (args : List Value) (w : World) (K : Kont) : Prop := vcFnB P true fn args w K

def okF (P : Program) (fn : Func) (k : Nat) : Bool :=
  Nat.ble k fn.ntmps && match fn.body with
  | none => false
  | some c => okC P fn.ntmps c

theorem look_args0 (t : Nat) : ∀ (l : List Value) (i : Nat), Env.look (args0 i l) t = if i ≤ t then (l[t - i]?).map some else none
  | [], i => by simp [args0, Env.look]
  | v :: r, i => by
    simp only [args0, Env.look]
    cases hb : Nat.beq i t with
    | true => have := Nat.eq_of_beq_eq_true hb; subst this; simp
    | false =>
      have hne : i ≠ t := fun e => by subst e; simp at hb
      simp only [cond_false]
      rw [look_args0 t r (i + 1)]
      by_cases h : i + 1 ≤ t
      · have h2 : i ≤ t := by omega
        have h3 : t - i = (t - (i + 1)) + 1 := by omega
        simp [h, h2, h3]
      · have h2 : ¬ i ≤ t := by omega
        simp [h, h2]

theorem rel_args0 (args : List Value) (n : Nat) (h : args.length ≤ n) :
    Rel n { l := args0 0 args, g := fun _ => undef, ds := [] } { tmps := (⟨args⟩ : Array Value) ++ Array.replicate (n - args.length) undef, defers := [] } := by
  refine ⟨by simp; omega, fun t => ?_, rfl⟩
  unfold Env.get
  rw [look_args0]
  simp only [Nat.zero_le, if_true, Nat.sub_zero]
  by_cases ht : t < args.length
  · rw [Array.getD_eq_getD_getElem?, Array.getElem?_append_left (by simpa using ht)]
    simp [List.getElem?_eq_getElem ht]
  · rw [List.getElem?_eq_none (by omega)]
    rw [Array.getD_eq_getD_getElem?, Array.getElem?_append_right (by simpa using Nat.le_of_not_lt ht)]
    simp only [Option.map_none]
    cases hh : (Array.replicate (n - args.length) undef)[t - (⟨args⟩ : Array Value).size]? with
    | none => rfl
    | some v =>
      have := (Array.getElem?_eq_some_iff.1 hh).2
      simp at this
      simp [this]

def resSem (tmps : Array Value) : ResultVar → Sem Value
  | .tmp t => pure (tmps.getD t undef)
  | .cell a t => do loadVar t (← asAddr (tmps.getD a undef))

theorem resK_run {P : Program} {tmps : Array Value} {E : Env} {w : World} (hg : ∀ t, tmps.getD t undef = E.get t) : ∀ (rs : List ResultVar) (K : List Value → Prop), resK P rs E w K →
    ∃ vs, (rs.mapM (resSem tmps)).run P w = .ok vs w ∧ K vs
  | [], K, h => ⟨[], rfl, h⟩
  | .tmp t :: r, K, h => by
    obtain ⟨vs, h1, h2⟩ := resK_run hg r _ h
    refine ⟨_, ?_, h2⟩
    have hl : (resSem tmps (.tmp t)).run P w = .ok (E.get t) w := by rw [← hg]; rfl
    simp only [List.mapM_cons, Sem.run_bind, Sem.run_pure, Result.andThen, hl, h1]
  | .cell a t :: r, K, h => by
    have h : rdW P (Instr.loadAt t (E.get a)) w fun v => resK P r E w fun vs => K (v :: vs) := by
      simp only [resK] at h
      cases hb : bigT P t with
      | true => rw [hb] at h; exact h.out
      | false => rw [hb] at h; exact h
    simp only [rdW_iff, rdWD] at h
    split at h
    · rename_i v w' hr
      obtain ⟨rfl, h⟩ := h
      obtain ⟨vs, h1, h2⟩ := resK_run hg r _ h
      refine ⟨_, ?_, h2⟩
      have hl : (resSem tmps (.cell a t)).run P w' = .ok v w' := by
        have e0 : resSem tmps (.cell a t) = (do loadVar t (← asAddr (tmps.getD a undef))) := rfl
        rw [e0, hg]
        unfold Instr.loadAt at hr
        cases hv : E.get a <;> rw [hv] at hr <;> first | (simp [Instr.sureAddr, stuck, Sem.run_bind, Sem.run, Result.andThen] at hr; done) | skip
        rename_i p
        cases p with
        | none => simp [Instr.sureAddr, stuck, Sem.run_bind, Sem.run, Result.andThen] at hr
        | some p =>
          simp only [Instr.sureAddr, asAddr, Sem.run_bind, Sem.run_pure, Result.andThen] at hr ⊢
          exact hr
      simp only [List.mapM_cons, Sem.run_bind, Sem.run_pure, Result.andThen, hl, h1]
    · exact h.elim

theorem results_eq (fn : Func) (tmps : Array Value) : results fn tmps = (do
    let vs ← fn.results.mapM (resSem tmps)
    pure (if h : vs.size = 1 then vs[0] else .tuple vs)) := by
  unfold results
  congr 1

theorem leaves_of {P : Program} {fn : Func} {tmps : Array Value} {E : Env} {K : Kont} (hg : ∀ t, tmps.getD t undef = E.get t) : ∀ (ds : List Nat) (w : World),
    retD ds w (fun w => resK P fn.results.toList E w fun vs => K (packV vs) w) →
    LeavesInM Fence.wide 0 P fn tmps (fun e w' => ∃ v, e = .returned v ∧ K v w') (ds.map fun d => { target := .collected d, args := #[] }) .returning w
  | [], w, h => by
    obtain ⟨vs, h1, h2⟩ := resK_run hg _ _ h
    refine ⟨packV vs, ?_, _, rfl, h2⟩
    rw [results_eq, Array.mapM_eq_mapM_toList]
    simp only [Sem.run_bind, Sem.run_map, h1, Result.andThen, Sem.run_pure]
    congr 1
    match vs with
    | [] => rfl
    | [v] => rfl
    | v :: u :: r => simp [packV]
  | d :: ds, w, h => by
    refine ⟨by simp, .inl ⟨d, _, rfl, run_takeDeferred h.1, leaves_of hg ds _ h.2⟩⟩

theorem ca_of_vcB {P : Program} {jn : Bool} (hP : NoNum P = true) {f : FuncId} {fn : Func} {args : List Value} {w : World} {K : Kont} (hf : P.funcs[f]? = some fn) (hok : okF P fn args.length = true)
    (h : vcFnB P jn fn args w K) : Ca P f ⟨args⟩ w K := by
  unfold okF at hok
  unfold vcFnB at h
  simp only [Bool.and_eq_true] at hok
  obtain ⟨hlen, hok⟩ := hok
  cases hb : fn.body with
  | none => rw [hb] at h; exact h.elim
  | some c =>
    rw [hb] at h hok
    refine ⟨(callsIn_wide (n := 0)).1 (callsIn_of_wp_marks hf hb trivial ?_ rfl)⟩
    have hrel := rel_args0 args fn.ntmps (by simpa [Nat.ble_eq] using hlen)
    refine vc_sound (n := fn.ntmps) hP c none _ _ _ _ w hok hrel (fun e E a w' hr hQ => ?_) h
    cases e with
    | normal => have hh := leaves_of (K := K) hr.get _ _ hQ; rw [← hr.defs] at hh; exact hh
    | ret => have hh := leaves_of (K := K) hr.get _ _ hQ; rw [← hr.defs] at hh; exact hh
    | exit id => exact hQ.elim
    | goto id => exact hQ.elim
    | panic ch => exact hQ.elim
    | outgrown => exact hQ.elim
theorem ca_of_vc {P : Program} (hP : NoNum P = true) {f : FuncId} {fn : Func} {args : List Value} {w : World} {K : Kont} (hf : P.funcs[f]? = some fn) (hok : okF P fn args.length = true)
    (h : vcFn P fn args w K) : Ca P f ⟨args⟩ w K := ca_of_vcB hP hf hok h
theorem ca_of_vcJ {P : Program} (hP : NoNum P = true) {f : FuncId} {fn : Func} {args : List Value} {w : World} {K : Kont} (hf : P.funcs[f]? = some fn) (hok : okF P fn args.length = true)
    (h : vcFnJ P fn args w K) : Ca P f ⟨args⟩ w K := ca_of_vcB hP hf hok h
end Go.Vc
