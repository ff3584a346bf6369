/-
  The computed calculus: the canonical walk of a region that draws its order serves every order.
  Conditions: none; nothing here speaks of a program.
-/
import Derived.Test.YteldcaeicgobfaaVcDraw
set_option linter.unusedSimpArgs false
set_option linter.unusedVariables false
namespace Go.Vc
open Go

theorem put_ne {E : Env} {d : Option Nat} {v : Value} {t : Nat} (h : d ≠ some t) : (E.put d v).get t = E.get t := by
  cases d with
  | none => rfl
  | some d => rw [Env.get_put, if_neg (fun e => h (by rw [e]))]
theorem skip_ne {E : Env} {d : Option Nat} {t : Nat} (h : d ≠ some t) : (E.skip d).get t = E.get t := by
  cases d with
  | none => rfl
  | some d => rw [Env.get_skip, if_neg (fun e => h (by rw [e]))]
theorem put_ds (E : Env) (d : Option Nat) (v : Value) : (E.put d v).ds = E.ds := by cases d <;> rfl
theorem skip_ds (E : Env) (d : Option Nat) : (E.skip d).ds = E.ds := by cases d <;> rfl
theorem put_get_self {E : Env} {d : Nat} {v : Value} : (E.put (some d) v).get d = v := by rw [Env.get_put, if_pos rfl]
theorem skip_get_self {E : Env} {d : Nat} : (E.skip (some d)).get d = undef := by rw [Env.get_skip, if_pos rfl]

section
variable {P : Program} {ops : List Oper} {n : Nat} {L A done : List Nat} {pend : Pend} {E : Env} {a : Act} {w : World}

theorem Inv.same (h : Inv P ops n L A done pend E a w) {E' : Env} (hs : E.Same E') (hok : regOk P ops = true) : Inv P ops n L A done pend E' a w :=
  { h with
    defs := by rw [hs.2]; exact h.defs
    frame := fun t ht => (h.frame t ht).trans (hs.1 t).symm
    val := fun i hi => (h.val i hi).env hok (fun _ _ t _ => hs.1 t) (fun _ hx => hx) }

/-- Who reads is apart from all that the walk has ahead. -/
theorem Inv.look (h : Inv P ops n L A done pend E a w) (hok : regOk P ops = true) {j : Nat} {oj : Oper} (hj : ops[j]? = some oj) (hL : j ∉ L) (hd : ∀ d ∈ depsOf ops j, d ∈ L) :
    ∀ t ∈ oj.looksAt ops.toArray, a.tmps.getD t undef = E.get t := by
  intro t ht
  refine h.frame t fun i hi oi hoi hdst => ?_
  obtain ⟨o', ho', hc, _⟩ := h.val i hi
  rw [hoi] at ho'; cases ho'
  by_cases hij : i = j
  · subst hij
    rw [hj] at hoi; cases hoi
    exact regOk_self hok hj hc hdst ht
  · have := ((regOk_pair hok hoi hj hc hij).1 t hdst).2 ht
    exact h.apart i hi (anc_sub h.closed hd i this)

/-- One operation that only reads is walked ahead. -/
theorem Inv.ahead (h : Inv P ops n L A done pend E a w) (hok : regOk P ops = true) {i : Nat} {o : Oper} (hi : ops[i]? = some o) (hc : cls P o < 3) (hr : i ∈ rdy ops done) {E' : Env} {pend' : Pend}
    (hE : (∀ t, o.dst ≠ some t → E'.get t = E.get t) ∧ E'.ds = E.ds) (hp : ∀ x ∈ pend, x ∈ pend')
    (hv : (wantedE ops E o = true ∧ ∃ v, (∀ d, o.dst = some d → E'.get d = v) ∧ (execOp (ev E) o).run P w = .ok (.value v) w ∧
        ((∀ w', (execOp (ev E) o).run P w' = .ok (.value v) w') ∨ ∃ s, (i, s, v) ∈ pend' ∧ ∀ w', s.run P w' = .ok v w' → (execOp (ev E) o).run P w' = .ok (.value v) w')) ∨
      (wantedE ops E o = false ∧ ∀ d, o.dst = some d → E'.get d = undef)) :
    Inv P ops n L (i :: A) (i :: done) pend' E' a w := by
  obtain ⟨hlt, hnd, hdeps⟩ := mem_rdy.1 hr
  have hnA : i ∉ A := fun hA => hnd ((h.doneIff i).2 (.inr hA))
  have hnL : i ∉ L := fun hL => hnd ((h.doneIff i).2 (.inl hL))
  refine ⟨fun k => ?_, fun k hk => ?_, List.nodup_cons.2 ⟨hnA, h.nodup⟩, ⟨fun d hd => (h.doneIff d).1 (hdeps d hd), h.ord⟩, h.closed, h.size, by rw [hE.2]; exact h.defs, fun t ht => ?_, fun k hk => ?_⟩
  · simp only [List.mem_cons, h.doneIff]
    constructor
    · rintro (h1 | h1 | h1)
      · exact .inr (.inl h1)
      · exact .inl h1
      · exact .inr (.inr h1)
    · rintro (h1 | h1 | h1)
      · exact .inr (.inl h1)
      · exact .inl h1
      · exact .inr (.inr h1)
  · rcases List.mem_cons.1 hk with rfl | hk
    · exact hnL
    · exact h.apart k hk
  · rw [h.frame t (fun k hk => ht k (List.mem_cons_of_mem _ hk))]
    exact (hE.1 t (ht i List.mem_cons_self o hi)).symm
  · have hself : ∀ t ∈ o.looksAt ops.toArray, E'.get t = E.get t := fun t ht => hE.1 t fun hd => regOk_self hok hi hc hd ht
    rcases List.mem_cons.1 hk with rfl | hk
    · have he := exec_env (P := P) (regOk_noDefer hok hi) hself
      refine ⟨o, hi, hc, ?_⟩
      rw [he.1, he.2]
      exact hv
    · refine (h.val k hk).env hok (fun ok hok' t ht => hE.1 t fun hd => ?_) hp
      have hki : k ≠ i := fun e => hnA (e ▸ hk)
      obtain ⟨ok', hok2, hck, _⟩ := h.val k hk
      rw [hok'] at hok2; cases hok2
      rcases ht with ht | ht
      · have := ((regOk_pair hok hi hok' hc (Ne.symm hki)).1 t hd).2 ht
        have hkdeps : ∀ d ∈ depsOf ops k, d ∈ done := fun d hd' => h.closedDone k ((h.doneIff k).2 (.inr hk)) d hd'
        exact hnd (anc_sub h.closedDone hkdeps i this)
      · exact ((regOk_pair hok hi hok' hc (Ne.symm hki)).1 t hd).1 ht

/-- The walk ahead, up to operation 'j', which may come up. -/
theorem adv (hok : regOk P ops = true) {K : Env → World → Prop} {j : Nat} (hj : j ∈ rdy ops L) : ∀ (fuel : Nat) (A done : List Nat) (pend : Pend) (E : Env),
    Inv P ops n L A done pend E a w → vcD P ops fuel done pend E w K →
    ∃ (fuel' : Nat) (A' done' : List Nat) (pend' : Pend) (E' : Env), Inv P ops n L A' done' pend' E' a w ∧ vcD P ops fuel' done' pend' E' w K ∧
      (j ∈ A' ∨ (j ∉ done' ∧ (rdy ops done').find? (isRd P ops) = none)) := by
  intro fuel
  induction fuel with
  | zero => intro A done pend E _ h; exact h.elim
  | succ fuel ih =>
    intro A done pend E hI h
    by_cases hA : j ∈ A
    · exact ⟨fuel + 1, A, done, pend, E, hI, h, .inl hA⟩
    · cases hf : (rdy ops done).find? (isRd P ops) with
      | none =>
        refine ⟨fuel + 1, A, done, pend, E, hI, h, .inr ⟨fun hd => ?_, hf⟩⟩
        rcases (hI.doneIff j).1 hd with h1 | h1
        · exact (mem_rdy.1 hj).2.1 h1
        · exact hA h1
      | some i =>
        have hir : i ∈ rdy ops done := List.mem_of_find?_eq_some hf
        have hp := List.find?_some hf
        simp only [vcD, hf] at h
        unfold isRd at hp
        cases hi : ops[i]? with
        | none => rw [hi] at h; exact h.elim
        | some o =>
          rw [hi] at h hp
          simp only at hp
          have hc : cls P o < 3 := by simpa [Nat.blt_eq] using hp
          simp only at h
          rcases grd_cases h with ⟨hw, E1, hs, hy⟩ | ⟨hw, E1, hs, hno⟩
          · have hI1 := hI.same hs hok
            have hw1 : wantedE ops E1 o = true := by rw [hs.wanted]; exact hw
            have hEp : ∀ v, (∀ t, o.dst ≠ some t → (E1.put o.dst v).get t = E1.get t) ∧ (E1.put o.dst v).ds = E1.ds := fun v => ⟨fun t ht => put_ne ht, put_ds _ _ _⟩
            have hself : ∀ v d, o.dst = some d → (E1.put o.dst v).get d = v := fun v d hd => by rw [hd]; exact put_get_self
            cases hcl : cls P o with
            | zero =>
              simp only [hcl] at hy
              obtain ⟨v, hr, hk⟩ := quickK_sound (P := P) hy
              exact ih _ _ _ _ (hI1.ahead hok hi hc hir (hEp v) (fun _ hx => hx) (.inl ⟨hw1, v, hself v, hr w, .inl hr⟩)) hk
            | succ c =>
              cases c with
              | zero =>
                simp only [hcl] at hy
                cases hps : pureSem P (ev E1) o.op with
                | none => rw [hps] at hy; exact hy.elim
                | some s =>
                  rw [hps] at hy
                  have hy' : rdP P s fun v => vcD P ops fuel (i :: done) pend (E1.put o.dst v) w K := by
                    simp only at hy
                    split at hy
                    · exact hy.out
                    · exact hy
                  obtain ⟨v, hr, hk⟩ := hy'.out
                  have hx := pureSem_exec hps
                  have hr' : ∀ w', (execOp (ev E1) o).run P w' = .ok (.value v) w' := fun w' => by rw [hx]; exact run_value P s w' v w' (hr w')
                  exact ih _ _ _ _ (hI1.ahead hok hi hc hir (hEp v) (fun _ hx => hx) (.inl ⟨hw1, v, hself v, hr' w, .inl hr'⟩)) hk
              | succ c =>
                simp only [hcl] at hy
                cases hps : readSem P (ev E1) o with
                | none => rw [hps] at hy; exact hy.elim
                | some s =>
                  rw [hps] at hy
                  have hy' : rdW P s w fun v => vcD P ops fuel (i :: done) ((i, s, v) :: pend) (E1.put o.dst v) w K := by
                    simp only at hy
                    split at hy
                    · exact hy.out
                    · exact hy
                  clear hy
                  have hy := hy'
                  simp only [rdW_iff, rdWD] at hy
                  cases hr : s.run P w with
                  | halt x w' => rw [hr] at hy; exact hy.elim
                  | ok v w' =>
                    rw [hr] at hy
                    obtain ⟨rfl, hk⟩ := hy
                    have hx := readSem_exec hps
                    have hr' : ∀ w1, s.run P w1 = .ok v w1 → (execOp (ev E1) o).run P w1 = .ok (.value v) w1 := fun w1 h1 => by rw [hx]; exact run_value P s w1 v w1 h1
                    exact ih _ _ _ _ (hI1.ahead hok hi hc hir (hEp v) (fun _ hx => List.mem_cons_of_mem _ hx)
                      (.inl ⟨hw1, v, hself v, hr' _ hr, .inr ⟨s, List.mem_cons_self, hr'⟩⟩)) hk
          · have hI1 := hI.same hs hok
            have hw1 : wantedE ops E1 o = false := by rw [hs.wanted]; exact hw
            exact ih _ _ _ _ (hI1.ahead hok hi hc hir ⟨fun t ht => skip_ne ht, skip_ds _ _⟩ (fun _ hx => hx)
              (.inr ⟨hw1, fun d hd => by rw [hd]; exact skip_get_self⟩)) hno

theorem allL_mem {F : Nat → Prop} : ∀ {l : List Nat}, allL F l → ∀ j ∈ l, F j
  | [], _, j, hj => by cases hj
  | [k], h, j, hj => by rcases List.mem_singleton.1 hj with rfl; exact h
  | k :: m :: l, h, j, hj => by
    rcases List.mem_cons.1 hj with rfl | hj
    · exact h.1
    · exact allL_mem h.2 j hj

theorem reval_out {P : Program} {w : World} {R : Prop} : ∀ {p : Pend}, reval P w p R → R ∧ ∀ i s v, (i, s, v) ∈ p → s.run P w = .ok v w
  | [], h => ⟨h, fun _ _ _ hm => by cases hm⟩
  | (i, s, v) :: r, h => by
    obtain ⟨h1, h2⟩ := reval_out h.2
    refine ⟨h1, fun i' s' v' hm => ?_⟩
    rcases List.mem_cons.1 hm with e | hm
    · cases e; exact h.1
    · exact h2 i' s' v' hm

/-- The operation j, which the walk has ahead, comes up. -/
theorem Inv.took (h : Inv P ops n L A done pend E a w) (hok : regOk P ops = true) {j : Nat} {o : Oper} (hj : ops[j]? = some o) (hA : j ∈ A) (hdeps : ∀ d ∈ depsOf ops j, d ∈ L) {v : Value}
    (hv : ∀ d, o.dst = some d → E.get d = v) (hdst : dstOk n o.dst = true) : Inv P ops n (j :: L) (A.erase j) done pend E (a.put o.dst v) w := by
  have hput : Rel n (({ l := [], g := fun t => a.tmps.getD t undef, ds := E.ds } : Env).put o.dst v) (a.put o.dst v) := Rel.put (E := ({ l := [], g := fun t => a.tmps.getD t undef, ds := E.ds } : Env)) ⟨h.size, fun _ => rfl, h.defs⟩ hdst v
  refine ⟨fun k => ?_, fun k hk hL => ?_, h.nodup.erase j, h.ord.erase, h.closed.cons hdeps, hput.size, by have := hput.defs; rwa [put_ds] at this, fun t ht => ?_, fun k hk => h.val k (List.mem_of_mem_erase hk)⟩
  · rw [h.doneIff]
    by_cases hkj : k = j
    · subst hkj; simp [hA]
    · simp [hkj, List.mem_erase_of_ne hkj]
  · have hkA := List.mem_of_mem_erase hk
    rcases List.mem_cons.1 hL with rfl | hL
    · exact (h.nodup.not_mem_erase) hk
    · exact h.apart k hkA hL
  · rw [hput.get]
    by_cases htj : o.dst = some t
    · rw [htj, put_get_self, hv t htj]
    · rw [put_ne htj]
      refine h.frame t fun k hk ok hok' => ?_
      by_cases hkj : k = j
      · subst hkj; rw [hj] at hok'; cases hok'; exact htj
      · exact ht k ((List.mem_erase_of_ne hkj).2 hk) ok hok'

/-- An operation that acts comes up. -/
theorem Inv.acted (h : Inv P ops n L A done pend E a w) (hok : regOk P ops = true) {j : Nat} {o : Oper} (hj : ops[j]? = some o) (hnd : j ∉ done) (hdeps : ∀ d ∈ depsOf ops j, d ∈ L) {v : Value} {E' : Env} {w' : World}
    (hE : (∀ t, o.dst ≠ some t → E'.get t = E.get t) ∧ E'.ds = E.ds ∧ (∀ d, o.dst = some d → E'.get d = v)) (hdst : dstOk n o.dst = true)
    (hp : ∀ i s u, (i, s, u) ∈ (pend.filter fun p => !(anc ops j).contains p.1) → w' = w ∨ s.run P w' = .ok u w') :
    Inv P ops n (j :: L) A (j :: done) (pend.filter fun p => !(anc ops j).contains p.1) E' (a.put o.dst v) w' := by
  have hnA : j ∉ A := fun hA => hnd ((h.doneIff j).2 (.inr hA))
  have hput : Rel n (({ l := [], g := fun t => a.tmps.getD t undef, ds := E.ds } : Env).put o.dst v) (a.put o.dst v) := Rel.put (E := ({ l := [], g := fun t => a.tmps.getD t undef, ds := E.ds } : Env)) ⟨h.size, fun _ => rfl, h.defs⟩ hdst v
  have hapart : ∀ i ∈ A, i ∉ anc ops j := fun i hi hm => h.apart i hi (anc_sub h.closed hdeps i hm)
  refine ⟨fun k => ?_, fun k hk hL => ?_, h.nodup, h.ord.mono (fun x hx => List.mem_cons_of_mem _ hx), h.closed.cons hdeps, hput.size, by have := hput.defs; rw [put_ds] at this; rw [hE.2.1]; exact this, fun t ht => ?_, fun k hk => ?_⟩
  · simp only [List.mem_cons, h.doneIff, or_assoc]
  · rcases List.mem_cons.1 hL with rfl | hL
    · exact hnA hk
    · exact h.apart k hk hL
  · rw [hput.get]
    by_cases htj : o.dst = some t
    · rw [htj, put_get_self, hE.2.2 t htj]
    · rw [put_ne htj, hE.1 t htj]
      exact h.frame t ht
  · have h1 : Val P ops E' w pend k := by
      refine (h.val k hk).env hok (fun ok hok' t ht => hE.1 t fun hd => ?_) (fun _ hx => hx)
      obtain ⟨ok', hok2, hck, _⟩ := h.val k hk
      rw [hok'] at hok2; cases hok2
      have hkj : k ≠ j := fun e => hnA (e ▸ hk)
      rcases ht with ht | ht
      · rcases (regOk_pair hok hok' hj hck hkj).2 t hd ht with hm | hm
        · have hkdeps : ∀ d ∈ depsOf ops k, d ∈ done := fun d hd' => h.closedDone k ((h.doneIff k).2 (.inr hk)) d hd'
          exact hnd (anc_sub h.closedDone hkdeps j hm)
        · exact hapart k hk hm
      · exact ((regOk_pair hok hok' hj hck hkj).1 t ht).1 hd
    refine h1.world fun s v hm => ?_
    have hm' : (k, s, v) ∈ pend.filter fun p => !(anc ops j).contains p.1 := List.mem_filter.2 ⟨hm, by simpa using hapart k hk⟩
    exact ⟨hm', hp k s v hm'⟩
end

theorem mem_ready {ops : List Oper} {L : List Nat} {listed : Array Bool} (hL : ∀ i, i < ops.length → (listed.getD i true = true ↔ i ∈ L)) (hsz : listed.size = ops.length) (hlt : ∀ i ∈ L, i < ops.length) {i : Nat} :
    i ∈ Region.ready .any ops.toArray listed ↔ i ∈ rdy ops L := by
  rw [mem_rdy]
  unfold Region.ready
  simp only [List.mem_filter, List.mem_range, List.size_toArray, Bool.and_eq_true]
  constructor
  · rintro ⟨h1, h2, h3⟩
    refine ⟨h1, fun hm => ?_, fun d hd => ?_⟩
    · rw [(hL i h1).2 hm] at h2; simp at h2
    · have hi : ops[i]? = some ops[i] := List.getElem?_eq_getElem h1
      simp only [List.getElem?_toArray, hi, Option.map_some, Option.getD_some] at h3
      simp only [depsOf, hi, edgesOn, List.mem_map, List.mem_filter] at hd
      obtain ⟨e, ⟨he, hb⟩, rfl⟩ := hd
      have h4 := (Array.all_eq_true'.1 h3) e (by simpa using he)
      simp only [hb, Bool.not_true, Bool.false_or] at h4
      by_cases hd' : e.on < ops.length
      · refine (hL _ hd').1 ?_
        rw [Array.getD_eq_getD_getElem?] at h4 ⊢
        rw [Array.getElem?_eq_getElem (by omega)] at h4 ⊢
        simpa using h4
      · rw [Array.getD_eq_getD_getElem?, Array.getElem?_eq_none (by omega)] at h4
        simp at h4
  · rintro ⟨h1, h2, h3⟩
    refine ⟨h1, ?_, ?_⟩
    · cases hh : listed.getD i true with
      | false => rfl
      | true => exact absurd ((hL i h1).1 hh) h2
    · have hi : ops[i]? = some ops[i] := List.getElem?_eq_getElem h1
      simp only [List.getElem?_toArray, hi, Option.map_some, Option.getD_some]
      refine Array.all_eq_true'.2 fun e he => ?_
      cases hb : Region.binds .any e with
      | false => rfl
      | true =>
        have hd : e.on ∈ L := h3 e.on (by simp only [depsOf, hi, edgesOn, List.mem_map, List.mem_filter]; exact ⟨e, ⟨by simpa using he, hb⟩, rfl⟩)
        have := (hL _ (hlt _ hd)).2 hd
        rw [Array.getD_eq_getD_getElem?] at this ⊢
        rw [Array.getElem?_eq_getElem (by have := hlt _ hd; omega)] at this ⊢
        simpa using this

theorem vcD_sound {P : Program} (hP : NoNum P = true) {ro : Option Nat} {n : Nat} {ops : List Oper} (hok : regOk P ops = true) (hdst : (ops.all fun o => dstOk n o.dst) = true)
    {Q : Exit → Act → World → Prop} {K : Env → World → Prop} (hK : ∀ E a w, Rel n E a → K E w → Q .normal a w) :
    ∀ (m : Nat) (L A done : List Nat) (pend : Pend) (E : Env) (a : Act) (w : World) (fuel : Nat) (listed : Array Bool),
      Inv P ops n L A done pend E a w → (∀ i, i < ops.length → (listed.getD i true = true ↔ i ∈ L)) → listed.size = ops.length → (∀ i ∈ L, i < ops.length) →
      ((List.range ops.length).filter fun i => !L.contains i).length ≤ m → vcD P ops fuel done pend E w K →
      wpAnyIn (FR ro) 0 P .any ops.toArray Q m listed a w := by
  have finish : ∀ (L A done : List Nat) (pend : Pend) (E : Env) (a : Act) (w : World) (fuel : Nat), Inv P ops n L A done pend E a w → rdy ops L = [] → vcD P ops fuel done pend E w K → Q .normal a w := by
    intro L A done pend E a w fuel hI hr h
    have hA : A = [] := by
      apply Classical.byContradiction
      intro hne
      obtain ⟨i, hi, hd⟩ := hI.ord.first hne
      obtain ⟨o, ho, _⟩ := hI.val i hi
      have : i ∈ rdy ops L := mem_rdy.2 ⟨(List.getElem?_eq_some_iff.1 ho).1, hI.apart i hi, hd⟩
      rw [hr] at this; cases this
    subst hA
    have hrd : rdy ops done = [] := by
      apply List.eq_nil_iff_forall_not_mem.2
      intro i hi
      obtain ⟨h1, h2, h3⟩ := mem_rdy.1 hi
      have e : ∀ k, k ∈ done ↔ k ∈ L := fun k => by rw [hI.doneIff]; simp
      have : i ∈ rdy ops L := mem_rdy.2 ⟨h1, fun hm => h2 ((e i).2 hm), fun d hd => (e d).1 (h3 d hd)⟩
      rw [hr] at this; cases this
    cases fuel with
    | zero => exact h.elim
    | succ fuel =>
      simp only [vcD, hrd, List.find?_nil] at h
      exact hK E a w ⟨hI.size, fun t => hI.frame t (fun i hi => by cases hi), hI.defs⟩ h
  intro m
  induction m with
  | zero =>
    intro L A done pend E a w fuel listed hI hL hsz hlt hm h
    have hr : rdy ops L = [] := by
      apply List.eq_nil_iff_forall_not_mem.2
      intro i hi
      obtain ⟨h1, h2, _⟩ := mem_rdy.1 hi
      have : i ∈ (List.range ops.length).filter fun i => !L.contains i := List.mem_filter.2 ⟨List.mem_range.2 h1, by simpa using h2⟩
      have := List.length_pos_of_mem this
      omega
    refine ⟨?_, finish L A done pend E a w fuel hI hr h⟩
    apply List.eq_nil_iff_forall_not_mem.2
    intro i hi
    rw [mem_ready hL hsz hlt, hr] at hi; cases hi
  | succ m ih =>
    intro L A done pend E a w fuel listed hI hL hsz hlt hm h
    refine ⟨fun hr => finish L A done pend E a w fuel hI ?_ h, fun j hj => ?_⟩
    · apply List.eq_nil_iff_forall_not_mem.2
      intro i hi
      rw [← mem_ready hL hsz hlt, hr] at hi; cases hi
    · have hjr : j ∈ rdy ops L := (mem_ready hL hsz hlt).1 hj
      obtain ⟨hjlt, hjL, hjd⟩ := mem_rdy.1 hjr
      have hjo : ops[j]? = some ops[j] := List.getElem?_eq_getElem hjlt
      have hdj : dstOk n (ops[j]).dst = true := List.all_eq_true.1 hdst _ (List.getElem_mem hjlt)
      have hL' : ∀ i, i < ops.length → ((listed.setIfInBounds j true).getD i true = true ↔ i ∈ j :: L) := by
        intro i hi
        by_cases hij : j = i
        · subst hij; simp [hsz, hi]
        · have : (listed.setIfInBounds j true).getD i true = listed.getD i true := by
            simp [hij]
          rw [this, hL i hi]
          simp [Ne.symm hij]
      have hsz' : (listed.setIfInBounds j true).size = ops.length := by simpa using hsz
      have hlt' : ∀ i ∈ j :: L, i < ops.length := fun i hi => by
        rcases List.mem_cons.1 hi with rfl | hi
        · exact hjlt
        · exact hlt i hi
      have hm' : ((List.range ops.length).filter fun i => !(j :: L).contains i).length ≤ m := by
        have e : ((List.range ops.length).filter fun i => !(j :: L).contains i) = (((List.range ops.length).filter fun i => !L.contains i).filter fun i => !(i == j)) := by
          rw [List.filter_filter]
          apply List.filter_congr
          intro x _
          simp only [List.contains_cons, Bool.not_or]
        have hmem : j ∈ (List.range ops.length).filter fun i => !L.contains i := List.mem_filter.2 ⟨List.mem_range.2 hjlt, by simpa using hjL⟩
        have h5 : (((List.range ops.length).filter fun i => !L.contains i).filter fun i => !(i == j)).length < ((List.range ops.length).filter fun i => !L.contains i).length :=
          List.length_filter_lt_length_iff_exists.2 ⟨j, hmem, by simp⟩
        rw [e]
        omega
      obtain ⟨fuel', A', done', pend', E', hI', h', hcase⟩ := adv hok hjr fuel A done pend E hI h
      have hlook := hI'.look hok hjo hjL hjd
      have hex := execOp_agree (a := a) (E := E') (regOk_noDefer hok hjo) hlook
      have hwa := yielded_eq (a := a) (E := E') (o := ops[j]) hlook
      unfold wpOpIn
      simp only [List.getElem?_toArray, hjo]
      rw [hwa]
      rcases hcase with hA | ⟨hnd, hnone⟩
      · obtain ⟨o, ho, hc, hv⟩ := hI'.val j hA
        rw [hjo] at ho; cases ho
        rcases hv with ⟨hw, v, hd, hr, _⟩ | ⟨hw, hd⟩
        · rw [if_pos hw]
          refine ⟨fun f _ => FR.fn ro f, ?_⟩
          rw [FR.round, Oper.semAt_eq ro a.eval _ (fun c hc' => by have := regOk_noDefer hok hjo; rw [hc'] at this; cases this), hex, hr]
          exact ih _ _ _ _ _ _ _ fuel' _ (hI'.took hok hjo hA hjd hd hdj) hL' hsz' hlt' hm' h'
        · rw [if_neg (by rw [hw]; simp)]
          exact ⟨fun f _ => FR.fn ro f, ih _ _ _ _ _ _ _ fuel' _ (hI'.took hok hjo hA hjd hd hdj) hL' hsz' hlt' hm' h'⟩
      · cases fuel' with
        | zero => exact h'.elim
        | succ fuel' =>
          have hjr' : j ∈ rdy ops done' := mem_rdy.2 ⟨hjlt, hnd, fun d hd => (hI'.doneIff d).2 (.inl (hjd d hd))⟩
          simp only [vcD, hnone] at h'
          have h2 : ∀ rs, rdy ops done' = rs → (match rs with | [] => K E' w | rs => allL (fun j => match ops[j]? with
              | none => False
              | some o => grd ops o E' (fun E => wOp P (ev E) o w fun v w' => reval P w' (pend'.filter fun p => !(anc ops j).contains p.1) (vcD P ops fuel' (j :: done') (pend'.filter fun p => !(anc ops j).contains p.1) (E.put o.dst v) w' K))
                (fun E => vcD P ops fuel' (j :: done') (pend'.filter fun p => !(anc ops j).contains p.1) (E.skip o.dst) w K)) rs) →
              grd ops ops[j] E' (fun E => wOp P (ev E) ops[j] w fun v w' => reval P w' (pend'.filter fun p => !(anc ops j).contains p.1) (vcD P ops fuel' (j :: done') (pend'.filter fun p => !(anc ops j).contains p.1) (E.put (ops[j]).dst v) w' K))
                (fun E => vcD P ops fuel' (j :: done') (pend'.filter fun p => !(anc ops j).contains p.1) (E.skip (ops[j]).dst) w K) := by
            intro rs hrs hh
            cases rs with
            | nil => rw [hrs] at hjr'; cases hjr'
            | cons k rs =>
              have := allL_mem hh j (hrs ▸ hjr')
              rw [hjo] at this
              exact this
          have h3 := h2 _ rfl h'
          rcases grd_cases h3 with ⟨hw, E1, hs, hy⟩ | ⟨hw, E1, hs, hno⟩
          · rw [if_pos hw]
            have hI1 := hI'.same hs hok
            refine wpIn_of_rn (ρ := ev E1) (regOk_noDefer hok hjo) (by rw [hex, hs.ev]) (wOp_sound hP (ev_func E1) hy) fun v w' hv => ?_
            obtain ⟨hv1, hv2⟩ := reval_out hv
            exact ih _ _ _ _ _ _ _ fuel' _ (hI1.acted hok hjo hnd hjd ⟨fun t ht => put_ne ht, put_ds _ _ _, fun d hd => by rw [hd]; exact put_get_self⟩ hdj (fun i s u hm => .inr (hv2 i s u hm))) hL' hsz' hlt' hm' hv1
          · rw [if_neg (by rw [hw]; simp)]
            have hI1 := hI'.same hs hok
            refine ⟨fun f _ => FR.fn ro f, ?_⟩
            have hI2 := hI1.acted (v := undef) (w' := w) (E' := E1.skip (ops[j]).dst) hok hjo hnd hjd ⟨fun t ht => skip_ne ht, skip_ds _ _, fun d hd => by rw [hd]; exact skip_get_self⟩ hdj (fun i s u hm => .inl rfl)
            exact ih _ _ _ _ _ _ _ fuel' _ hI2 hL' hsz' hlt' hm' hno
end Go.Vc
