/-
  The computed calculus, code: its soundness; a function's contract.
  Conditions: none; nothing here speaks of a program.
-/
import Derived.Test.YteldcaeicgobfaaVcCode
set_option linter.unusedSimpArgs false
set_option linter.unusedVariables false
namespace Go.Vc
open Go

/-! ### Monotony, and what code leaves alone of the frame -/

theorem rv_mono {P : Program} {s : Sem Value} {w : World} {K K' : Kont} (h : rv P s w K) (hk : ∀ v w', K v w' → K' v w') : rv P s w K' := by
  rw [rv_iff] at *
  unfold rvD at *
  split at h
  · exact hk _ _ h
  · exact h.elim
theorem ru_mono {P : Program} {s : Sem Unit} {w : World} {K K' : World → Prop} (h : ru P s w K) (hk : ∀ w', K w' → K' w') : ru P s w K' := by
  rw [ru_iff] at *
  unfold ruD at *
  split at h
  · exact hk _ h
  · exact h.elim
theorem rn_mono {P : Program} {s : Sem Next} {w : World} {K K' : Kont} (h : rn P s w K) (hk : ∀ v w', K v w' → K' v w') : rn P s w K' := by
  rw [rn_iff] at *
  unfold rnD at *
  split at h
  · exact hk _ _ h
  · exact hk _ _ h
  · exact Ca.mono h hk
  · exact h.mono fun _ _ ⟨v, he, hv⟩ => ⟨v, he, hk _ _ hv⟩
  · exact h.elim
theorem isB_mono {v : Value} {K K' : Bool → Prop} (h : isB v K) (hk : ∀ b, K b → K' b) : isB v K' := by
  unfold isB at *
  split at h
  · exact hk _ h
  · exact h.elim
theorem nilK_mono {v : Value} {K K' : Value → Prop} (h : nilK v K) (hk : ∀ b, K b → K' b) : nilK v K' := by
  unfold nilK at *
  split at h
  · exact hk _ h
  · exact h.elim
theorem callV_mono {P : Program} {fv : Value} {args : List Value} {w : World} {K K' : Kont} (h : callV P fv args w K) (hk : ∀ v w', K v w' → K' v w') : callV P fv args w K' := by
  rw [callV_iff] at *
  unfold callD at *
  split at h
  · exact Ca.mono h hk
  · exact Yl.mono h hk
  · exact h.elim
theorem rdW_mono {P : Program} {s : Sem Value} {w : World} {K K' : Value → Prop} (h : rdW P s w K) (hk : ∀ v, K v → K' v) : rdW P s w K' := by
  rw [rdW_iff] at *
  unfold rdWD at *
  split at h
  · exact ⟨h.1, hk _ h.2⟩
  · exact h.elim
theorem rx_mono {P : Program} {s : Sem Value} {w : World} {K K' : Kont} (h : rx P s w K) (hk : ∀ v w', K v w' → K' v w') : rx P s w K' := ⟨rv_mono h.out hk⟩
theorem rux_mono {P : Program} {s : Sem Unit} {w : World} {K K' : World → Prop} (h : rux P s w K) (hk : ∀ w', K w' → K' w') : rux P s w K' := ⟨ru_mono h.out hk⟩
theorem rdX_mono {P : Program} {s : Sem Value} {w : World} {K K' : Value → Prop} (h : rdX P s w K) (hk : ∀ v, K v → K' v) : rdX P s w K' := ⟨rdW_mono h.out hk⟩
theorem rdP_mono {P : Program} {s : Sem Value} {K K' : Value → Prop} (h : rdP P s K) (hk : ∀ v, K v → K' v) : rdP P s K' :=
  let ⟨v, h1, h2⟩ := h.out
  ⟨⟨v, h1, hk _ h2⟩⟩
theorem rdPX_mono {P : Program} {s : Sem Value} {K K' : Value → Prop} (h : rdPX P s K) (hk : ∀ v, K v → K' v) : rdPX P s K' := ⟨rdP_mono h.out hk⟩
theorem quickK_mono {ρ : Operand → Value} {op : Op} {K K' : Value → Prop} (h : quickK ρ op K) (hk : ∀ v, K v → K' v) : quickK ρ op K' := by
  unfold quickK at *
  cases op <;> simp only at h ⊢ <;> first | exact hk _ h | exact isB_mono h (fun _ => hk _) | exact nilK_mono h hk | exact h.elim

theorem wOp_mono {P : Program} {ρ : Operand → Value} {o : Oper} {w : World} {K K' : Kont} (h : wOp P ρ o w K) (hk : ∀ v w', K v w' → K' v w') : wOp P ρ o w K' := by
  unfold wOp at *
  cases hop : o.op <;> rw [hop] at h <;> simp only at h ⊢ <;>
    first
      | exact rv_mono h hk
      | exact rx_mono h hk
      | exact ru_mono h (fun _ => hk _ _)
      | exact rux_mono h (fun _ => hk _ _)
      | exact hk _ _ h
      | exact isB_mono h (fun _ => hk _ _)
      | exact nilK_mono h (fun _ => hk _ _)
      | exact rn_mono h hk
      | exact h.elim
      | (split at h <;> first | exact rv_mono h hk | exact rx_mono h hk | exact ru_mono h (fun _ => hk _ _) | exact rux_mono h (fun _ => hk _ _))
      | skip
  rename_i c
  cases hc : c.callee with
  | value f =>
    rw [hc] at h
    cases f <;> simp only at h ⊢ <;> first | exact callV_mono h hk | (split at h <;> first | exact ⟨rn_mono h.out hk⟩ | exact Ca.mono h hk)
  | builtin b => rw [hc] at h; cases b <;> first | exact rx_mono h hk | exact rn_mono h hk
  | invoke r m => rw [hc] at h; exact rn_mono h hk

theorem grd_mono {ops : List Oper} {o : Oper} {E : Env} {yes no yes' no' : Env → Prop} (h : grd ops o E yes no)
    (hy : ∀ E', E.Same E' → yes E' → yes' E') (hn : ∀ E', E.Same E' → no E' → no' E') : grd ops o E yes' no' := by
  unfold grd at *
  cases hg : o.guard with
  | none => rw [hg] at h; exact hy E (.refl E) h
  | some g =>
    obtain ⟨j, want⟩ := g
    rw [hg] at h
    simp only at h ⊢
    cases hs : gslot ops j with
    | none => rw [hs] at h; exact hn E (.refl E) h
    | some s =>
      rw [hs] at h
      simp only at h ⊢
      cases hk : E.skipped s with
      | true => rw [hk] at h; exact hn E (.refl E) h
      | false =>
        rw [hk] at h
        simp only [isB] at h ⊢
        cases hv : E.get s <;> rw [hv] at h <;> first | exact h.elim | skip
        rename_i b
        cases b <;> cases want <;> first | exact hy _ (Env.same_put hv) h | exact hn _ (Env.same_put hv) h

/-- E' is E but at the slots 'ds'. -/
def Fr (ds : List Nat) (E E' : Env) : Prop := ∀ t, t ∉ ds → E'.get t = E.get t
theorem Fr.refl (ds : List Nat) (E : Env) : Fr ds E E := fun _ _ => rfl
theorem Fr.trans {ds : List Nat} {E E1 E2 : Env} (h : Fr ds E E1) (h' : Fr ds E1 E2) : Fr ds E E2 := fun t ht => (h' t ht).trans (h t ht)
theorem Fr.mono {ds ds' : List Nat} {E E1 : Env} (h : Fr ds E E1) (hs : ∀ t ∈ ds, t ∈ ds') : Fr ds' E E1 := fun t ht => h t fun hm => ht (hs t hm)
theorem Fr.put {ds : List Nat} (E : Env) {d : Option Nat} (v : Value) (hd : ∀ t, d = some t → t ∈ ds) : Fr ds E (E.put d v) := fun t ht => put_ne fun e => ht (hd t e)
theorem Fr.skip {ds : List Nat} (E : Env) {d : Option Nat} (hd : ∀ t, d = some t → t ∈ ds) : Fr ds E (E.skip d) := fun t ht => skip_ne fun e => ht (hd t e)
theorem Fr.of_same {ds : List Nat} {E E' : Env} (h : E.Same E') : Fr ds E E' := fun t _ => h.1 t

theorem vcList_mono {P : Program} {ops : List Oper} {K K' : Env → World → Prop} {ds : List Nat} : ∀ (l : List Oper), (∀ o ∈ l, ∀ t, o.dst = some t → t ∈ ds) → ∀ (E : Env) (w : World), vcList P ops l E w K →
    (∀ E' w', Fr ds E E' → E'.ds = E.ds → K E' w' → K' E' w') → vcList P ops l E w K' := by
  intro l
  induction l with
  | nil => exact fun _ E w h hk => hk E w (.refl _ _) rfl h
  | cons o rest ih =>
    intro hl E w h hk
    have ho := hl o List.mem_cons_self
    have hr : ∀ o ∈ rest, ∀ t, o.dst = some t → t ∈ ds := fun o' h' => hl o' (List.mem_cons_of_mem _ h')
    refine grd_mono h (fun E1 hs hy => wOp_mono hy fun v w' hv => ih hr _ _ hv fun E' w'' hf hd hK => hk E' w'' ?_ ?_ hK) (fun E1 hs hn => ih hr _ _ hn fun E' w'' hf hd hK => hk E' w'' ?_ ?_ hK)
    · exact ((Fr.of_same hs).trans (Fr.put E1 v ho)).trans hf
    · rw [hd, put_ds, hs.2]
    · exact ((Fr.of_same hs).trans (Fr.skip E1 ho)).trans hf
    · rw [hd, skip_ds, hs.2]

theorem allL_mono {F G : Nat → Prop} (h : ∀ j, F j → G j) : ∀ {l : List Nat}, allL F l → allL G l
  | [], _ => trivial
  | [_], hf => h _ hf
  | _ :: k :: l, hf => ⟨h _ hf.1, allL_mono h (l := k :: l) hf.2⟩
theorem reval_mono {P : Program} {w : World} {R R' : Prop} (h : R → R') : ∀ {p : Pend}, reval P w p R → reval P w p R'
  | [], hr => h hr
  | _ :: _, hr => ⟨hr.1, reval_mono h hr.2⟩

theorem vcD_mono {P : Program} {ops : List Oper} {K K' : Env → World → Prop} {ds : List Nat} (hl : ∀ o ∈ ops, ∀ t, o.dst = some t → t ∈ ds) : ∀ (fuel : Nat) (done : List Nat) (pend : Pend) (E : Env) (w : World), vcD P ops fuel done pend E w K →
    (∀ E' w', Fr ds E E' → E'.ds = E.ds → K E' w' → K' E' w') → vcD P ops fuel done pend E w K' := by
  intro fuel
  induction fuel with
  | zero => intro _ _ _ _ h; exact h.elim
  | succ fuel ih =>
    intro done pend E w h hk
    have stepP : ∀ (o : Oper) (v : Value) (E1 : Env), o ∈ ops → E.Same E1 → ∀ E' w', Fr ds (E1.put o.dst v) E' → E'.ds = (E1.put o.dst v).ds → K E' w' → K' E' w' := by
      intro o v E1 ho hs E' w' hf hd hK
      exact hk E' w' (((Fr.of_same hs).trans (Fr.put E1 v (hl o ho))).trans hf) (by rw [hd, put_ds, hs.2]) hK
    have stepS : ∀ (o : Oper) (E1 : Env), o ∈ ops → E.Same E1 → ∀ E' w', Fr ds (E1.skip o.dst) E' → E'.ds = (E1.skip o.dst).ds → K E' w' → K' E' w' := by
      intro o E1 ho hs E' w' hf hd hK
      exact hk E' w' (((Fr.of_same hs).trans (Fr.skip E1 (hl o ho))).trans hf) (by rw [hd, skip_ds, hs.2]) hK
    simp only [vcD] at h ⊢
    split at h
    · rename_i i hi
      split at h
      · exact h.elim
      · rename_i o ho
        have hmem : o ∈ ops := List.mem_of_getElem? ho
        refine grd_mono h (fun E1 hs hy => ?_) (fun E1 hs hn => ih _ _ _ _ hn (stepS o E1 hmem hs))
        split at hy
        · exact quickK_mono hy fun v hv => ih _ _ _ _ hv (stepP o v E1 hmem hs)
        · split at hy
          · (split at hy <;> first | exact rdP_mono hy fun v hv => ih _ _ _ _ hv (stepP o v E1 hmem hs) | exact rdPX_mono hy fun v hv => ih _ _ _ _ hv (stepP o v E1 hmem hs))
          · exact hy.elim
        · split at hy
          · (split at hy <;> first | exact rdW_mono hy fun v hv => ih _ _ _ _ hv (stepP o v E1 hmem hs) | exact rdX_mono hy fun v hv => ih _ _ _ _ hv (stepP o v E1 hmem hs))
          · exact hy.elim
    · split at h
      · exact hk E w (.refl _ _) rfl h
      · refine allL_mono (fun j hj => ?_) h
        cases ho : ops[j]? with
        | none => rw [ho] at hj; exact hj.elim
        | some o =>
          rw [ho] at hj
          have hmem : o ∈ ops := List.mem_of_getElem? ho
          exact grd_mono hj (fun E1 hs hy => wOp_mono hy fun v w' hv => reval_mono (fun hh => ih _ _ _ _ hh (stepP o v E1 hmem hs)) hv) (fun E1 hs hn => ih _ _ _ _ hn (stepS o E1 hmem hs))

theorem LoopW.mono {S : Type} {body body' : S → World → (S → World → Prop) → Prop} {s : S} {w : World} (h : LoopW body s w)
    (hb : ∀ s w K, body s w K → body' s w K) : LoopW body' s w :=
  let ⟨I, m, h0, h1⟩ := h.out
  ⟨⟨I, m, h0, fun s w hi => hb _ _ _ (h1 s w hi)⟩⟩

theorem look_putTup {r : List (Nat × Option Value)} {t : Nat} : ∀ {l : List Nat} {s : Tup l}, t ∉ l → Env.look (putTup l s r) t = Env.look r t
  | [], _, _ => rfl
  | k :: l, s, ht => by
    have hkt : Nat.beq k t = false := by
      cases hb : Nat.beq k t with
      | false => rfl
      | true => exact absurd (by rw [Nat.eq_of_beq_eq_true hb]; exact List.mem_cons_self) ht
    simp only [putTup, Env.look, hkt, cond_false]
    exact look_putTup fun hm => ht (List.mem_cons_of_mem _ hm)
theorem look_putTup_of {r : List (Nat × Option Value)} {t : Nat} {E : Env} : ∀ {l : List Nat}, t ∈ l → Env.look (putTup l (tupOf E l) r) t = some (some (E.get t))
  | k :: l, ht => by
    simp only [putTup, tupOf, Env.look]
    cases hb : Nat.beq k t with
    | true => rw [Nat.eq_of_beq_eq_true hb]; rfl
    | false =>
      simp only [cond_false]
      refine look_putTup_of ?_
      rcases List.mem_cons.1 ht with e | e
      · subst e; simp at hb
      · exact e
theorem liveOf_sub {ds : List Nat} : ∀ {l : List (Nat × Option Value)} {acc : List Nat}, (∀ t ∈ acc, t ∈ ds) → ∀ t ∈ liveOf ds l acc, t ∈ ds
  | [], acc, ha, t, ht => ha t (by simpa [liveOf] using ht)
  | (k, v) :: r, acc, ha, t, ht => by
    unfold liveOf at ht
    cases hc : ds.contains k && !acc.contains k with
    | true =>
      rw [hc] at ht
      refine liveOf_sub (fun x hx => ?_) t ht
      rcases List.mem_cons.1 hx with rfl | hx
      · simp only [Bool.and_eq_true] at hc; simpa using hc.1
      · exact ha x hx
    | false => rw [hc] at ht; exact liveOf_sub ha t ht
theorem liveOf_acc {ds : List Nat} : ∀ {l : List (Nat × Option Value)} {acc : List Nat} {t : Nat}, t ∈ acc → t ∈ liveOf ds l acc
  | [], acc, t, ht => by simpa [liveOf] using ht
  | (k, v) :: r, acc, t, ht => by
    unfold liveOf
    cases ds.contains k && !acc.contains k with
    | true => exact liveOf_acc (List.mem_cons_of_mem _ ht)
    | false => exact liveOf_acc ht
theorem liveOf_all {ds : List Nat} : ∀ {l : List (Nat × Option Value)} {acc : List Nat} {t : Nat}, t ∈ ds → Env.look l t ≠ none → t ∈ liveOf ds l acc
  | [], _, _, _, h => absurd rfl h
  | (k, v) :: r, acc, t, ht, h => by
    unfold liveOf
    cases hb : Nat.beq k t with
    | true =>
      obtain rfl := Nat.eq_of_beq_eq_true hb
      have hk : ds.contains k = true := by simpa using ht
      cases ha : acc.contains k with
      | true =>
        simp only [hk, Bool.not_true, Bool.and_false]
        exact liveOf_acc (by simpa using ha)
      | false =>
        simp only [hk, Bool.not_false, Bool.and_true]
        exact liveOf_acc List.mem_cons_self
    | false =>
      have h' : Env.look r t ≠ none := by simpa [Env.look, hb] using h
      cases ds.contains k && !acc.contains k with
      | true => exact liveOf_all ht h'
      | false => exact liveOf_all ht h'

theorem addU_sub {ds : List Nat} : ∀ {l acc : List Nat}, (∀ t ∈ acc, t ∈ ds) → ∀ t ∈ addU ds l acc, t ∈ ds
  | [], acc, ha, t, ht => ha t (by simpa [addU] using ht)
  | k :: r, acc, ha, t, ht => by
    unfold addU at ht
    cases hc : ds.contains k && !acc.contains k with
    | true =>
      rw [hc] at ht
      refine addU_sub (fun x hx => ?_) t ht
      rcases List.mem_cons.1 hx with rfl | hx
      · simp only [Bool.and_eq_true] at hc; simpa using hc.1
      · exact ha x hx
    | false => rw [hc] at ht; exact addU_sub ha t ht
theorem addU_acc {ds : List Nat} : ∀ {l acc : List Nat} {t : Nat}, t ∈ acc → t ∈ addU ds l acc
  | [], acc, t, ht => by simpa [addU] using ht
  | k :: r, acc, t, ht => by
    unfold addU
    cases ds.contains k && !acc.contains k with
    | true => exact addU_acc (List.mem_cons_of_mem _ ht)
    | false => exact addU_acc ht
theorem liveJ_sub {ds : List Nat} {l : List (Nat × Option Value)} {us : List Nat} : ∀ t ∈ liveJ ds l us, t ∈ ds := addU_sub (liveOf_sub (by simp))
theorem liveJ_all {ds : List Nat} {l : List (Nat × Option Value)} {us : List Nat} {t : Nat} (ht : t ∈ ds) (h : Env.look l t ≠ none) : t ∈ liveJ ds l us := addU_acc (liveOf_all ht h)
theorem headE_frJ {E : Env} {ds live : List Nat} {s : Tup live} {g : Nat → Value} {mk : List Nat} (hs : ∀ t ∈ live, t ∈ ds) : Fr ds E (headE E ds live s g mk) := by
  intro t ht
  have hl : t ∉ live := fun hm => ht (hs t hm)
  have hc : ds.contains t = false := by simpa using ht
  unfold Env.get headE
  simp only [look_putTup hl, hc]
theorem joins_rf {a b : Code} (h : joins a b = true) : hasRF a = false := by
  simp only [joins, Bool.and_eq_true, Bool.not_eq_true'] at h
  exact h.1.2

theorem headE_fr {E : Env} {ds : List Nat} {s : Tup (liveOf ds E.l [])} {g : Nat → Value} {mk : List Nat} : Fr ds E (headE E ds (liveOf ds E.l []) s g mk) := by
  intro t ht
  have hl : t ∉ liveOf ds E.l [] := fun hm => ht (liveOf_sub (by simp) t hm)
  have hc : ds.contains t = false := by simpa using ht
  unfold Env.get headE
  simp only [look_putTup hl, hc]

theorem vc_mono {P : Program} {jn : Bool} : ∀ (c : Code) (ro : Option Nat) (Q Q' : Exit → Env → World → Prop) (E : Env) (w : World), vc P jn ro c Q E w →
    (∀ e E' w', Fr (dstsOf c) E E' → (hasRF c = false → E'.ds = E.ds) → Q e E' w' → Q' e E' w') → vc P jn ro c Q' E w := by
  intro c
  induction c with
  | skip => intro ro Q Q' E w h hq; exact hq _ _ _ (.refl _ _) (fun _ => rfl) h
  | region id ops draw =>
    intro ro Q Q' E w h hq
    have hd : ∀ o ∈ ops.toList, ∀ t, o.dst = some t → t ∈ dstsOf (.region id ops draw) := fun o ho t ht => List.mem_filterMap.2 ⟨o, ho, ht⟩
    cases draw with
    | false => exact vcList_mono _ hd _ _ h fun E' w' hf hds hK => hq _ _ _ hf (fun _ => hds) hK
    | true => exact vcD_mono hd _ _ _ _ _ h fun E' w' hf hds hK => hq _ _ _ hf (fun _ => hds) hK
  | seq a b iha ihb =>
    intro ro Q Q' E w h hq
    simp only [vc] at h ⊢
    cases hj : jn && joins a b with
    | true =>
      rw [hj] at h
      simp only [force_eq] at h ⊢
      obtain ⟨J, hJ, hA⟩ := h.out
      simp only [Bool.and_eq_true] at hj
      have hrf := joins_rf hj.2
      refine ⟨⟨J, fun s w1 hs g => ihb ro _ _ _ w1 (hJ s w1 hs g) fun e E' w' hf hd hQ => hq e E' w' (((headE_frJ liveJ_sub).mono fun t ht => List.mem_append_left _ ht).trans (hf.mono fun t ht => List.mem_append_right _ ht)) (fun hh => hd (by simp only [hasRF, Bool.or_eq_false_iff] at hh; exact hh.2)) hQ, ?_⟩⟩
      refine iha ro _ _ E w hA fun e E' w' hf hd hQ => ?_
      have hf' : Fr (dstsOf (.seq a b)) E E' := hf.mono fun t ht => List.mem_append_left _ ht
      cases e with
      | normal => exact hQ
      | exit id => exact hq _ _ _ hf' (fun _ => hd hrf) hQ
      | goto id => exact hq _ _ _ hf' (fun _ => hd hrf) hQ
      | ret => exact hq _ _ _ hf' (fun _ => hd hrf) hQ
      | panic ch => exact hq _ _ _ hf' (fun _ => hd hrf) hQ
      | outgrown => exact hq _ _ _ hf' (fun _ => hd hrf) hQ
    | false =>
    rw [hj] at h
    refine iha ro _ _ E w h fun e E1 w1 hf1 hd1 hQ => ?_
    have hf1' : Fr (dstsOf (.seq a b)) E E1 := hf1.mono fun t ht => List.mem_append_left _ ht
    have hda : hasRF (.seq a b) = false → E1.ds = E.ds := fun hh => hd1 (by simp only [hasRF, Bool.or_eq_false_iff] at hh; exact hh.1)
    cases e with
    | normal =>
      refine ihb ro _ _ E1 w1 hQ fun e E2 w2 hf2 hd2 hQ2 => hq e E2 w2 (hf1'.trans (hf2.mono fun t ht => List.mem_append_right _ ht)) (fun hh => ?_) hQ2
      rw [hd2 (by simp only [hasRF, Bool.or_eq_false_iff] at hh; exact hh.2), hda hh]
    | exit id => exact hq _ _ _ hf1' hda hQ
    | goto id => exact hq _ _ _ hf1' hda hQ
    | ret => exact hq _ _ _ hf1' hda hQ
    | panic ch => exact hq _ _ _ hf1' hda hQ
    | outgrown => exact hq _ _ _ hf1' hda hQ
  | cond c t f iht ihf =>
    intro ro Q Q' E w h hq
    refine isB_mono h fun b hb => ?_
    cases b with
    | true => exact iht ro _ _ E w hb fun e E' w' hf hd hQ => hq e E' w' (hf.mono fun t ht => List.mem_append_left _ ht) (fun hh => hd (by simp only [hasRF, Bool.or_eq_false_iff] at hh; exact hh.1)) hQ
    | false => exact ihf ro _ _ E w hb fun e E' w' hf hd hQ => hq e E' w' (hf.mono fun t ht => List.mem_append_right _ ht) (fun hh => hd (by simp only [hasRF, Bool.or_eq_false_iff] at hh; exact hh.2)) hQ
  | block id c ih =>
    intro ro Q Q' E w h hq
    refine ih ro _ _ E w h fun e E' w' hf hd hQ => ?_
    cases e with
    | exit i =>
      simp only at hQ ⊢
      cases hb : Nat.beq i id <;> rw [hb] at hQ <;> exact hq _ _ _ hf hd hQ
    | normal => exact hq _ _ _ hf hd hQ
    | goto id => exact hq _ _ _ hf hd hQ
    | ret => exact hq _ _ _ hf hd hQ
    | panic ch => exact hq _ _ _ hf hd hQ
    | outgrown => exact hq _ _ _ hf hd hQ
  | loop c ih =>
    intro ro Q Q' E w h hq
    simp only [vc, force_eq] at h ⊢
    cases hrf : hasRF c with
    | false =>
      rw [hrf] at h
      refine h.mono fun s w1 K hb g => ih ro _ _ _ w1 (hb g) fun e E' w' hf hd hQ => ?_
      have hf' : Fr (dstsOf (.loop c)) E E' := headE_fr.trans hf
      have hd' : hasRF (.loop c) = false → E'.ds = E.ds := fun hh => hd hrf
      cases e with
      | normal => exact hQ
      | exit id => exact hq _ _ _ hf' hd' hQ
      | goto id => exact hq _ _ _ hf' hd' hQ
      | ret => exact hq _ _ _ hf' hd' hQ
      | panic ch => exact hq _ _ _ hf' hd' hQ
      | outgrown => exact hq _ _ _ hf' hd' hQ
    | true =>
      rw [hrf] at h
      refine h.mono fun s w1 K hb g => ih ro _ _ _ w1 (hb g) fun e E' w' hf hd hQ => ?_
      have hf' : Fr (dstsOf (.loop c)) E E' := headE_fr.trans hf
      have hd' : hasRF (.loop c) = false → E'.ds = E.ds := fun hh => by simp only [hasRF] at hh; rw [hrf] at hh; cases hh
      cases e with
      | normal => exact hQ
      | exit id => exact hq _ _ _ hf' hd' hQ
      | goto id => exact hq _ _ _ hf' hd' hQ
      | ret => exact hq _ _ _ hf' hd' hQ
      | panic ch => exact hq _ _ _ hf' hd' hQ
      | outgrown => exact hq _ _ _ hf' hd' hQ
  | rangeFunc gv ps assign body _ _ =>
    intro ro Q Q' E w h hq
    simp only [vc, RFW_iff, RFD] at h ⊢
    split at h
    · rename_i f first captured hgv
      unfold enterR at h ⊢
      have hfr : ∀ mk : List Nat, Fr (dstsOf (.rangeFunc gv ps assign body)) E { E with ds := mk ++ E.ds } := fun mk t _ => rfl
      have key : ∀ (mk : List Nat) (pend : Option Code) (W : World),
          afterK (fun W => Q .normal { E with ds := mk ++ E.ds } W) (fun W => Q .ret { E with ds := mk ++ E.ds } W) (fun id W => Q (.exit id) { E with ds := mk ++ E.ds } W) pend W →
          afterK (fun W => Q' .normal { E with ds := mk ++ E.ds } W) (fun W => Q' .ret { E with ds := mk ++ E.ds } W) (fun id W => Q' (.exit id) { E with ds := mk ++ E.ds } W) pend W := by
        intro mk pend W hh
        unfold afterK at *
        split at hh
        · exact hq _ _ _ (hfr mk) (fun h => by cases h) hh
        · exact hq _ _ _ (hfr mk) (fun h => by cases h) hh
        · exact hq _ _ _ (hfr mk) (fun h => by cases h) hh
        · exact hh.elim
      cases ro with
      | none =>
        intro rec h1 h2 h3 hy
        refine (h rec h1 h2 h3 hy).mono ?_
        rintro v W ⟨r, hr, hb, ha⟩
        exact ⟨r, hr, hb, key _ _ _ ha⟩
      | some l0 =>
        obtain ⟨r0, hr0, h⟩ := h
        refine ⟨r0, hr0, fun rec h1 h2 h3 hy => ?_⟩
        refine (h rec h1 h2 h3 hy).mono ?_
        rintro v W ⟨r, hr, hb, ha⟩
        exact ⟨r, hr, hb, key _ _ _ ha⟩
    · exact h.elim
  | exit id => intro ro Q Q' E w h hq; exact hq _ _ _ (.refl _ _) (fun _ => rfl) h
  | scope c ih => intro ro Q Q' E w h hq; exact h.elim
  | label l => intro ro Q Q' E w h hq; exact hq _ _ _ (.refl _ _) (fun _ => rfl) h
  | goto l => intro ro Q Q' E w h hq; exact h.elim
  | ret => intro ro Q Q' E w h hq; exact hq _ _ _ (.refl _ _) (fun _ => rfl) h
  | refuse why => intro ro Q Q' E w h hq; exact h.elim
end Go.Vc
