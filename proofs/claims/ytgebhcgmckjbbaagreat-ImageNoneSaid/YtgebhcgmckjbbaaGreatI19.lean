/- Part of a proof. -/
import Derived.Test.YtgebhcgmckjbbaaGreatI18
set_option linter.all false
namespace Go.Proofs
open Go Go.Vc
attribute [local congr] Ca_congV
theorem VenR.move {w w' : World} {v u c l mb md : Nat} {A : List (Int × Nat)} {D : List (Int × Value)} {fp : Pt → Nat → Prop} {S : Ven} (h : VenR w u c l mb md A D fp S) (hv : ∀ p, p ≠ .v → ¬ fp p v) (hb : hp w' v = some (.cells #[cptr c, lptr l, .map (some mb), .map (some md), .int .u64 S.next] tVen (0, 0))) (hm : Mod (fun y => y = v) w w') :
    VenR w' v c l mb md A D (updP fp .v fun y => y = v) S := by
  have hn : ∀ p, p ≠ .v → ∀ y, fp p y → ¬ y = v := fun p hp y hy e => hv p hp (e ▸ hy)
  refine ⟨{
    blk := hb
    cal := by rw [updP_ne (by simp)]; exact h.cal.mod hm (hn .cal (by simp))
    led := by rw [updP_ne (by simp)]; exact h.led.mod hm (hn .led (by simp))
    mbk := h.mbk.mod hm (hn .mb (by simp) _ ((h.fmb mb).2 rfl))
    mbd := h.mbd.mod hm (hn .md (by simp) _ ((h.fmd md).2 rfl))
    bk := fun n b hl => by rw [updP_ne (by simp)]; exact (h.bk n b hl).mod hm (hn (.bk n) (by simp))
    nbk := fun n hl => by rw [updP_ne (by simp)]; exact h.nbk n hl
    bd := fun n => (h.bd n).mod hm fun x hx => hn (.bd n) (by simp) x ((h.fbd n x).2 hx)
    fv := fun x => by rw [updP_self]
    fmb := by rw [updP_ne (by simp)]; exact h.fmb
    fmd := by rw [updP_ne (by simp)]; exact h.fmd
    fbd := fun n x => by rw [updP_ne (by simp)]; exact h.fbd n x
    dj := ?_ }, h.dom, h.dod⟩
  intro a b x ha hb'
  by_cases h1 : a = .v
  · by_cases h2 : b = .v
    · rw [h1, h2]
    · rw [h1, updP_self] at ha
      rw [updP_ne h2] at hb'
      exact absurd (ha ▸ hb') (hv b h2)
  · by_cases h2 : b = .v
    · rw [h2, updP_self] at hb'
      rw [updP_ne h1] at ha
      exact absurd (hb' ▸ ha) (hv a h1)
    · rw [updP_ne h1] at ha
      rw [updP_ne h2] at hb'
      exact h.dj _ _ _ ha hb'
theorem ldVen {W : World} {v c l mb md : Nat} {n : Int} (h : hp W v = some (.cells #[cptr c, lptr l, .map (some mb), .map (some md), .int .u64 n] tVen (0, 0))) : (Instr.loadAt tVen (.pointer (some ⟨v, 0, none⟩))).run Tryz.prog W = .ok (.agg #[cptr c, lptr l, .map (some mb), .map (some md), .int .u64 n]) W := by
  simp only [cptr, lptr] at h ⊢
  simp [go_sem, h]
theorem stVen {W : World} {v c l mb md c' l' mb' md' : Nat} {n n' : Int} (h : hp W v = some (.cells #[cptr c, lptr l, .map (some mb), .map (some md), .int .u64 n] tVen (0, 0))) :
    ∃ W', (Instr.storeAt tVen (.pointer (some ⟨v, 0, none⟩)) (.agg #[cptr c', lptr l', .map (some mb'), .map (some md'), .int .u64 n'])).run Tryz.prog W = .ok () W' ∧ hp W' v = some (.cells #[cptr c', lptr l', .map (some mb'), .map (some md'), .int .u64 n'] tVen (0, 0)) ∧ Mod (fun y => y = v) W W' := by
  simp only [cptr, lptr] at h ⊢
  exact ⟨((((W.setCell ⟨v, 0, none⟩ (cptr c')).setCell ⟨v, 1, none⟩ (lptr l')).setCell ⟨v, 2, none⟩ (.map (some mb'))).setCell ⟨v, 3, none⟩ (.map (some md'))).setCell ⟨v, 4, none⟩ (.int .u64 n'),
    by simp [go_sem, h, cptr, lptr], by simp [go_sem, h, cptr, lptr], (((((Mod.refl (fun y => y = v) W).setCell (.inl rfl) _ _).setCell (.inl rfl) _ _).setCell (.inl rfl) _ _).setCell (.inl rfl) _ _).setCell (.inl rfl) _ _⟩
end Go.Proofs
namespace Go.Proofs
open Go Go.Vc
attribute [local congr] Ca_congV
theorem uAcs : Tryz.prog.underlying 44 = some (.slice 92) := by kernel_rfl
theorem eAcc : elemOk Tryz.prog 92 4 24 = true := by kernel_rfl
theorem ca_collect {w : World} {K : Kont} {gv : Value} {L : List Ac} (ht : TellsM gv (L.map fun a => [acV a]) w) (hl : L.length ≤ 100000)
    (hK : ∀ s' w', Own w' 92 4 s' L.length (L.flatMap cellsAc) → Mod (fun _ => False) w w' → (∀ y, inSl s' y → w.heap.size ≤ y) → K s' w') : Ca Tryz.prog 54 #[gv] w K := by
  apply ca54
  unfold F54
  apply ca137
  unfold F137
  obtain ⟨p, hp0⟩ : ∃ p, p = w.heap.size := ⟨_, rfl⟩
  have m1 : Mod (fun _ => False) w (w.alloc (.cells #[nilV] 44)) := (Mod.refl _ w).alloc _
  have b1 : hp (w.alloc (.cells #[nilV] 44)) p = some (.cells #[nilV] 44 (0, 0)) := by rw [hp0]; simp [go_sem]
  refine rvS (v := .pointer (some ⟨p, 0, none⟩)) (w' := w.alloc (.cells #[nilV] 44)) (by rw [hp0]; simp [go_sem, nilV]) ?_
  generalize w.alloc (.cells #[nilV] 44) = w1 at m1 b1 ⊢
  have hpl := lt_of_heap b1
  let I : (Nat → Prop) → Nat → World → Prop := fun X i W => ∃ sl, hp W p = some (.cells #[sl] 44 (0, 0)) ∧ Own W 92 4 sl (L.take i).length ((L.take i).flatMap cellsAc) ∧ (∀ y, X y ↔ y = p ∨ inSl sl y) ∧ ∀ y, inSl sl y → p < y
  delta R137_0
  refine RF_list (X0 := fun x => x = p) (T := tAc) (fc := cellsAc) (ht.mod m1) VarOk.ac I (fun _ _ _ => False) ?_ (fun _ _ _ _ _ h => h.elim) (fun x hx => by omega) ⟨nilV, b1, Own.nil _ _ _, fun y => ⟨.inl, fun hy => hy.elim id fun hy => by cases hy⟩, fun y hy => (by cases hy)⟩ ?_ ?_ (fun _ _ _ _ _ h => h.elim)
  · rintro X i W W' H ⟨sl, i1, i2, i3, i4⟩ hm hX
    exact ⟨sl, hm.hpk i1 (hX _ ((i3 _).2 (.inl rfl))), i2.mod hm fun y hy => hX y ((i3 y).2 (.inr hy)), i3, i4⟩
  · rintro X i hi W r ⟨sl, i1, i2, i3, i4⟩ mW hX hdq hqW gq KN KJ hKN hKJ
    obtain ⟨sa, sc, hsl, -⟩ := i2.isSl
    have htk := take_succ' hi
    refine rvS (v := sl) (w' := W) (by rw [hsl] at i1 ⊢; simp [go_sem, i1]) ?_
    refine rvS (acLd gq) ?_
    have hl64 : (L.take i).length ≤ 100000 := by rw [List.length_take]; omega
    refine pushV1 (x := L[i]) (f := cellsAc) uAcs (elemT_of eAcc) (fun _ => rfl) rfl rfl i2 (by omega) (by omega) fun s' W1 o1 mo n1 => ?_
    obtain ⟨ta, tc, hs', -⟩ := o1.isSl
    have hpW := lt_of_heap i1
    have z1 := mo.hpk i1 fun hc => by have := i4 _ hc; omega
    refine ruS (w' := W1.setCell ⟨p, 0, none⟩ s') (by rw [hs']; simp [go_sem, z1]) ?_
    have mS : Mod (fun y => y = p) W1 (W1.setCell ⟨p, 0, none⟩ s') := (Mod.refl (fun y => y = p) W1).setCell (.inl rfl) _ _
    have bS : hp (W1.setCell ⟨p, 0, none⟩ s') p = some (.cells #[s'] 44 (0, 0)) := by simp [go_sem, z1]
    generalize W1.setCell ⟨p, 0, none⟩ s' = W2 at mS bS ⊢
    have hsW := mo.size
    have hs2W := mS.size
    have hn4 : ∀ y, inSl s' y → p < y := fun y hy => by
      rcases n1 y hy with h' | h'
      · exact i4 y h'
      · omega
    refine hKN (fun y => y = p ∨ inSl s' y) W2 ⟨s', bS, ?_, fun y => Iff.rfl, hn4⟩ ((mo.mono fun y _ hy => (i3 y).2 (.inr hy)).trans (mS.mono fun y _ hy => (i3 y).2 (.inl hy))) fun y hy => ?_
    · rw [htk]
      exact o1.mod mS fun y hy e => by have := hn4 y hy; omega
    · rcases hy with rfl | hy
      · exact ⟨.inl ((i3 _).2 (.inl rfl)), by omega⟩
      · refine ⟨(n1 y hy).imp (fun h' => (i3 y).2 (.inr h')) id, ?_⟩
        have := o1.lt hy; omega
  · rintro X W d hd ⟨sl, i1, i2, i3, i4⟩ mW hdef hX
    replace i2 : Own W 92 4 sl (L.take L.length).length ((L.take L.length).flatMap cellsAc) := i2
    rw [List.take_length] at i2
    obtain ⟨sa, sc, hsl, -⟩ := i2.isSl
    unfold A137_1
    simp only [afterK]
    refine rvS (v := sl) (w' := W) (by rw [hsl] at i1 ⊢; simp [go_sem, i1]) ?_
    refine retV1 hdef fun W2 m2 => ?_
    refine hK sl W2 (i2.mod m2 fun y hy e => ?_) (((m1.on mW fun y hy => .inr (by omega))).on m2 fun y hy => .inr (by omega)) fun y hy => by have := i4 y hy; omega
    rcases (hX y ((i3 y).2 (.inr hy))).2 with h' | h'
    · have := i4 y hy; omega
    · omega
abbrev tSt : TypeId := 49
def stE : Nat → TypeId
  | 3 => 92
  | 4 => 108
  | 5 => 112
  | _ => 119
def stS : Nat → TypeId
  | 3 => 44
  | 4 => 45
  | 5 => 46
  | _ => 47
def stK : Nat → Nat
  | 3 => 4
  | 4 => 27
  | 5 => 4
  | _ => 6
def stB : Nat → Nat
  | 3 => 24
  | 4 => 208
  | 5 => 24
  | _ => 40
theorem stU (i : Nat) : Tryz.prog.underlying (stS i) = some (.slice (stE i)) := by
  unfold stS stE
  split <;> kernel_rfl
theorem stEl (i : Nat) : elemOk Tryz.prog (stE i) (stK i) (stB i) = true := by
  unfold stE stK stB
  split <;> kernel_rfl
theorem stBd (i : Nat) : stK i ≤ 27 ∧ stB i ≤ 208 := by
  unfold stK stB
  split <;> exact ⟨by omega, by omega⟩
def stC (d n f : Int) (ss : Nat → Value) : List Value := [.int .u32 d, .int .u64 n, .int .i64 f, ss 3, ss 4, ss 5, ss 6, ss 7]
def stV (d n f : Int) (ss : Nat → Value) : Value := .agg (stC d n f ss).toArray
def updN {α : Type} (f : Nat → α) (i : Nat) (x : α) : Nat → α := fun j => if j = i then x else f j
structure StB (w : World) (b : Nat) (d nx fu : Int) (ss : Nat → Value) (n : Nat → Nat) (cs : Nat → List Value) (lo : Nat) : Prop where
  at_ : hp w b = some (.cells (stC d nx fu ss).toArray tSt (0, 0))
  own : ∀ i, 3 ≤ i → i ≤ 7 → Own w (stE i) (stK i) (ss i) (n i) (cs i)
  dj : ∀ i j y, 3 ≤ i → i ≤ 7 → 3 ≤ j → j ≤ 7 → inSl (ss i) y → inSl (ss j) y → i = j
  nw : ∀ i y, 3 ≤ i → i ≤ 7 → inSl (ss i) y → lo ≤ y ∧ y ≠ b
theorem StB.mod {F : Nat → Prop} {w w' : World} {b lo : Nat} {d nx fu : Int} {ss : Nat → Value} {n : Nat → Nat} {cs : Nat → List Value} (h : StB w b d nx fu ss n cs lo) (hm : Mod F w w') (h1 : ¬ F b) (h2 : ∀ i y, 3 ≤ i → i ≤ 7 → inSl (ss i) y → ¬ F y) : StB w' b d nx fu ss n cs lo :=
  ⟨hm.hpk h.at_ h1, fun i hi hj => (h.own i hi hj).mod hm fun y hy => h2 i y hi hj hy, h.dj, h.nw⟩
theorem stFld (W : World) {b : Nat} (i : Nat) (hi : i < 8) : (Instr.fieldAt tSt (.pointer (some ⟨b, 0, none⟩)) i).run Tryz.prog W = .ok (.pointer (some ⟨b, i, none⟩)) W := by
  have : i = 0 ∨ i = 1 ∨ i = 2 ∨ i = 3 ∨ i = 4 ∨ i = 5 ∨ i = 6 ∨ i = 7 := by omega
  rcases this with rfl | rfl | rfl | rfl | rfl | rfl | rfl | rfl <;> simp [go_sem]
theorem StB.ld {w : World} {b lo : Nat} {d nx fu : Int} {ss : Nat → Value} {n : Nat → Nat} {cs : Nat → List Value} (h : StB w b d nx fu ss n cs lo) (i : Nat) (hi : 3 ≤ i) (hj : i ≤ 7) : (Instr.loadAt (stS i) (.pointer (some ⟨b, i, none⟩))).run Tryz.prog w = .ok (ss i) w := by
  obtain ⟨a, c, hs, -⟩ := (h.own i hi hj).isSl
  have hat := h.at_
  have : i = 3 ∨ i = 4 ∨ i = 5 ∨ i = 6 ∨ i = 7 := by omega
  rcases this with rfl | rfl | rfl | rfl | rfl <;> (simp only [stS]; rw [hs]; simp only [stC] at hat; rw [hs] at hat; simp [go_sem, hat])
theorem pushSt {w : World} {b lo : Nat} {d nx fu : Int} {ss : Nat → Value} {n : Nat → Nat} {cs : Nat → List Value} (h : StB w b d nx fu ss n cs lo) (i : Nat) (hi : 3 ≤ i) (hj : i ≤ 7) {xv : Value} {c : List Value} {K : World → Prop} (hx : xv.cells.toList = c) (hc : c.length = stK i) (hone : c.all (·.oneCell') = true) (hn : n i ≤ 1000000) (hlo : lo ≤ w.heap.size)
    (hK : ∀ s' w', StB w' b d nx fu (updN ss i s') (updN n i (n i + 1)) (updN cs i (cs i ++ c)) lo → Mod (fun y => y = b ∨ inSl (ss i) y) w w' → (∀ y, inSl s' y → inSl (ss i) y ∨ w.heap.size ≤ y) → K w') :
    rx Tryz.prog (xLit (stS i) 1 [(0, xv)]) w fun v w1 => rx Tryz.prog (xAppend #[stS i, stS i] (stS i) [ss i, v]) w1 fun v2 w2 => rv Tryz.prog (Instr.fieldAt tSt (.pointer (some ⟨b, 0, none⟩)) i) w2 fun v3 w3 => ru Tryz.prog (Instr.storeAt (stS i) v3 v2) w3 K := by
  have hcz : xv.cells.size = stK i := by rw [← Array.length_toList, hx, hc]
  have hbd := stBd i
  refine rx_lit [xv] (stU i) (elemT_of (stEl i)) rfl rfl (by intro v hv; rw [List.mem_singleton.1 hv]; exact hcz) (by omega) ?_
  have e0 : (([xv] : List Value).flatMap (·.cells.toList)).toArray = c.toArray := by simp [hx]
  rw [e0]
  have m1 : Mod (fun _ => False) w (w.alloc (.cells c.toArray (stE i))) := (Mod.refl _ w).alloc _
  have r1 : Rd (w.alloc (.cells c.toArray (stE i))) (stK i) (.slice (some ⟨w.heap.size, 0, none⟩) 1 1) 1 c :=
    ⟨by rw [hc]; omega, .inr ⟨_, 0, 1, rfl, Nat.le_refl _, At.all (hp_of (by rw [heap_alloc, if_pos rfl]))⟩⟩
  have hown := h.own i hi hj
  have hbl : b < w.heap.size := lt_of_heap h.at_
  refine rx_append (stU i) (stU i) (elemT_of (stEl i)) (hown.mod m1 fun _ _ h => h) r1 hone (Nat.le_trans (Nat.mul_le_mul (show n i + 1 ≤ 1000001 by omega) hbd.2) (by decide)) fun s' w' o' m' n' => ?_
  refine rvS (stFld w' i (by omega)) ?_
  have hsz : (w.alloc (.cells c.toArray (stE i))).heap.size = w.heap.size + 1 := World.size_alloc ..
  have M' : Mod (inSl (ss i)) w w' := (m1.mono (G := inSl (ss i)) fun _ _ h => h.elim).trans m'
  have n'' : ∀ y, inSl s' y → inSl (ss i) y ∨ w.heap.size ≤ y := fun y hy => by
    rcases n' y hy with h' | h'
    · exact .inl h'
    · exact .inr (by omega)
  have at' := M'.hpk h.at_ fun hc => (h.nw i b hi hj hc).2 rfl
  obtain ⟨a, cc, hs', -⟩ := o'.isSl
  have hst : (Instr.storeAt (stS i) (.pointer (some ⟨b, i, none⟩)) s').run Tryz.prog w' = .ok () (w'.setCell ⟨b, i, none⟩ s') ∧ hp (w'.setCell ⟨b, i, none⟩ s') b = some (.cells (stC d nx fu (updN ss i s')).toArray tSt (0, 0)) := by
    obtain ⟨a0, c0, hs0, -⟩ := hown.isSl
    have : i = 3 ∨ i = 4 ∨ i = 5 ∨ i = 6 ∨ i = 7 := by omega
    rcases this with rfl | rfl | rfl | rfl | rfl <;> (simp only [stC] at at'; rw [hs0] at at'; refine ⟨by simp only [stS]; rw [hs']; simp [go_sem, at'], by rw [hs']; simp [go_sem, at', stC, updN]⟩)
  refine ruS hst.1 ?_
  have mS : Mod (fun y => y = b) w' (w'.setCell ⟨b, i, none⟩ s') := (Mod.refl (fun y => y = b) w').setCell (.inl rfl) _ _
  have hs'n : ∀ y, inSl s' y → lo ≤ y ∧ y ≠ b := fun y hy => by
    rcases n'' y hy with h' | h'
    · exact h.nw i y hi hj h'
    · exact ⟨by omega, by omega⟩
  refine hK s' _ ⟨hst.2, fun j hj1 hj2 => ?_, fun j1 j2 y a1 a2 a3 a4 y1 y2 => ?_, fun j y hj1 hj2 hy => ?_⟩ ((M'.mono fun y _ hy => .inr hy).trans (mS.mono fun y _ hy => .inl hy)) n''
  · unfold updN
    by_cases hji : j = i
    · subst hji
      rw [if_pos rfl, if_pos rfl, if_pos rfl]
      exact o'.mod mS fun y hy e => (hs'n y hy).2 e
    · rw [if_neg hji, if_neg hji, if_neg hji]
      exact ((h.own j hj1 hj2).mod M' fun y hy hc => hji (h.dj j i y hj1 hj2 hi hj hy hc)).mod mS fun y hy e => (h.nw j y hj1 hj2 hy).2 e
  · unfold updN at y1 y2
    have hlt : ∀ j, 3 ≤ j → j ≤ 7 → inSl (ss j) y → y < w.heap.size := fun j b1 b2 hy => (h.own j b1 b2).lt hy
    by_cases h1 : j1 = i
    · by_cases h2 : j2 = i
      · rw [h1, h2]
      · rw [if_pos h1] at y1
        rw [if_neg h2] at y2
        rcases n'' y y1 with h' | h'
        · rw [h1]; exact h.dj i j2 y hi hj a3 a4 h' y2
        · have := hlt j2 a3 a4 y2; omega
    · rw [if_neg h1] at y1
      by_cases h2 : j2 = i
      · rw [if_pos h2] at y2
        rcases n'' y y2 with h' | h'
        · rw [h2]; exact h.dj j1 i y a1 a2 hi hj y1 h'
        · have := hlt j1 a1 a2 y1; omega
      · rw [if_neg h2] at y2
        exact h.dj j1 j2 y a1 a2 a3 a4 y1 y2
  · unfold updN at hy
    by_cases hji : j = i
    · rw [if_pos hji] at hy; exact hs'n y hy
    · rw [if_neg hji] at hy; exact h.nw j y hj1 hj2 hy
end Go.Proofs
namespace Go.Proofs
open Go Go.Vc
attribute [local congr] Ca_congV
def sdOC (x : Int × Od) : List Value := .int .u32 x.1 :: odC x.2
def LN (A : List Ac) (C : List Ct) (P : List Po) (O B : List (Int × Od)) : Nat → Nat
  | 3 => A.length
  | 4 => C.length
  | 5 => P.length
  | 6 => O.length
  | 7 => B.length
  | _ => 0
def LC (A : List Ac) (C : List Ct) (P : List Po) (O B : List (Int × Od)) : Nat → List Value
  | 3 => A.flatMap cellsAc
  | 4 => C.flatMap ctC
  | 5 => P.flatMap cellsPo
  | 6 => O.flatMap sdOC
  | 7 => B.flatMap sdOC
  | _ => []
abbrev SB (w : World) (b : Nat) (d nx fu : Int) (ss : Nat → Value) (A : List Ac) (C : List Ct) (P : List Po) (O B : List (Int × Od)) (lo : Nat) : Prop := StB w b d nx fu ss (LN A C P O B) (LC A C P O B) lo
def XS (ss : Nat → Value) (b : Nat) : Nat → Prop := fun y => y = b ∨ ∃ i, 3 ≤ i ∧ i ≤ 7 ∧ inSl (ss i) y
section
variable {w : World} {b lo : Nat} {d nx fu : Int} {ss : Nat → Value} {A : List Ac} {C : List Ct} {P : List Po} {O B : List (Int × Od)}
theorem SB.modX {H : Nat → Prop} {w' : World} (h : SB w b d nx fu ss A C P O B lo) (hm : Mod H w w') (hx : ∀ y, XS ss b y → ¬ H y) : SB w' b d nx fu ss A C P O B lo :=
  h.mod hm (hx b (.inl rfl)) fun i y hi hj hy => hx y (.inr ⟨i, hi, hj, hy⟩)
theorem SB.ltX (h : SB w b d nx fu ss A C P O B lo) {y : Nat} (hy : XS ss b y) : y < w.heap.size := by
  rcases hy with rfl | ⟨i, hi, hj, hy⟩
  · exact lt_of_heap h.at_
  · exact (h.own i hi hj).lt hy
theorem pushX {i : Nat} (hi : 3 ≤ i) (hj : i ≤ 7) {xv : Value} {c : List Value} {A' : List Ac} {C' : List Ct} {P' : List Po} {O' B' : List (Int × Od)} {K : World → Prop} (h : SB w b d nx fu ss A C P O B lo) (hx : xv.cells.toList = c) (hc : c.length = stK i) (hone : c.all (·.oneCell') = true) (hn : LN A C P O B i ≤ 1000000) (hlo : lo ≤ w.heap.size)
    (e1 : updN (LN A C P O B) i (LN A C P O B i + 1) = LN A' C' P' O' B') (e2 : updN (LC A C P O B) i (LC A C P O B i ++ c) = LC A' C' P' O' B')
    (hK : ∀ ss' w', SB w' b d nx fu ss' A' C' P' O' B' lo → Mod (XS ss b) w w' → (∀ y, XS ss' b y → XS ss b y ∨ w.heap.size ≤ y) → K w') :
    rx Tryz.prog (xLit (stS i) 1 [(0, xv)]) w fun v w1 => rx Tryz.prog (xAppend #[stS i, stS i] (stS i) [ss i, v]) w1 fun v2 w2 => rv Tryz.prog (Instr.fieldAt tSt (.pointer (some ⟨b, 0, none⟩)) i) w2 fun v3 w3 => ru Tryz.prog (Instr.storeAt (stS i) v3 v2) w3 K := by
  refine pushSt h i hi hj hx hc hone hn hlo fun s' w' h' m' n' => hK (updN ss i s') w' ?_ (m'.mono fun y _ hy => hy.imp id fun hy => ⟨i, hi, hj, hy⟩) fun y hy => ?_
  · rw [e1, e2] at h'
    exact h'
  · rcases hy with hy | ⟨j, hj1, hj2, hy⟩
    · exact .inl (.inl hy)
    · unfold updN at hy
      by_cases hji : j = i
      · rw [if_pos hji] at hy
        exact (n' y hy).imp (fun h => .inr ⟨i, hi, hj, h⟩) id
      · rw [if_neg hji] at hy
        exact .inl (.inr ⟨j, hj1, hj2, hy⟩)
end
theorem updN_ext {α : Type} {f g : Nat → α} {i : Nat} {x : α} (h1 : g i = x) (h2 : ∀ j, j ≠ i → g j = f j) : updN f i x = g := by
  funext j
  unfold updN
  by_cases h : j = i
  · rw [if_pos h, h, h1]
  · rw [if_neg h, h2 j h]
theorem LN4 (A : List Ac) (C : List Ct) (P : List Po) (O B : List (Int × Od)) (k : Ct) : updN (LN A C P O B) 4 (LN A C P O B 4 + 1) = LN A (C ++ [k]) P O B :=
  updN_ext (by simp [LN]) fun j hj => by unfold LN; split <;> first | rfl | exact absurd rfl hj
theorem LC4 (A : List Ac) (C : List Ct) (P : List Po) (O B : List (Int × Od)) (k : Ct) : updN (LC A C P O B) 4 (LC A C P O B 4 ++ ctC k) = LC A (C ++ [k]) P O B :=
  updN_ext (by simp [LC]) fun j hj => by unfold LC; split <;> first | rfl | exact absurd rfl hj
theorem LN5 (A : List Ac) (C : List Ct) (P : List Po) (O B : List (Int × Od)) (k : Po) : updN (LN A C P O B) 5 (LN A C P O B 5 + 1) = LN A C (P ++ [k]) O B :=
  updN_ext (by simp [LN]) fun j hj => by unfold LN; split <;> first | rfl | exact absurd rfl hj
theorem LC5 (A : List Ac) (C : List Ct) (P : List Po) (O B : List (Int × Od)) (k : Po) : updN (LC A C P O B) 5 (LC A C P O B 5 ++ cellsPo k) = LC A C (P ++ [k]) O B :=
  updN_ext (by simp [LC]) fun j hj => by unfold LC; split <;> first | rfl | exact absurd rfl hj
theorem LN6 (A : List Ac) (C : List Ct) (P : List Po) (O B : List (Int × Od)) (k : Int × Od) : updN (LN A C P O B) 6 (LN A C P O B 6 + 1) = LN A C P (O ++ [k]) B :=
  updN_ext (by simp [LN]) fun j hj => by unfold LN; split <;> first | rfl | exact absurd rfl hj
theorem LC6 (A : List Ac) (C : List Ct) (P : List Po) (O B : List (Int × Od)) (k : Int × Od) : updN (LC A C P O B) 6 (LC A C P O B 6 ++ sdOC k) = LC A C P (O ++ [k]) B :=
  updN_ext (by simp [LC]) fun j hj => by unfold LC; split <;> first | rfl | exact absurd rfl hj
theorem LN7 (A : List Ac) (C : List Ct) (P : List Po) (O B : List (Int × Od)) (k : Int × Od) : updN (LN A C P O B) 7 (LN A C P O B 7 + 1) = LN A C P O (B ++ [k]) :=
  updN_ext (by simp [LN]) fun j hj => by unfold LN; split <;> first | rfl | exact absurd rfl hj
theorem LC7 (A : List Ac) (C : List Ct) (P : List Po) (O B : List (Int × Od)) (k : Int × Od) : updN (LC A C P O B) 7 (LC A C P O B 7 ++ sdOC k) = LC A C P O (B ++ [k]) :=
  updN_ext (by simp [LC]) fun j hj => by unfold LC; split <;> first | rfl | exact absurd rfl hj
theorem bldSd (n : Int) (o : Od) (W : World) : (Instr.build 119 #[(0, .int .u32 n), (1, odV o)]).run Tryz.prog W = .ok (.agg (sdOC (n, o)).toArray) W := by
  simp [go_sem, odV, odC, sdOC]
theorem stLd {W : World} {p : Nat} {d n f : Int} {ss : Nat → Value} (h : hp W p = some (.cells (stC d n f ss).toArray tSt (0, 0))) : (Instr.loadAt tSt (.pointer (some ⟨p, 0, none⟩))).run Tryz.prog W = .ok (stV d n f ss) W :=
  run_bigS (P := Tryz.prog) (t := tSt) (n := 7) (by kernel_rfl) (by kernel_rfl) rfl (At.all h)
theorem stSt {W : World} {p : Nat} {cs : Array Value} {d n f : Int} {ss : Nat → Value} (h : hp W p = some (.cells cs tSt (0, 0))) (hc : cs.size = 8) (hs : ∀ i, 3 ≤ i → i ≤ 7 → ∃ a n c, ss i = .slice a n c) :
    ∃ W', (Instr.storeAt tSt (.pointer (some ⟨p, 0, none⟩)) (stV d n f ss)).run Tryz.prog W = .ok () W' ∧ hp W' p = some (.cells (stC d n f ss).toArray tSt (0, 0)) ∧ Mod (fun b => b = p) W W' := by
  have h7 : cs.toList.length = 8 := by simpa using hc
  have hn : Tryz.prog.cellsOf tSt = 7 + 1 := by kernel_rfl
  have hone : (stC d n f ss).all (·.oneCell') = true := by
    obtain ⟨_, _, _, e3⟩ := hs 3 (by omega) (by omega)
    obtain ⟨_, _, _, e4⟩ := hs 4 (by omega) (by omega)
    obtain ⟨_, _, _, e5⟩ := hs 5 (by omega) (by omega)
    obtain ⟨_, _, _, e6⟩ := hs 6 (by omega) (by omega)
    obtain ⟨_, _, _, e7⟩ := hs 7 (by omega) (by omega)
    unfold stC
    rw [e3, e4, e5, e6, e7]
    rfl
  have e := run_bigU (P := Tryz.prog) (t := tSt) (b := p) (off := 0) (cs := stC d n f ss) hn rfl h (by show 0 + 8 ≤ cs.size; omega) hone
  refine ⟨W.setRow p (lay cs.toList 0 (stC d n f ss)).toArray, ?_, ?_, (Mod.refl (fun b => b = p) W).setRow (.inl rfl) _⟩
  · have : (bigU tSt (.pointer (some ⟨p, 0, none⟩)) (stV d n f ss)).run Tryz.prog W = _ := e
    unfold bigU at this
    exact this
  · rw [hp_setRow, if_pos rfl, h, lay_all (by rw [h7]; rfl)]
def ss0 (s : Value) : Nat → Value := fun i => if i = 3 then s else nilV
theorem newSt (W : World) : ∃ W', (Instr.alloc tSt true (.tuple #[])).run Tryz.prog W = .ok (.pointer (some ⟨W.heap.size, 0, none⟩)) W' ∧ hp W' W.heap.size = some (.cells (stC 0 0 0 (ss0 nilV)).toArray tSt (0, 0)) ∧ Mod (fun _ => False) W W' :=
  ⟨W.alloc (.cells (stC 0 0 0 (ss0 nilV)).toArray tSt), by simp [go_sem, stC, ss0, nilV], by simp [go_sem], (Mod.refl _ W).alloc _⟩
theorem bldSt (d n f : Int) (s : Value) (W : World) (hs : ∃ a n c, s = .slice a n c) : (Instr.build tSt #[(0, .int .u32 d), (1, .int .u64 n), (2, .int .i64 f), (3, s)]).run Tryz.prog W = .ok (stV d n f (ss0 s)) W := by
  obtain ⟨_, _, _, rfl⟩ := hs
  simp [go_sem, stV, stC, ss0, nilV]
end Go.Proofs
namespace Go.Proofs
open Go Go.Vc
attribute [local congr] Ca_congV
abbrev tRdr : TypeId := 139
def rdV (r : Nat) : Value := .agg #[rptr r]
def cpt (c : Nat) : Value := .pointer (some ⟨c, 0, none⟩)
theorem rsNum_12 (l : List UInt8) (m : Nat) (s : Rs) : (((rsSmall l m s).1 : Nat) : Int) = (rsNum l m s).1 ∧ (rsSmall l m s).2 = (rsNum l m s).2 := ⟨rfl, rfl⟩
abbrev RdVar (w : World) (c r : Nat) : Prop := hp w c = some (.cells #[rptr r] tRdr (0, 0))
theorem rvL {W : World} {c r : Nat} (h : RdVar W c r) : (Instr.loadAt 136 (.pointer (some ⟨c, 0, none⟩))).run Tryz.prog W = .ok (rptr r) W := by
  have h' : hp W c = some (.cells #[rptr r] tRdr (0, 0)) := h
  simp only [rptr] at h'
  simp [go_sem, h', rptr]
theorem rvLV {W : World} {c r : Nat} (h : RdVar W c r) : (Instr.loadAt tRdr (.pointer (some ⟨c, 0, none⟩))).run Tryz.prog W = .ok (rdV r) W := by
  have h' : hp W c = some (.cells #[rptr r] tRdr (0, 0)) := h
  simp only [rptr] at h'
  simp [go_sem, h', rptr, rdV]
theorem rvF (W : World) (c : Nat) : (Instr.fieldAt tRdr (.pointer (some ⟨c, 0, none⟩)) 0).run Tryz.prog W = .ok (.pointer (some ⟨c, 0, none⟩)) W := by simp [go_sem]
theorem boxRd (r : Nat) (w : World) : ∃ w1, (Instr.box tRdr (rdV r)).run Tryz.prog w = .ok (.pointer (some ⟨w.heap.size, 0, none⟩)) w1 ∧ RdVar w1 w.heap.size r ∧ Mod (fun _ => False) w w1 :=
  ⟨w.alloc (.cells #[rptr r] tRdr), rfl, by show hp _ _ = _; simp [go_sem], (Mod.refl _ w).alloc _⟩
theorem ca_iword {w : World} {K : Kont} {r : Nat} {v : Value} {l : List UInt8} {s : Rs} (h : RdrAt w r v l s)
    (hK : ∀ w', RdrAt w' r v l (rsNum l W32 s).2 → Mod (fun b => b = r) w w' → K (.int .u32 (rsNum l W32 s).1) w') : Ca Tryz.prog 60 #[rdV r] w K := by
  apply ca60
  unfold F60
  obtain ⟨w1, e1, b1, m1⟩ := boxRd r w
  refine rvS e1 (rvS (rvF _ _) (rvS (rvL b1) ?_))
  refine ca_small (h.mod m1 id fun _ _ h => h) (most := 4294967295) (by omega) fun w2 r2 m2 => ?_
  have hn := num_u32 l s
  obtain ⟨x, hx⟩ : ∃ x, x = rsNum l W32 s := ⟨_, rfl⟩
  have e : (((rsSmall l 4294967295 s).1 : Nat) : Int) = x.1 ∧ (rsSmall l 4294967295 s).2 = x.2 := by rw [hx]; exact rsNum_12 _ _ _
  rw [e.1]
  rw [e.2] at r2
  rw [← hx] at hn hK
  refine rvS (v := .int .u32 x.1) (w' := w2) (by simp [go_sem]; rw [IntKind.wrap_u32']; omega) ?_
  exact hK _ r2 ((m1.mono fun _ _ h => h.elim).trans m2)
theorem ca_rnatI {w : World} {K : Kont} {r : Nat} {v : Value} {l : List UInt8} {s : Rs} (h : RdrAt w r v l s)
    (hK : ∀ w', RdrAt w' r v l (rsNum l W64 s).2 → Mod (fun b => b = r) w w' → K (.int .u64 (rsNum l W64 s).1) w') : Ca Tryz.prog 61 #[rptr r] w K := ca_rnat h hK
structure RdC (w : World) (c r : Nat) (v : Value) (l : List UInt8) (s : Rs) : Prop where
  at_ : RdrAt w r v l s
  var : RdVar w c r
  ne : c ≠ r
section
variable {w w' : World} {K : Kont} {c r : Nat} {v : Value} {l : List UInt8} {s : Rs}
theorem RdC.md0 (h : RdC w c r v l s) (m : Mod (fun _ => False) w w') : RdC w' c r v l s := ⟨h.at_.mod m id fun _ _ h => h, m.hpk h.var id, h.ne⟩
theorem RdC.to (h : RdC w c r v l s) {s' : Rs} (h' : RdrAt w' r v l s') (m : Mod (fun b => b = r) w w') : RdC w' c r v l s' := ⟨h', m.hpk h.var h.ne, h.ne⟩
theorem RdC.lt (h : RdC w c r v l s) : r < w.heap.size ∧ c < w.heap.size ∧ ∀ b, inRd v b → b < w.heap.size := ⟨h.at_.lt, lt_of_heap h.var, fun b hb => h.at_.rd.lt hb⟩
theorem RdC.st (h : RdC w c r v l s) {p : Nat} (hr : r < p) (hc : c < p) (hv : ∀ b, inRd v b → b < p) (m : Mod (fun y => y = p) w w') : RdC w' c r v l s :=
  ⟨h.at_.mod m (by omega) fun b hb e => by have := hv b hb; omega, m.hpk h.var (by omega), h.ne⟩
theorem acSt {W : World} {p : Nat} {a : Ac} (h : hp W p = some (.cells (cellsAc a).toArray 92 (0, 0))) :
    (∀ x, ∃ W', (Instr.storeAt 35 (.pointer (some ⟨p, 0, none⟩)) (.int .u32 x)).run Tryz.prog W = .ok () W' ∧ hp W' p = some (.cells (cellsAc { a with num := x }).toArray 92 (0, 0)) ∧ Mod (fun y => y = p) W W') ∧
    (∀ x, ∃ W', (Instr.storeAt 2 (.pointer (some ⟨p, 1, none⟩)) (.int .i64 x)).run Tryz.prog W = .ok () W' ∧ hp W' p = some (.cells (cellsAc { a with cash := x }).toArray 92 (0, 0)) ∧ Mod (fun y => y = p) W W') ∧
    (∀ x, ∃ W', (Instr.storeAt 4 (.pointer (some ⟨p, 2, none⟩)) (.bool x)).run Tryz.prog W = .ok () W' ∧ hp W' p = some (.cells (cellsAc { a with kil := x }).toArray 92 (0, 0)) ∧ Mod (fun y => y = p) W W') ∧
    (∀ x, ∃ W', (Instr.storeAt 4 (.pointer (some ⟨p, 3, none⟩)) (.bool x)).run Tryz.prog W = .ok () W' ∧ hp W' p = some (.cells (cellsAc { a with dfl := x }).toArray 92 (0, 0)) ∧ Mod (fun y => y = p) W W') := by
  simp only [cellsAc] at h ⊢
  refine ⟨fun x => ⟨W.setCell ⟨p, 0, none⟩ (.int .u32 x), ?_, ?_, ?_⟩, fun x => ⟨W.setCell ⟨p, 1, none⟩ (.int .i64 x), ?_, ?_, ?_⟩, fun x => ⟨W.setCell ⟨p, 2, none⟩ (.bool x), ?_, ?_, ?_⟩, fun x => ⟨W.setCell ⟨p, 3, none⟩ (.bool x), ?_, ?_, ?_⟩⟩
  all_goals first | exact (Mod.refl (fun y => y = p) W).setCell (.inl rfl) _ _ | simp [go_sem, h]
theorem poSt {W : World} {p : Nat} {a : Po} (h : hp W p = some (.cells (cellsPo a).toArray 112 (0, 0))) :
    (∀ x, ∃ W', (Instr.storeAt 35 (.pointer (some ⟨p, 0, none⟩)) (.int .u32 x)).run Tryz.prog W = .ok () W' ∧ hp W' p = some (.cells (cellsPo { a with c := x }).toArray 112 (0, 0)) ∧ Mod (fun y => y = p) W W') ∧
    (∀ x, ∃ W', (Instr.storeAt 35 (.pointer (some ⟨p, 1, none⟩)) (.int .u32 x)).run Tryz.prog W = .ok () W' ∧ hp W' p = some (.cells (cellsPo { a with a := x }).toArray 112 (0, 0)) ∧ Mod (fun y => y = p) W W') ∧
    (∀ x, ∃ W', (Instr.storeAt 2 (.pointer (some ⟨p, 2, none⟩)) (.int .i64 x)).run Tryz.prog W = .ok () W' ∧ hp W' p = some (.cells (cellsPo { a with q := x }).toArray 112 (0, 0)) ∧ Mod (fun y => y = p) W W') ∧
    (∀ x, ∃ W', (Instr.storeAt 2 (.pointer (some ⟨p, 3, none⟩)) (.int .i64 x)).run Tryz.prog W = .ok () W' ∧ hp W' p = some (.cells (cellsPo { a with b := x }).toArray 112 (0, 0)) ∧ Mod (fun y => y = p) W W') := by
  simp only [cellsPo] at h ⊢
  refine ⟨fun x => ⟨W.setCell ⟨p, 0, none⟩ (.int .u32 x), ?_, ?_, ?_⟩, fun x => ⟨W.setCell ⟨p, 1, none⟩ (.int .u32 x), ?_, ?_, ?_⟩, fun x => ⟨W.setCell ⟨p, 2, none⟩ (.int .i64 x), ?_, ?_, ?_⟩, fun x => ⟨W.setCell ⟨p, 3, none⟩ (.int .i64 x), ?_, ?_, ?_⟩⟩
  all_goals first | exact (Mod.refl (fun y => y = p) W).setCell (.inl rfl) _ _ | simp [go_sem, h]
theorem acVar2 {W : World} {p : Nat} {a b : Ac} (h : hp W p = some (.cells (cellsAc a).toArray 92 (0, 0))) : (Instr.loadAt 92 (.pointer (some ⟨p, 0, none⟩))).run Tryz.prog W = .ok (acV a) W ∧
    ∃ W', (Instr.storeAt 92 (.pointer (some ⟨p, 0, none⟩)) (acV b)).run Tryz.prog W = .ok () W' ∧ hp W' p = some (.cells (cellsAc b).toArray 92 (0, 0)) ∧ Mod (fun y => y = p) W W' := by
  simp only [cellsAc] at h ⊢
  exact ⟨by simp [go_sem, h, acV], (((W.setCell ⟨p, 0, none⟩ (.int .u32 b.num)).setCell ⟨p, 1, none⟩ (.int .i64 b.cash)).setCell ⟨p, 2, none⟩ (.bool b.kil)).setCell ⟨p, 3, none⟩ (.bool b.dfl), by simp [go_sem, h, acV], by simp [go_sem, h], ((((Mod.refl (fun y => y = p) W).setCell (.inl rfl) _ _).setCell (.inl rfl) _ _).setCell (.inl rfl) _ _).setCell (.inl rfl) _ _⟩
theorem poVar2 {W : World} {p : Nat} {a b : Po} (h : hp W p = some (.cells (cellsPo a).toArray 112 (0, 0))) : (Instr.loadAt 112 (.pointer (some ⟨p, 0, none⟩))).run Tryz.prog W = .ok (poV a) W ∧
    ∃ W', (Instr.storeAt 112 (.pointer (some ⟨p, 0, none⟩)) (poV b)).run Tryz.prog W = .ok () W' ∧ hp W' p = some (.cells (cellsPo b).toArray 112 (0, 0)) ∧ Mod (fun y => y = p) W W' := by
  simp only [cellsPo] at h ⊢
  exact ⟨by simp [go_sem, h, poV], (((W.setCell ⟨p, 0, none⟩ (.int .u32 b.c)).setCell ⟨p, 1, none⟩ (.int .u32 b.a)).setCell ⟨p, 2, none⟩ (.int .i64 b.q)).setCell ⟨p, 3, none⟩ (.int .i64 b.b), by simp [go_sem, h, poV], by simp [go_sem, h], ((((Mod.refl (fun y => y = p) W).setCell (.inl rfl) _ _).setCell (.inl rfl) _ _).setCell (.inl rfl) _ _).setCell (.inl rfl) _ _⟩
theorem acF (i : Nat) (hi : i < 4) (p : Nat) (W : World) : (Instr.fieldAt 92 (.pointer (some ⟨p, 0, none⟩)) i).run Tryz.prog W = .ok (.pointer (some ⟨p, i, none⟩)) W := by
  have : i = 0 ∨ i = 1 ∨ i = 2 ∨ i = 3 := by omega
  rcases this with rfl | rfl | rfl | rfl <;> simp [go_sem]
theorem poF (i : Nat) (hi : i < 4) (p : Nat) (W : World) : (Instr.fieldAt 112 (.pointer (some ⟨p, 0, none⟩)) i).run Tryz.prog W = .ok (.pointer (some ⟨p, i, none⟩)) W := by
  have : i = 0 ∨ i = 1 ∨ i = 2 ∨ i = 3 := by omega
  rcases this with rfl | rfl | rfl | rfl <;> simp [go_sem]
set_option maxRecDepth 10000 in
theorem ca_rdAc (h : RdC w c r v l s) (hK : ∀ w', RdC w' c r v l (rsAc l s).2 → Mod (fun b => b = r) w w' → K (acV (rsAc l s).1) w') : Ca Tryz.prog 64 #[cpt c] w K := by
  apply ca64
  unfold F64 cpt
  obtain ⟨hr0, hc0, hv0⟩ := h.lt
  obtain ⟨p, hp0⟩ : ∃ p, p = w.heap.size := ⟨_, rfl⟩
  have m1 : Mod (fun _ => False) w (w.alloc (.cells (cellsAc ⟨0, 0, false, false⟩).toArray 92)) := (Mod.refl _ w).alloc _
  have b1 : hp (w.alloc (.cells (cellsAc ⟨0, 0, false, false⟩).toArray 92)) p = some (.cells (cellsAc ⟨0, 0, false, false⟩).toArray 92 (0, 0)) := by rw [hp0]; simp [go_sem]
  refine rvS (v := .pointer (some ⟨p, 0, none⟩)) (w' := w.alloc (.cells (cellsAc ⟨0, 0, false, false⟩).toArray 92)) (by rw [hp0]; simp [go_sem, cellsAc]) ?_
  generalize w.alloc (.cells (cellsAc ⟨0, 0, false, false⟩).toArray 92) = w1 at m1 b1 ⊢
  have md := (Mod.refl (fun _ => False) w1).drew
  have h1 := h.md0 (m1.trans md)
  have b1' := md.hpk b1 id
  have M1 := m1.trans md
  generalize w1.drew = u1 at h1 b1' M1 ⊢
  have hr : r < p := by omega
  have hc : c < p := by omega
  have hv : ∀ b, inRd v b → b < p := fun b hb => by have := hv0 b hb; omega
  have hrw : ∀ {W W' : World}, Mod (fun b => b = r) w W → Mod (fun y => y = p) W W' → Mod (fun b => b = r) w W' := fun a b => a.on b fun y hy => .inr (by omega)
  refine rdWS (rvLV h1.var) (rdPS (fun W => rvF W c) (rdWS (rvL h1.var) ?_))
  refine ca_iword h1.at_ fun w2 r2 m2 => ?_
  have h2 := h1.to r2 m2
  have b2 := m2.hpk b1' (by omega)
  have M2 : Mod (fun b => b = r) w w2 := (M1.mono fun _ _ h => h.elim).trans m2
  refine ⟨rvL h2.var, rdPS (fun W => acF 0 (by omega) p W) ?_⟩
  refine ca_rint h2.at_ fun w3 r3 m3 => ?_
  have h3 := h2.to r3 m3
  have b3 := m3.hpk b2 (by omega)
  obtain ⟨w4, e4, b4, m4⟩ := (acSt b3).1 (rsNum l W32 s).1
  refine ruS e4 (rdPS (fun W => acF 1 (by omega) p W) ?_)
  obtain ⟨w5, e5, b5, m5⟩ := (acSt b4).2.1 (rsInt l (rsNum l W32 s).2).1
  refine ruS e5 ?_
  have h5 := (h3.st hr hc hv m4).st hr hc hv m5
  have M5 := hrw (hrw (M2.trans m3) m4) m5
  have h5' := h5.md0 (Mod.refl (fun _ => False) w5).drew
  have b5' := ((Mod.refl (fun _ => False) w5).drew).hpk b5 id
  have M5' := M5.on (Mod.refl (fun _ => False) w5).drew fun _ h => h.elim
  generalize w5.drew = u5 at h5' b5' M5' ⊢
  refine rdPS (fun W => rvF W c) (rdWS (rvL h5'.var) (rdPS (fun W => rvF W c) (rdWS (rvL h5'.var) ?_)))
  refine ca_rflag h5'.at_ fun w6 r6 m6 => ?_
  have h6 := h5'.to r6 m6
  have b6 := m6.hpk b5' (by omega)
  refine ⟨rvL h6.var, rdPS (fun W => acF 2 (by omega) p W) ?_⟩
  refine ca_rflag h6.at_ fun w7 r7 m7 => ?_
  have h7 := h6.to r7 m7
  have b7 := m7.hpk b6 (by omega)
  obtain ⟨w8, e8, b8, m8⟩ := (acSt b7).2.2.1 (rsFlag l (rsInt l (rsNum l W32 s).2).2).1
  refine ruS e8 (rdPS (fun W => acF 3 (by omega) p W) ?_)
  obtain ⟨w9, e9, b9, m9⟩ := (acSt b8).2.2.2 (rsFlag l (rsFlag l (rsInt l (rsNum l W32 s).2).2).2).1
  refine ruS e9 (rvS (acVar2 (b := ⟨0, 0, false, false⟩) b9).1 ?_)
  obtain ⟨w10, e10, b10, m10⟩ := (acVar2 (b := (rsAc l s).1) b9).2
  refine ruS e10 (rdWS (acVar2 (b := ⟨0, 0, false, false⟩) b10).1 ?_)
  exact hK _ (((h7.st hr hc hv m8).st hr hc hv m9).st hr hc hv m10) (hrw (hrw (hrw ((M5'.trans m6).trans m7) m8) m9) m10)
set_option maxRecDepth 10000 in
theorem ca_rdPo (h : RdC w c r v l s) (hK : ∀ w', RdC w' c r v l (rsPo l s).2 → Mod (fun b => b = r) w w' → K (poV (rsPo l s).1) w') : Ca Tryz.prog 71 #[cpt c] w K := by
  apply ca71
  unfold F71 cpt
  obtain ⟨hr0, hc0, hv0⟩ := h.lt
  obtain ⟨p, hp0⟩ : ∃ p, p = w.heap.size := ⟨_, rfl⟩
  have m1 : Mod (fun _ => False) w (w.alloc (.cells (cellsPo ⟨0, 0, 0, 0⟩).toArray 112)) := (Mod.refl _ w).alloc _
  have b1 : hp (w.alloc (.cells (cellsPo ⟨0, 0, 0, 0⟩).toArray 112)) p = some (.cells (cellsPo ⟨0, 0, 0, 0⟩).toArray 112 (0, 0)) := by rw [hp0]; simp [go_sem]
  refine rvS (v := .pointer (some ⟨p, 0, none⟩)) (w' := w.alloc (.cells (cellsPo ⟨0, 0, 0, 0⟩).toArray 112)) (by rw [hp0]; simp [go_sem, cellsPo]) ?_
  generalize w.alloc (.cells (cellsPo ⟨0, 0, 0, 0⟩).toArray 112) = w1 at m1 b1 ⊢
  have md := (Mod.refl (fun _ => False) w1).drew
  have h1 := h.md0 (m1.trans md)
  have b1' := md.hpk b1 id
  have M1 := m1.trans md
  generalize w1.drew = u1 at h1 b1' M1 ⊢
  have hr : r < p := by omega
  have hc : c < p := by omega
  have hv : ∀ b, inRd v b → b < p := fun b hb => by have := hv0 b hb; omega
  have hrw : ∀ {W W' : World}, Mod (fun b => b = r) w W → Mod (fun y => y = p) W W' → Mod (fun b => b = r) w W' := fun a b => a.on b fun y hy => .inr (by omega)
  refine rdWS (rvLV h1.var) (rdWS (rvLV h1.var) ?_)
  refine ca_iword h1.at_ fun w2 r2 m2 => ?_
  have h2 := h1.to r2 m2
  have b2 := m2.hpk b1' (by omega)
  have M2 : Mod (fun b => b = r) w w2 := (M1.mono fun _ _ h => h.elim).trans m2
  refine ⟨rvLV h2.var, rdPS (fun W => poF 0 (by omega) p W) ?_⟩
  refine ca_iword h2.at_ fun w3 r3 m3 => ?_
  have h3 := h2.to r3 m3
  have b3 := m3.hpk b2 (by omega)
  obtain ⟨w4, e4, b4, m4⟩ := (poSt b3).1 (rsNum l W32 s).1
  refine ruS e4 (rdPS (fun W => poF 1 (by omega) p W) ?_)
  obtain ⟨w5, e5, b5, m5⟩ := (poSt b4).2.1 (rsNum l W32 (rsNum l W32 s).2).1
  refine ruS e5 ?_
  have h5 := (h3.st hr hc hv m4).st hr hc hv m5
  have M5 := hrw (hrw (M2.trans m3) m4) m5
  have h5' := h5.md0 (Mod.refl (fun _ => False) w5).drew
  have b5' := ((Mod.refl (fun _ => False) w5).drew).hpk b5 id
  have M5' := M5.on (Mod.refl (fun _ => False) w5).drew fun _ h => h.elim
  generalize w5.drew = u5 at h5' b5' M5' ⊢
  refine rdPS (fun W => rvF W c) (rdWS (rvL h5'.var) (rdPS (fun W => rvF W c) (rdWS (rvL h5'.var) ?_)))
  refine ca_rint h5'.at_ fun w6 r6 m6 => ?_
  have h6 := h5'.to r6 m6
  have b6 := m6.hpk b5' (by omega)
  refine ⟨rvL h6.var, rdPS (fun W => poF 2 (by omega) p W) ?_⟩
  refine ca_rint h6.at_ fun w7 r7 m7 => ?_
  have h7 := h6.to r7 m7
  have b7 := m7.hpk b6 (by omega)
  obtain ⟨w8, e8, b8, m8⟩ := (poSt b7).2.2.1 (rsInt l (rsNum l W32 (rsNum l W32 s).2).2).1
  refine ruS e8 (rdPS (fun W => poF 3 (by omega) p W) ?_)
  obtain ⟨w9, e9, b9, m9⟩ := (poSt b8).2.2.2 (rsInt l (rsInt l (rsNum l W32 (rsNum l W32 s).2).2).2).1
  refine ruS e9 (rvS (poVar2 (b := ⟨0, 0, 0, 0⟩) b9).1 ?_)
  obtain ⟨w10, e10, b10, m10⟩ := (poVar2 (b := (rsPo l s).1) b9).2
  refine ruS e10 (rdWS (poVar2 (b := ⟨0, 0, 0, 0⟩) b10).1 ?_)
  exact hK _ (((h7.st hr hc hv m8).st hr hc hv m9).st hr hc hv m10) (hrw (hrw (hrw ((M5'.trans m6).trans m7) m8) m9) m10)
theorem hzCt : hasZero Tryz.prog tCt = true := by kernel_rfl
abbrev CtAt (W : World) (p : Nat) (k : Ct) : Prop := hp W p = some (.cells (ctC k).toArray tCt (0, 0))
theorem ctC_lenI (k : Ct) : (ctC k).length = 26 + 1 := ctC_len k
theorem nCtI : Tryz.prog.cellsOf tCt = 26 + 1 := by kernel_rfl
theorem aCtI : isAggT Tryz.prog tCt = true := by kernel_rfl
theorem ctC_oneI (k : Ct) : (ctC k).all (·.oneCell') = true := by
  unfold ctC
  rw [List.all_append, spC_one]
  rfl
theorem ctGi (k : Ct) : (ctC k)[25]? = some (.int .u8 k.st) ∧ (ctC k)[26]? = some (.int .i64 k.price) := by
  unfold ctC
  constructor <;> (rw [List.getElem?_append_right (by rw [spC_len]; omega), spC_len]; rfl)
theorem ctS (k : Ct) (x : Int) : (ctC k).set 25 (.int .u8 x) = ctC { k with st := x } ∧ (ctC k).set 26 (.int .i64 x) = ctC { k with price := x } := by
  unfold ctC
  constructor <;> (rw [List.set_append_right _ _ (by rw [spC_len]; omega), spC_len]; rfl)
theorem ctSt {W : World} {p : Nat} {k : Ct} (h : CtAt W p k) :
    (∀ x, ∃ W', (Instr.storeAt 106 (.pointer (some ⟨p, 25, none⟩)) (.int .u8 x)).run Tryz.prog W = .ok () W' ∧ CtAt W' p { k with st := x } ∧ Mod (fun y => y = p) W W') ∧
    (∀ x, ∃ W', (Instr.storeAt 2 (.pointer (some ⟨p, 26, none⟩)) (.int .i64 x)).run Tryz.prog W = .ok () W' ∧ CtAt W' p { k with price := x } ∧ Mod (fun y => y = p) W W') := by
  have h' : hp W p = some (.cells (ctC k).toArray tCt (0, 0)) := h
  obtain ⟨g1, g2⟩ := ctGi k
  refine ⟨fun x => ⟨W.setCell ⟨p, 25, none⟩ (.int .u8 x), by simp [go_sem, h', g1], ?_, (Mod.refl (fun y => y = p) W).setCell (.inl rfl) _ _⟩, fun x => ⟨W.setCell ⟨p, 26, none⟩ (.int .i64 x), by simp [go_sem, h', g2], ?_, (Mod.refl (fun y => y = p) W).setCell (.inl rfl) _ _⟩⟩
  · show hp _ _ = _
    rw [← (ctS k x).1]; simp [go_sem, h']
  · show hp _ _ = _
    rw [← (ctS k x).2]; simp [go_sem, h']
theorem ctU {W : World} {p : Nat} {k : Ct} {s : Sp} {K : World → Prop} (h : CtAt W p k) (hK : ∀ W', CtAt W' p { k with spec := s } → Mod (fun y => y = p) W W' → K W') : rux Tryz.prog (bigU tSpec (.pointer (some ⟨p, 0, none⟩)) (.agg (spC s).toArray)) W K := by
  have hh : W.heap[p]? = some (.cells (ctC k).toArray tCt (0, 0)) := h
  refine rux_bigU nSp (spC_len s) hh (by rw [List.size_toArray, spC_len, ctC_len]; omega) (spC_one _) (hK _ ?_ ((Mod.refl (fun y => y = p) W).setRow (.inl rfl) _))
  show (W.setRow p _).heap[p]? = _
  rw [heap_setRow, if_pos rfl, hh]
  have : lay (ctC k).toArray.toList 0 (spC s) = ctC { k with spec := s } := by
    unfold lay ctC
    simp only [List.take_zero, List.nil_append, Nat.zero_add, spC_len]
    rw [List.drop_append_of_le_length (by rw [spC_len]; exact Nat.le_refl _), List.drop_of_length_le (by rw [spC_len]; exact Nat.le_refl _)]
    rfl
  rw [this]
theorem ctUU {W : World} {p : Nat} {k k' : Ct} {K : World → Prop} (h : CtAt W p k) (hK : ∀ W', CtAt W' p k' → Mod (fun y => y = p) W W' → K W') : rux Tryz.prog (bigU tCt (.pointer (some ⟨p, 0, none⟩)) (.agg (ctC k').toArray)) W K := by
  have hh : W.heap[p]? = some (.cells (ctC k).toArray tCt (0, 0)) := h
  refine rux_bigU nCtI (ctC_lenI k') hh (by rw [List.size_toArray, ctC_len, ctC_len]; omega) (ctC_oneI _) (hK _ ?_ ((Mod.refl (fun y => y = p) W).setRow (.inl rfl) _))
  show (W.setRow p _).heap[p]? = _
  rw [heap_setRow, if_pos rfl, hh, lay_all (by rw [ctC_len]; simp [ctC_len])]
attribute [local irreducible] rsNum rsInt rsFlag rsSp
set_option maxRecDepth 10000 in
theorem ca_rdCt (h : RdC w c r v l s) (hK : ∀ w', RdC w' c r v l (rsCt l s).2 → Mod (fun b => b = r) w w' → K (.agg (ctC (rsCt l s).1).toArray) w') : Ca Tryz.prog 67 #[cpt c] w K := by
  apply ca67
  unfold F67 cpt
  obtain ⟨hr0, hc0, hv0⟩ := h.lt
  refine rx_bigA hzCt ?_
  rw [zeroCt]
  obtain ⟨p, hp0⟩ : ∃ p, p = w.heap.size := ⟨_, rfl⟩
  have m1 : Mod (fun _ => False) w (w.alloc (.cells (ctC zCt0).toArray tCt)) := (Mod.refl _ w).alloc _
  have b1 : CtAt (w.alloc (.cells (ctC zCt0).toArray tCt)) p zCt0 := by show hp _ _ = _; rw [hp0]; simp [go_sem]
  rw [← hp0]
  generalize w.alloc (.cells (ctC zCt0).toArray tCt) = w1 at m1 b1 ⊢
  have h1 := h.md0 m1
  have hr : r < p := by omega
  have hc : c < p := by omega
  have hv : ∀ b, inRd v b → b < p := fun b hb => by have := hv0 b hb; omega
  have hrw : ∀ {W W' : World}, Mod (fun b => b = r) w W → Mod (fun y => y = p) W W' → Mod (fun b => b = r) w W' := fun a b => a.on b fun y hy => .inr (by omega)
  have M1 : Mod (fun b => b = r) w w1 := m1.mono fun _ _ h => h.elim
  refine rvS (rvF _ _) (rvS (rvL h1.var) ?_)
  refine ca_take h1.at_ fun w2 r2 m2 => ?_
  have h2 := h1.to r2 m2
  have b2 : CtAt w2 p zCt0 := m2.hpk b1 (by omega)
  refine rvS (v := .pointer (some ⟨p, 0, none⟩)) (w' := w2) (by simp [go_sem]) ?_
  refine ctU b2 fun w3 b3 m3 => ?_
  have h3 := h2.st hr hc hv m3
  refine rvS (rvF _ _) (rvS (rvL h3.var) ?_)
  refine ca_small h3.at_ (most := 255) (by omega) fun w4 r4 m4 => ?_
  have hn := num_u8 l (rsSp l s).2
  obtain ⟨x, hx⟩ : ∃ x, x = rsNum l 255 (rsSp l s).2 := ⟨_, rfl⟩
  have e : (((rsSmall l 255 (rsSp l s).2).1 : Nat) : Int) = x.1 ∧ (rsSmall l 255 (rsSp l s).2).2 = x.2 := by rw [hx]; exact rsNum_12 _ _ _
  rw [e.1]
  rw [e.2] at r4
  rw [← hx] at hn
  have h4 := h3.to r4 m4
  have b4 : CtAt w4 p _ := m4.hpk b3 (by omega)
  refine rvS (v := .int .u8 x.1) (w' := w4) (by simp [go_sem]; rw [IntKind.wrap_u8']; omega) ?_
  refine rvS (v := .pointer (some ⟨p, 25, none⟩)) (w' := w4) (by simp [go_sem]) ?_
  obtain ⟨w5, e5, b5, m5⟩ := (ctSt b4).1 x.1
  refine ruS e5 ?_
  have h5 := h4.st hr hc hv m5
  refine rvS (rvF _ _) (rvS (rvL h5.var) ?_)
  refine ca_rint h5.at_ fun w6 r6 m6 => ?_
  have h6 := h5.to r6 m6
  have b6 : CtAt w6 p _ := m6.hpk b5 (by omega)
  refine rvS (v := .pointer (some ⟨p, 26, none⟩)) (w' := w6) (by simp [go_sem]) ?_
  obtain ⟨w7, e7, b7, m7⟩ := (ctSt b6).2 (rsInt l x.2).1
  refine ruS e7 ?_
  have hk' : ({ ({ ({ zCt0 with spec := (rsSp l s).1 } : Ct) with st := x.1 } : Ct) with price := (rsInt l x.2).1 } : Ct) = (rsCt l s).1 := by rw [hx]; rfl
  rw [hk'] at b7
  refine rx_bigS (ctC (rsCt l s).1) 26 aCtI nCtI (ctC_lenI _) (At.all b7) ?_
  refine ctUU (k' := (rsCt l s).1) b7 fun w8 b8 m8 => ?_
  refine rdX_bigS (ctC (rsCt l s).1) 26 aCtI nCtI (ctC_lenI _) (At.all b8) ?_
  have hs' : (rsInt l x.2).2 = (rsCt l s).2 := by rw [hx]; rfl
  rw [hs'] at h6
  exact hK _ ((h6.st hr hc hv m7).st hr hc hv m8) (hrw (hrw ((hrw ((hrw (M1.trans m2) m3).trans m4) m5).trans m6) m7) m8)
abbrev tSdI : TypeId := 119
def sdVI (x : Int × Od) : Value := .agg #[.int .u32 x.1, .int .u64 x.2.num, .int .u32 x.2.acct, .bool x.2.buy, .int .i64 x.2.price, .int .i64 x.2.left]
abbrev SdAt (W : World) (p : Nat) (x : Int × Od) : Prop := hp W p = some (.cells #[.int .u32 x.1, .int .u64 x.2.num, .int .u32 x.2.acct, .bool x.2.buy, .int .i64 x.2.price, .int .i64 x.2.left] tSdI (0, 0))
set_option maxRecDepth 10000 in
theorem sdSt {W : World} {p : Nat} {a : Int × Od} (h : SdAt W p a) :
    (∀ x, ∃ W', (Instr.storeAt 35 (.pointer (some ⟨p, 0, none⟩)) (.int .u32 x)).run Tryz.prog W = .ok () W' ∧ SdAt W' p (x, a.2) ∧ Mod (fun y => y = p) W W') ∧
    (∀ x, ∃ W', (Instr.storeAt 27 (.pointer (some ⟨p, 1, none⟩)) (.int .u64 x)).run Tryz.prog W = .ok () W' ∧ SdAt W' p (a.1, { a.2 with num := x }) ∧ Mod (fun y => y = p) W W') ∧
    (∀ x, ∃ W', (Instr.storeAt 35 (.pointer (some ⟨p, 2, none⟩)) (.int .u32 x)).run Tryz.prog W = .ok () W' ∧ SdAt W' p (a.1, { a.2 with acct := x }) ∧ Mod (fun y => y = p) W W') ∧
    (∀ x, ∃ W', (Instr.storeAt 4 (.pointer (some ⟨p, 3, none⟩)) (.bool x)).run Tryz.prog W = .ok () W' ∧ SdAt W' p (a.1, { a.2 with buy := x }) ∧ Mod (fun y => y = p) W W') ∧
    (∀ x, ∃ W', (Instr.storeAt 2 (.pointer (some ⟨p, 4, none⟩)) (.int .i64 x)).run Tryz.prog W = .ok () W' ∧ SdAt W' p (a.1, { a.2 with price := x }) ∧ Mod (fun y => y = p) W W') ∧
    (∀ x, ∃ W', (Instr.storeAt 2 (.pointer (some ⟨p, 5, none⟩)) (.int .i64 x)).run Tryz.prog W = .ok () W' ∧ SdAt W' p (a.1, { a.2 with left := x }) ∧ Mod (fun y => y = p) W W') := by
  have h' : hp W p = some (.cells #[.int .u32 a.1, .int .u64 a.2.num, .int .u32 a.2.acct, .bool a.2.buy, .int .i64 a.2.price, .int .i64 a.2.left] tSdI (0, 0)) := h
  refine ⟨fun x => ⟨W.setCell ⟨p, 0, none⟩ (.int .u32 x), ?_, ?_, ?_⟩, fun x => ⟨W.setCell ⟨p, 1, none⟩ (.int .u64 x), ?_, ?_, ?_⟩, fun x => ⟨W.setCell ⟨p, 2, none⟩ (.int .u32 x), ?_, ?_, ?_⟩, fun x => ⟨W.setCell ⟨p, 3, none⟩ (.bool x), ?_, ?_, ?_⟩, fun x => ⟨W.setCell ⟨p, 4, none⟩ (.int .i64 x), ?_, ?_, ?_⟩, fun x => ⟨W.setCell ⟨p, 5, none⟩ (.int .i64 x), ?_, ?_, ?_⟩⟩
  all_goals first | exact (Mod.refl (fun y => y = p) W).setCell (.inl rfl) _ _ | (show hp _ _ = _; simp [go_sem, h']) | simp [go_sem, h']
theorem sdLI {W : World} {p : Nat} {a : Int × Od} (h : SdAt W p a) : (Instr.loadAt tSdI (.pointer (some ⟨p, 0, none⟩))).run Tryz.prog W = .ok (sdVI a) W := by
  have h' : hp W p = some (.cells #[.int .u32 a.1, .int .u64 a.2.num, .int .u32 a.2.acct, .bool a.2.buy, .int .i64 a.2.price, .int .i64 a.2.left] tSdI (0, 0)) := h
  simp [go_sem, h', sdVI]
set_option maxRecDepth 10000 in
theorem sdSI {W : World} {p : Nat} {a b : Int × Od} (h : SdAt W p a) : ∃ W', (Instr.storeAt tSdI (.pointer (some ⟨p, 0, none⟩)) (sdVI b)).run Tryz.prog W = .ok () W' ∧ SdAt W' p b ∧ Mod (fun y => y = p) W W' := by
  have h' : hp W p = some (.cells #[.int .u32 a.1, .int .u64 a.2.num, .int .u32 a.2.acct, .bool a.2.buy, .int .i64 a.2.price, .int .i64 a.2.left] tSdI (0, 0)) := h
  exact ⟨(((((W.setCell ⟨p, 0, none⟩ (.int .u32 b.1)).setCell ⟨p, 1, none⟩ (.int .u64 b.2.num)).setCell ⟨p, 2, none⟩ (.int .u32 b.2.acct)).setCell ⟨p, 3, none⟩ (.bool b.2.buy)).setCell ⟨p, 4, none⟩ (.int .i64 b.2.price)).setCell ⟨p, 5, none⟩ (.int .i64 b.2.left), by simp [go_sem, h', sdVI], by show hp _ _ = _; simp [go_sem, h'], ((((((Mod.refl (fun y => y = p) W).setCell (.inl rfl) _ _).setCell (.inl rfl) _ _).setCell (.inl rfl) _ _).setCell (.inl rfl) _ _).setCell (.inl rfl) _ _).setCell (.inl rfl) _ _⟩
theorem newSdI (w : World) : ∃ w1, (Instr.alloc tSdI true (.tuple #[])).run Tryz.prog w = .ok (.pointer (some ⟨w.heap.size, 0, none⟩)) w1 ∧ SdAt w1 w.heap.size (0, zOd) ∧ Mod (fun _ => False) w w1 :=
  ⟨w.alloc (.cells #[.int .u32 0, .int .u64 0, .int .u32 0, .bool false, .int .i64 0, .int .i64 0] tSdI), by simp [go_sem], by show hp _ _ = _; simp [go_sem, zOd], (Mod.refl _ w).alloc _⟩
theorem sdF (i : Nat) (hi : i < 2) (p : Nat) (W : World) : (Instr.fieldAt tSdI (.pointer (some ⟨p, 0, none⟩)) i).run Tryz.prog W = .ok (.pointer (some ⟨p, i, none⟩)) W := by
  have : i = 0 ∨ i = 1 := by omega
  rcases this with rfl | rfl <;> simp [go_sem]
theorem sdFO (i : Nat) (hi : i < 5) (p : Nat) (W : World) : (Instr.fieldAt 117 (.pointer (some ⟨p, 1, none⟩)) i).run Tryz.prog W = .ok (.pointer (some ⟨p, 1 + i, none⟩)) W := by
  have : i = 0 ∨ i = 1 ∨ i = 2 ∨ i = 3 ∨ i = 4 := by omega
  rcases this with rfl | rfl | rfl | rfl | rfl <;> simp [go_sem, addr_add]
set_option maxRecDepth 10000 in
theorem ca_rdOd (h0 : RdrAt w r v l s) (hK : ∀ w', RdrAt w' r v l (rsOd l s).2 → Mod (fun b => b = r) w w' → K (sdVI (rsOd l s).1) w') : Ca Tryz.prog 73 #[rdV r] w K := by
  apply ca73
  unfold F73
  obtain ⟨w1, e1, v1, m1⟩ := boxRd r w
  have hr0 := h0.lt
  have hv0 : ∀ b, inRd v b → b < w.heap.size := fun b hb => h0.rd.lt hb
  obtain ⟨c, hc0⟩ : ∃ c, c = w.heap.size := ⟨_, rfl⟩
  rw [← hc0] at e1 v1
  have h1 : RdC w1 c r v l s := ⟨h0.mod m1 id fun _ _ h => h, v1, by omega⟩
  refine rvS e1 ?_
  obtain ⟨w2, e2, b2, m2⟩ := newSdI w1
  obtain ⟨p, hp0⟩ : ∃ p, p = w1.heap.size := ⟨_, rfl⟩
  rw [← hp0] at e2 b2
  refine rvS e2 ?_
  have h2 := h1.md0 m2
  have hc1 := lt_of_heap v1
  have hr : r < p := by omega
  have hc : c < p := by omega
  have hwp : w.heap.size ≤ p := by omega
  have hv : ∀ b, inRd v b → b < p := fun b hb => by have := hv0 b hb; omega
  have hrw : ∀ {W W' : World}, Mod (fun b => b = r) w W → Mod (fun y => y = p) W W' → Mod (fun b => b = r) w W' := fun a b => a.on b fun y hy => .inr (by omega)
  have M2 : Mod (fun b => b = r) w w2 := (m1.trans m2).mono fun _ _ h => h.elim
  refine rvS (rvLV h2.var) ?_
  refine ca_iword h2.at_ fun w3 r3 m3 => ?_
  have h3 := h2.to r3 m3
  have b3 : SdAt w3 p _ := m3.hpk b2 (by omega)
  refine rvS (sdF 0 (by omega) p _) ?_
  obtain ⟨w4, e4, b4, m4⟩ := (sdSt b3).1 (rsNum l W32 s).1
  refine ruS e4 ?_
  have h4 := h3.st hr hc hv m4
  have M4 := hrw (M2.trans m3) m4
  refine rvS (rvF _ _) (rvS (rvL h4.var) ?_)
  refine ca_rnatI h4.at_ fun w5 r5 m5 => ?_
  have h5 := h4.to r5 m5
  have b5 : SdAt w5 p _ := m5.hpk b4 (by omega)
  refine rvS (sdF 1 (by omega) p _) (rvS (sdFO 0 (by omega) p _) ?_)
  obtain ⟨w6, e6, b6, m6⟩ := (sdSt b5).2.1 (rsNum l W64 (rsNum l W32 s).2).1
  refine ruS e6 ?_
  have h6 := h5.st hr hc hv m6
  have M6 := hrw (M4.trans m5) m6
  refine rvS (rvLV h6.var) ?_
  refine ca_iword h6.at_ fun w7 r7 m7 => ?_
  have h7 := h6.to r7 m7
  have b7 : SdAt w7 p _ := m7.hpk b6 (by omega)
  refine rvS (sdF 1 (by omega) p _) (rvS (sdFO 1 (by omega) p _) ?_)
  obtain ⟨w8, e8, b8, m8⟩ := (sdSt b7).2.2.1 (rsNum l W32 (rsNum l W64 (rsNum l W32 s).2).2).1
  refine ruS e8 ?_
  have h8 := h7.st hr hc hv m8
  have M8 := hrw (M6.trans m7) m8
  refine rvS (rvF _ _) (rvS (rvL h8.var) ?_)
  refine ca_rflag h8.at_ fun w9 r9 m9 => ?_
  have h9 := h8.to r9 m9
  have b9 : SdAt w9 p _ := m9.hpk b8 (by omega)
  refine rvS (sdF 1 (by omega) p _) (rvS (sdFO 2 (by omega) p _) ?_)
  obtain ⟨w10, e10, b10, m10⟩ := (sdSt b9).2.2.2.1 (rsFlag l (rsNum l W32 (rsNum l W64 (rsNum l W32 s).2).2).2).1
  refine ruS e10 ?_
  have h10 := (h9.st hr hc hv m10).md0 (Mod.refl (fun _ => False) w10).drew
  have b10' : SdAt w10.drew p _ := ((Mod.refl (fun _ => False) w10).drew).hpk b10 id
  have M10 := (hrw (M8.trans m9) m10).on (Mod.refl (fun _ => False) w10).drew fun _ h => h.elim
  generalize w10.drew = u10 at h10 b10' M10 ⊢
  refine rdPS (fun W => rvF W c) (rdWS (rvL h10.var) (rdPS (fun W => rvF W c) (rdWS (rvL h10.var) ?_)))
  refine ca_rint h10.at_ fun w11 r11 m11 => ?_
  have h11 := h10.to r11 m11
  have b11 : SdAt w11 p _ := m11.hpk b10' (by omega)
  refine ⟨rvL h11.var, rdPS (fun W => sdF 1 (by omega) p W) (rdPS (fun W => sdFO 3 (by omega) p W) ?_)⟩
  refine ca_rint h11.at_ fun w12 r12 m12 => ?_
  have h12 := h11.to r12 m12
  have b12 : SdAt w12 p _ := m12.hpk b11 (by omega)
  obtain ⟨w13, e13, b13, m13⟩ := (sdSt b12).2.2.2.2.1 (rsInt l (rsFlag l (rsNum l W32 (rsNum l W64 (rsNum l W32 s).2).2).2).2).1
  refine ruS e13 (rdPS (fun W => sdF 1 (by omega) p W) (rdPS (fun W => sdFO 4 (by omega) p W) ?_))
  obtain ⟨w14, e14, b14, m14⟩ := (sdSt b13).2.2.2.2.2 (rsInt l (rsInt l (rsFlag l (rsNum l W32 (rsNum l W64 (rsNum l W32 s).2).2).2).2).2).1
  refine ruS e14 (rvS (sdLI b14) ?_)
  obtain ⟨w15, e15, b15, m15⟩ := sdSI (b := (rsOd l s).1) b14
  refine ruS e15 (rdWS (sdLI b15) ?_)
  exact hK _ (((h12.st hr hc hv m13).st hr hc hv m14).st hr hc hv m15).at_ (hrw (hrw (hrw ((M10.trans m11).trans m12) m13) m14) m15)
end
end Go.Proofs
