/-
  The ledger's iterators: Accounts, Holders, Held.
  Conditions: where they ask for any, each theorem names them.
-/
import Derived.Test.YtanjfianhnhhmaaLedT
set_option linter.unusedVariables false
set_option linter.unusedSimpArgs false
namespace Go.Proofs
open Go Go.Vc Go.Sort

theorem sortedA {d l : List Ac} (hl : SortA l) (hp : d.Perm l) (hd : d.Pairwise fun x y => ltOf cmpAc y x = false) : d = l := by
  refine hp.eq_of_pairwise (fun a b ha hb h1 h2 => ?_) hd (hl.imp fun h => ?_)
  · rw [ltAc] at h1 h2
    simp only [decide_eq_false_iff_not] at h1 h2
    have ha' := hp.mem_iff.1 ha
    have e : a.num = b.num := by omega
    have h3 := Led.find_some (S := ⟨0, l, []⟩) hl ha'
    have h4 := Led.find_some (S := ⟨0, l, []⟩) hl hb
    rw [e, h4] at h3
    exact (Option.some.inj h3).symm
  · rw [ltAc]
    simp only [decide_eq_false_iff_not]
    omega
theorem sortedP {d l : List Po} (hl : SortP l) (hp : d.Perm l) (hd : d.Pairwise fun x y => ltOf cmpPo y x = false) : d = l := by
  refine hp.eq_of_pairwise (fun a b ha hb h1 h2 => ?_) hd (hl.imp fun h => ?_)
  · rw [ltPo] at h1 h2
    have ha' := hp.mem_iff.1 ha
    have e : a.key = b.key := by
      rcases klt_tri a.key b.key with h | h | h
      · rw [h] at h2; cases h2
      · exact h
      · rw [h] at h1; cases h1
    have h3 := Led.pos_some (S := ⟨0, [], l⟩) hl ha'
    have h4 := Led.pos_some (S := ⟨0, [], l⟩) hl hb
    rw [e, h4] at h3
    exact (Option.some.inj h3).symm
  · rw [ltPo]
    exact klt_asymm h

/-- One element behind the others. -/
theorem push1 {e ty tu : TypeId} {k by_ : Nat} {α : Type} {enc : α → List Value} {w : World} {v : Value} {d : List α} {x : α} {K : Kont} (ht : Try.prog.underlying tu = some (.slice e)) (hE : elemOk Try.prog e (k + 1) by_ = true) (hx : (enc x).length = k + 1) (h1 : (enc x).all (·.oneCell') = true) (hk : k < 1000) (hby : by_ ≤ 10000)
    (ho : Own w e (k + 1) v d.length (d.flatMap enc)) (hd : d.length < 4294967296)
    (hK : ∀ v' w', Own w' e (k + 1) v' (d ++ [x]).length ((d ++ [x]).flatMap enc) → Mod (inSl v) w w' → (∀ b, inSl v' b → inSl v b ∨ w.heap.size ≤ b) → K v' w') :
    rx Try.prog (xLit tu 1 [(0, .agg (enc x).toArray)]) w fun v36 w37 => rx Try.prog (xAppend #[tu, tu] ty [v, v36]) w37 K := by
  refine rx_lit (e := e) (sz := k + 1) [.agg (enc x).toArray] ht (elemT_of hE) rfl rfl (by simp [Value.cells, hx]) (by omega) ?_
  have mA : ∀ o, Mod (fun _ => False) w (w.alloc o) := fun o => (Mod.refl _ w).alloc o
  have hr : Rd (w.alloc (.cells (([Value.agg (enc x).toArray].flatMap (·.cells.toList)).toArray) e)) (k + 1) (.slice (some ⟨w.heap.size, 0, none⟩) 1 1) 1 (enc x) := by
    refine ⟨by rw [hx]; omega, .inr ⟨_, 0, 1, rfl, Nat.le_refl _, ⟨_, _, _, by rw [heap_alloc, if_pos rfl], ?_, ?_⟩⟩⟩
    · simp [Value.cells]
    · simp [Value.cells]
  refine rx_append (n := d.length) (m := 1) ht ht (elemT_of hE) (ho.mod (mA _) fun _ _ h => h) hr h1 ?_ fun v' w' o' m' n' => ?_
  · have : (d.length + 1) * by_ ≤ 4294967296 * 10000 := Nat.mul_le_mul (by omega) hby
    omega
  · refine hK v' w' ?_ (((mA _).mono fun _ _ h => h.elim).trans m') fun b hb => ?_
    · simpa using o'
    · rcases n' b hb with h | h
      · exact .inl h
      · rw [World.size_alloc] at h; exact .inr (by omega)

theorem tSlA : Try.prog.underlying 58 = some (.slice 34) := by kernel_rfl
theorem tSlP : Try.prog.underlying 59 = some (.slice 31) := by kernel_rfl

theorem it_accounts {l b : Nat} {S : Led} {T : TypeId} : IterN Try.prog (.func (.func 41) #[] #[.pointer (some ⟨b, 0, none⟩)]) (S.all.map fun a => [acV a]) (fun W => hp W b = some (.cells #[lptr l] T (0, 0)) ∧ ∃ F, LedQ W l F S) := by
  refine ⟨⟨_, _, _, rfl, ?_⟩⟩
  rintro y J Js W K ⟨hb, F, hq⟩ hQ hmod hstep hend hex
  have hq0 := hq
  obtain ⟨⟨m1, m2, A, B, h1, h2, h3, h4, h5, h6, h7⟩, hok⟩ := hq
  show Ca Try.prog _ #[y, .pointer (some ⟨b, 0, none⟩)] W K
  apply ca41
  unfold F41
  refine JoinW.at (fun s W' => ∃ (d : List Ac) (v : Value), s = (v, ()) ∧ Own W' 34 4 v d.length (d.flatMap cellsAc) ∧ d.Perm S.all ∧ Mod (fun _ => False) W W' ∧ ∀ b, inSl v b → W.heap.size ≤ b) ?_ ?_
  · simp [go_sem, hp_of hb]
    refine ca_ready hq0 ?_
    simp [go_sem, hp_of hb, lptr, hp_of h1]
    refine rx_range uMapA h2 fun w1 it1 mod1 => ?_
    generalize hg : W.heap.size = it at it1
    refine loopK (fun s W' => ∃ (d : List Ac) (v : Value) (rest : List (Int × Ac)), s = (v, ()) ∧ Own W' 34 4 v d.length (d.flatMap cellsAc) ∧ MapIt encU acV W' it m1 rest ∧ (d ++ (rest.filter fun p => decide (p.1 ≠ 0)).map (·.2)).Perm S.all ∧ Mod (fun _ => False) W W' ∧ ∀ b, inSl v b → it < b)
      (fun s W => itLeft it m1 W) ⟨[], _, A, rfl, Own.nil .., it1, ?_, mod1, fun b hb => by cases hb⟩ ?_
    · have := (h4.filter fun p => decide (p.1 ≠ 0)).map (·.2)
      refine this.trans (List.Perm.of_eq ?_)
      simp only [Led.accs]
      rw [List.filter_cons_of_neg (by simp), List.filter_eq_self.2 ?_, List.map_map]
      · exact List.map_id _
      · intro p hp
        obtain ⟨a, ha, rfl⟩ := List.mem_map.1 hp
        have := (hok.acc a ha).1
        simp; omega
    rintro ⟨v, _⟩ W1 ⟨d, _, rest, ⟨⟩, oW, itW, hp, mW, hv⟩ KN hKN
    unfold L41_0
    intro _
    refine rx_next itW ?_ ?_
    · intro h0 w' m' hh
      subst h0
      simp [go_sem]
      exact ⟨d, oW.mod m' fun _ _ h => h, by simpa using hp, mW.trans m', fun b hb => by have := hv b hb; omega⟩
    · intro i p hi w' it' cur' m' hsz
      simp [go_sem]
      refine rx_entry cur' ?_
      simp [go_sem, acV, encU]
      have hpe := perm_eraseIdx hi
      have mA : ∀ o, Mod (fun _ => False) W (w'.alloc o) := fun o => (mW.on m' fun b hb => .inr (by subst hb; omega)).alloc o
      have itA : ∀ o, MapIt encU acV (w'.alloc o) it m1 (rest.eraseIdx i) := fun o => it'.mod ((Mod.refl (fun _ => False) w').alloc o) id id
      have oA : ∀ o, Own (w'.alloc o) 34 4 v d.length (d.flatMap cellsAc) := fun o => (oW.mod m' fun b hb e => by have := hv b hb; omega).mod ((Mod.refl (fun _ => False) w').alloc o) fun _ _ h => h
      have hle : ∀ W', MapIt encU acV W' it m1 (rest.eraseIdx i) → itLeft it m1 W' < itLeft it m1 W1 := fun W' h => by
        rw [h.left, itW.left, List.length_eraseIdx]
        have : i < rest.length := (List.getElem?_eq_some_iff.1 hi).1
        rw [if_pos this]; omega
      have hdl : d.length ≤ 64 := by
        have h1 := hp.length_eq
        have h2 := hok.len
        simp only [List.length_append] at h1
        omega
      by_cases hz : p.1 = 0
      · rw [if_pos hz]
        refine hKN _ _ ⟨d, _, _, rfl, oA _, itA _, ?_, mA _, hv⟩ (hle _ (itA _))
        refine (List.Perm.append_left d ?_).trans hp
        have := (hpe.filter fun p => decide (p.1 ≠ 0)).map (·.2)
        rw [List.filter_cons_of_neg (by simp [hz])] at this
        exact this.symm
      · rw [if_neg hz]
        refine push1 (d := d) (enc := cellsAc) (x := p.2) (k := 3) tSlA acE1 rfl rfl (by omega) (by omega) (oA _) (by omega) fun v' w'' o' m'' n' => ?_
        have hitv : ¬ inSl v it := fun h => by have := hv it h; omega
        have hmv : ¬ inSl v m1 := fun h => by have := hv m1 h; have := h2.lt; omega
        refine hKN _ _ ⟨d ++ [p.2], v', _, rfl, o', (itA _).mod m'' hmv hitv, ?_, (mA _).on m'' fun b hb => .inr (by have := hv b hb; omega), fun b hb => ?_⟩ (hle _ ((itA _).mod m'' hmv hitv))
        · have := (hpe.filter fun p => decide (p.1 ≠ 0)).map (·.2)
          rw [List.filter_cons_of_pos (by simpa using hz), List.map_cons] at this
          rw [List.append_assoc]
          exact (List.Perm.append_left d this.symm).trans hp
        · rcases n' b hb with h | h
          · exact hv b h
          · rw [World.size_alloc, hsz] at h
            have := itW.lt.2
            omega
  rintro _ W1 ⟨d, v, rfl, oW, hp, mW, hv⟩
  unfold J41_1
  intro _
  have hdl : d.length ≤ 64 := by
    have h1 := hp.length_eq
    have h2 := hok.len
    omega
  refine ca_sortAc oW (by omega) fun w2 d' o2 p2 s2 m2' => ?_
  obtain rfl : d' = S.all := sortedA hok.sa (p2.trans hp) s2
  obtain ⟨sa, sc, rfl, hsc⟩ := o2.isSl
  apply ca44
  unfold F44
  simp [go_sem]
  have mW2 : Mod (fun _ => False) W w2 := mW.on m2' fun b hb => .inr (hv b hb)
  have mA : ∀ o, Mod (fun _ => False) W (w2.alloc o) := fun o => mW2.alloc o
  refine ca_told1Ac (n := d.length) (sl := .slice sa d.length sc) (T := 58) (J (inSl (.slice sa d.length sc))) Js (by simp [go_sem]) (o2.mod ((Mod.refl (fun _ => False) w2).alloc _) fun _ _ h => h) (by omega) (hQ _ _ (mA _) fun b hb => ⟨hv b hb, ?_⟩) (hmod _) ?_ ?_ hex
  · have := o2.lt hb
    rw [World.size_alloc]; omega
  · intro i x W' hx hJ K' hT hF
    exact hstep _ i [acV x] W' (by simp [hx]) hJ K' hT hF
  · intro W' hJ
    exact hend _ W' (by simpa using hJ)
end Go.Proofs

namespace Go.Proofs
open Go Go.Vc Go.Sort

theorem it_some {l b b2 f : Nat} {cap : Array Value} {S : Led} {T T2 : TypeId} {want : Po → Bool} {Wk : World → Prop} (hWk : ∀ W W', Wk W → Mod (fun _ => False) W W' → Wk W')
    (hwant : ∀ p W (K : Kont), Wk W → (∀ W', Mod (fun _ => False) W W' → K (.bool (want p)) W') → Ca Try.prog f ⟨poV p :: cap.toList⟩ W K) :
    IterN Try.prog (.func (.func 55) #[] #[.pointer (some ⟨b, 0, none⟩), .pointer (some ⟨b2, 0, none⟩)]) ((S.held.filter want).map fun a => [poV a])
      (fun W => hp W b = some (.cells #[lptr l] T (0, 0)) ∧ hp W b2 = some (.cells #[.func (.func f) #[] cap] T2 (0, 0)) ∧ Wk W ∧ S.held.length < 4294967295 ∧ ∃ F, LedQ W l F S) := by
  refine ⟨⟨_, _, _, rfl, ?_⟩⟩
  rintro y J Js W K ⟨hb, hb2, hwk, hlen, F, hq⟩ hQ hmod hstep hend hex
  have hq0 := hq
  obtain ⟨⟨m1, m2, A, B, h1, h2, h3, h4, h5, h6, h7⟩, hok⟩ := hq
  show Ca Try.prog _ #[y, .pointer (some ⟨b, 0, none⟩), .pointer (some ⟨b2, 0, none⟩)] W K
  apply ca55
  unfold F55
  refine JoinW.at (fun s W' => ∃ (d : List Po) (v : Value), s = (v, ()) ∧ Own W' 31 4 v d.length (d.flatMap cellsPo) ∧ d.Perm (S.held.filter want) ∧ Mod (fun _ => False) W W' ∧ ∀ b, inSl v b → W.heap.size ≤ b) ?_ ?_
  · simp [go_sem, hp_of hb]
    refine ca_ready hq0 ?_
    simp [go_sem, hp_of hb, lptr, hp_of h1]
    refine rx_range uMapP h3 fun w1 it1 mod1 => ?_
    generalize hg : W.heap.size = it at it1
    refine loopK (fun s W' => ∃ (d : List Po) (v : Value) (rest : List ((Int × Int) × Po)), s = (v, ()) ∧ Own W' 31 4 v d.length (d.flatMap cellsPo) ∧ MapIt encKey poV W' it m2 rest ∧ (d ++ (rest.map (·.2)).filter want).Perm (S.held.filter want) ∧ Mod (fun _ => False) W W' ∧ ∀ b, inSl v b → it < b)
      (fun s W => itLeft it m2 W) ⟨[], _, B, rfl, Own.nil .., it1, ?_, mod1, fun b hb => by cases hb⟩ ?_
    · have := (h5.map (·.2)).filter want
      refine this.trans (List.Perm.of_eq ?_)
      simp only [Led.poss, List.map_map]
      congr 1
      exact List.map_id _
    rintro ⟨v, _⟩ W1 ⟨d, _, rest, ⟨⟩, oW, itW, hpm, mW, hv⟩ KN hKN
    unfold L55_0
    intro _
    refine rx_next itW ?_ ?_
    · intro h0 w' m' hh
      subst h0
      simp [go_sem]
      exact ⟨d, oW.mod m' fun _ _ h => h, by simpa using hpm, mW.trans m', fun b hb => by have := hv b hb; omega⟩
    · intro i p hi w' it' cur' m' hsz
      simp [go_sem]
      refine rx_entry cur' ?_
      have mA0 : ∀ o, Mod (fun _ => False) W (w'.alloc o) := fun o => (mW.on m' fun b hb => .inr (by subst hb; omega)).alloc o
      have hb2' := fun o => (mA0 o).keep hb2 id
      have hne2 : b2 ≠ w'.heap.size := by
        have h1 := lt_of_heap hb2
        have h2 := mW.size
        omega
      have hb2w : w'.heap[b2]? = some (.cells #[.func (.func f) #[] cap] T2 (0, 0)) := (mW.on (F := fun _ => False) m' fun b hb => .inr (by subst hb; omega)).keep hb2 id
      simp [go_sem, poV, encKey, hp_of hb2w, hne2]
      have hpe := perm_eraseIdx hi
      generalize hw2 : World.alloc _ _ = w2
      have mA : Mod (fun _ => False) W w2 := by subst hw2; exact mA0 _
      have hloc : hp w2 w'.heap.size = some (.cells #[.int .u32 p.2.c, .int .u32 p.2.a, .int .i64 p.2.q, .int .i64 p.2.b] 31 (0, 0)) := by subst hw2; simp [go_sem]
      have m02 : Mod (fun _ => False) w' w2 := by subst hw2; exact (Mod.refl _ w').alloc _
      refine hwant p.2 w2 _ (hWk _ _ hwk mA) fun w3 m3 => ?_
      have hloc3 := m3.keep hloc id
      have m03 := m02.trans m3
      have mA3 := mA.trans m3
      have it3 : MapIt encKey poV w3 it m2 (rest.eraseIdx i) := it'.mod m03 id id
      have o3 : Own w3 31 4 v d.length (d.flatMap cellsPo) := (oW.mod m' fun b hb e => by have := hv b hb; omega).mod m03 fun _ _ h => h
      have hle : ∀ W', MapIt encKey poV W' it m2 (rest.eraseIdx i) → itLeft it m2 W' < itLeft it m2 W1 := fun W' h => by
        rw [h.left, itW.left, List.length_eraseIdx]
        have : i < rest.length := (List.getElem?_eq_some_iff.1 hi).1
        rw [if_pos this]; omega
      have hdl : d.length < 4294967295 := by
        have h1 := hpm.length_eq
        have h2 := List.length_filter_le want S.held
        simp only [List.length_append] at h1
        omega
      cases hz : want p.2
      · simp
        refine hKN _ _ ⟨d, _, _, rfl, o3, it3, ?_, mA3, hv⟩ (hle _ it3)
        refine (List.Perm.append_left d ?_).trans hpm
        have := (hpe.map (·.2)).filter want
        rw [List.map_cons, List.filter_cons_of_neg (by simp [hz])] at this
        exact this.symm
      · simp [go_sem, hp_of hloc3]
        refine push1 (d := d) (enc := cellsPo) (x := p.2) (k := 3) tSlP poE1 rfl rfl (by omega) (by omega) o3 (by omega) fun v' w'' o' m'' n' => ?_
        have hitv : ¬ inSl v it := fun h => by have := hv it h; omega
        have hmv : ¬ inSl v m2 := fun h => by have := hv m2 h; have := h3.lt; omega
        refine hKN _ _ ⟨d ++ [p.2], v', _, rfl, o', it3.mod m'' hmv hitv, ?_, mA3.on m'' fun b hb => .inr (by have := hv b hb; omega), fun b hb => ?_⟩ (hle _ (it3.mod m'' hmv hitv))
        · have := (hpe.map (·.2)).filter want
          rw [List.map_cons, List.filter_cons_of_pos (by simpa using hz)] at this
          rw [List.append_assoc]
          exact (List.Perm.append_left d this.symm).trans hpm
        · rcases n' b hb with h | h
          · exact hv b h
          · have := it3.lt.2
            have := m03.size
            have := itW.lt.2
            omega
  rintro _ W1 ⟨d, v, rfl, oW, hp, mW, hv⟩
  unfold J55_1
  intro _
  have hdl : d.length < 4294967295 := by
    have h1 := hp.length_eq
    have h2 := List.length_filter_le want S.held
    omega
  refine ca_sortPo oW (by omega) fun w2 d' o2 p2 s2 m2' => ?_
  obtain rfl : d' = S.held.filter want := sortedP (hok.sp.filter want) (p2.trans hp) s2
  obtain ⟨sa, sc, rfl, hsc⟩ := o2.isSl
  apply ca58
  unfold F58
  simp [go_sem]
  have mW2 : Mod (fun _ => False) W w2 := mW.on m2' fun b hb => .inr (hv b hb)
  have mA : ∀ o, Mod (fun _ => False) W (w2.alloc o) := fun o => mW2.alloc o
  refine ca_told1Po (n := d.length) (sl := .slice sa d.length sc) (T := 59) (J (inSl (.slice sa d.length sc))) Js (by simp [go_sem]) (o2.mod ((Mod.refl (fun _ => False) w2).alloc _) fun _ _ h => h) (by omega) (hQ _ _ (mA _) fun b hb => ⟨hv b hb, ?_⟩) (hmod _) ?_ ?_ hex
  · have := o2.lt hb
    rw [World.size_alloc]; omega
  · intro i x W' hx hJ K' hT hF
    exact hstep _ i [poV x] W' (by simp [hx]) hJ K' hT hF
  · intro W' hJ
    exact hend _ W' (by simpa using hJ)

/-- gv tells xs, ranged over in any world in which what lies now still lies. -/
structure Tells (gv : Value) (xs : List (List Value)) (w : World) : Prop where
  out : ∃ Ok, IterN Try.prog gv xs Ok ∧ ∀ W, Mod (fun _ => False) w W → Ok W
  fn : ∃ f cap, gv = .func (.func f) #[] cap

theorem ca_accounts {w : World} {l : Nat} {F : Nat → Prop} {S : Led} {K : Kont} (h : LedQ w l F S)
    (hK : ∀ gv w', Tells gv (S.all.map fun a => [acV a]) w' → Mod (fun _ => False) w w' → K gv w') : Ca Try.prog 20 #[lptr l] w K := by
  apply ca20
  unfold F20
  simp [go_sem, lptr]
  refine hK _ _ ⟨⟨_, it_accounts (l := l) (b := w.heap.size) (T := 23), fun W m => ⟨m.keep ?_ id, F, h.mod (((Mod.refl (fun _ => False) w).alloc _).trans m) fun _ _ h => h⟩⟩, _, _, rfl⟩ ((Mod.refl _ w).alloc _)
  rw [heap_alloc, if_pos rfl]
  rfl

theorem ca_holders {w : World} {l : Nat} {F : Nat → Prop} {S : Led} {K : Kont} {c : Int} (h : LedQ w l F S) (hl : S.held.length < 4294967295)
    (hK : ∀ gv w', Tells gv ((S.holders c).map fun a => [poV a]) w' → Mod (fun _ => False) w w' → K gv w') : Ca Try.prog 17 #[lptr l, .int .u32 c] w K := by
  apply ca17
  unfold F17
  simp [go_sem]
  apply ca39
  unfold F39
  simp [go_sem, lptr]
  generalize hw2 : World.alloc _ _ = w2
  have m2 : Mod (fun _ => False) w w2 := by subst hw2; exact (((Mod.refl _ w).alloc _).alloc _).alloc _
  have g0 : hp w2 w.heap.size = some (.cells #[.int .u32 c] 22 (0, 0)) := by subst hw2; simp [go_sem]
  have g1 : hp w2 (w.heap.size + 1) = some (.cells #[lptr l] 23 (0, 0)) := by subst hw2; simp [go_sem, lptr]
  have g2 : hp w2 (w.heap.size + 2) = some (.cells #[.func (.func 40) #[] #[.pointer (some ⟨w.heap.size, 0, none⟩)]] 83 (0, 0)) := by subst hw2; simp [go_sem]
  refine hK _ _ ⟨⟨_, it_some (l := l) (b := w.heap.size + 1) (b2 := w.heap.size + 2) (f := 40) (cap := #[.pointer (some ⟨w.heap.size, 0, none⟩)]) (T := 23) (T2 := 83) (Wk := fun W => hp W w.heap.size = some (.cells #[.int .u32 c] 22 (0, 0)))
    (want := fun p => decide (p.c = c)) (fun W W' hh m => m.keep hh id) ?_, fun W m => ⟨m.keep g1 id, m.keep g2 id, m.keep g0 id, hl, F, h.mod (m2.trans m) fun _ _ h => h⟩⟩, _, _, rfl⟩ m2
  intro p W K hW hK
  apply ca40
  unfold F40
  have hlt := lt_of_heap hW
  simp [go_sem, poV, hp_of hW, olds hlt]
  have := hK _ ((Mod.refl _ W).alloc (.cells #[.int .u32 p.c, .int .u32 p.a, .int .i64 p.q, .int .i64 p.b] 31))
  rw [show (p.c == c) = decide (p.c = c) by rw [Bool.eq_iff_iff]; simp]
  exact this

theorem ca_held {w : World} {l : Nat} {F : Nat → Prop} {S : Led} {K : Kont} {c : Int} (h : LedQ w l F S) (hl : S.held.length < 4294967295)
    (hK : ∀ gv w', Tells gv ((S.ofA c).map fun a => [poV a]) w' → Mod (fun _ => False) w w' → K gv w') : Ca Try.prog 52 #[lptr l, .int .u32 c] w K := by
  apply ca52
  unfold F52
  simp [go_sem]
  apply ca39
  unfold F39
  simp [go_sem, lptr]
  generalize hw2 : World.alloc _ _ = w2
  have m2 : Mod (fun _ => False) w w2 := by subst hw2; exact (((Mod.refl _ w).alloc _).alloc _).alloc _
  have g0 : hp w2 w.heap.size = some (.cells #[.int .u32 c] 22 (0, 0)) := by subst hw2; simp [go_sem]
  have g1 : hp w2 (w.heap.size + 1) = some (.cells #[lptr l] 23 (0, 0)) := by subst hw2; simp [go_sem, lptr]
  have g2 : hp w2 (w.heap.size + 2) = some (.cells #[.func (.func 62) #[] #[.pointer (some ⟨w.heap.size, 0, none⟩)]] 83 (0, 0)) := by subst hw2; simp [go_sem]
  refine hK _ _ ⟨⟨_, it_some (l := l) (b := w.heap.size + 1) (b2 := w.heap.size + 2) (f := 62) (cap := #[.pointer (some ⟨w.heap.size, 0, none⟩)]) (T := 23) (T2 := 83) (Wk := fun W => hp W w.heap.size = some (.cells #[.int .u32 c] 22 (0, 0)))
    (want := fun p => decide (p.a = c)) (fun W W' hh m => m.keep hh id) ?_, fun W m => ⟨m.keep g1 id, m.keep g2 id, m.keep g0 id, hl, F, h.mod (m2.trans m) fun _ _ h => h⟩⟩, _, _, rfl⟩ m2
  intro p W K hW hK
  apply ca62
  unfold F62
  have hlt := lt_of_heap hW
  simp [go_sem, poV, hp_of hW, olds hlt]
  have := hK _ ((Mod.refl _ W).alloc (.cells #[.int .u32 p.c, .int .u32 p.a, .int .i64 p.q, .int .i64 p.b] 31))
  rw [show (p.a == c) = decide (p.a = c) by rw [Bool.eq_iff_iff]; simp]
  exact this
end Go.Proofs
