/- Part of a proof. -/
import Derived.Test.YtgebhcgmckjbbaaGreatI9
set_option linter.all false
namespace Go.Proofs
open Go Go.Vc Go.Sort
theorem ca_sortAc {w : World} {sl : Value} {n : Nat} {d : List Ac} {K : Kont} (ho : Own w 92 4 sl n (d.flatMap cellsAc)) (hn : n < 4611686018427387904)
    (hK : ∀ (w' : World) (d' : List Ac), Own w' 92 4 sl n (d'.flatMap cellsAc) → d'.Perm d → d'.Pairwise (fun x y => ltOf cmpAc y x = false) → Mod (inSl sl) w w' → K (.tuple #[]) w') :
    Ca Tryz.prog 139 #[sl, .func (.func 140) #[] #[]] w K :=
  ca_sortK (P := Tryz.prog) (α := Ac) Tryz.noNum Tryz.sortAc 3 (by kernel_rfl) (by kernel_rfl) cellsAc (fun _ => rfl) (fun _ => rfl) cmpAc swoAc 140 ca_cmpAc ho hn hK
theorem ca_told1Ac {y sl : Value} {b n : Nat} {T : TypeId} {xs : List Ac} (J : Nat → World → Prop) (Js : World → Prop) {W : World} {K : Kont} (hb : hp W b = some (.cells #[sl] T (0, 0))) (ho : Own W 92 4 sl n (xs.flatMap cellsAc)) (hn : n < 4611686018427387904)
    (h0 : J 0 W) (hmod : ∀ i W W', J i W → Mod (fun _ => False) W W' → J i W')
    (hstep : ∀ i x W, xs[i]? = some x → J i W → ∀ K' : Kont, (∀ W', J (i + 1) W' → (∀ b, inSl sl b → W'.heap[b]? = W.heap[b]?) → K' (.bool true) W') → (∀ W', Js W' → K' (.bool false) W') → callV Tryz.prog y [acV x] W K')
    (hend : ∀ W, J xs.length W → K (.tuple #[]) W) (hex : ∀ W, Js W → K (.tuple #[]) W) : Ca Tryz.prog 231 #[y, .pointer (some ⟨b, 0, none⟩)] W K := by
  have hln : xs.length = n := by
    have := ho.1
    rw [flat_len cellsAc 4 xs fun x _ => rfl] at this
    omega
  obtain ⟨sa, sc, rfl, hsc⟩ := ho.isSl
  apply ca231
  unfold F231
  simp [go_sem, hp_of hb]
  refine loopK (fun s W' => ∃ i : Nat, i ≤ n ∧ s = (.int .i64 i, ()) ∧ J i W' ∧ Own W' 92 4 (.slice sa n sc) n (xs.flatMap cellsAc))
    (fun s _ => match s.1 with | .int _ i => n - i.toNat | _ => 0) ⟨0, by omega, rfl, h0, ho⟩ ?_
  rintro ⟨_, _⟩ W' ⟨i, hi, ⟨⟩, hJ, hO⟩ KN hKN
  unfold L231_0
  intro _
  by_cases hlt : i < n
  · obtain ⟨b', cap, hsl, hAt⟩ := Own.elem hO hlt
    obtain ⟨rfl, -, rfl⟩ : sa = some ⟨b', 0, none⟩ ∧ True ∧ sc = cap := by injection hsl with e1 e2 e3; exact ⟨e1, trivial, e3⟩
    rw [flat_get cellsAc 4 _ _ (fun _ _ => rfl) (by omega)] at hAt
    obtain ⟨C, e, fz, hC, hCg⟩ := hAt.get
    have hC0 := hCg 0 _ rfl
    have hC1 := hCg 1 _ rfl
    have hC2 := hCg 2 _ rfl
    have hC3 := hCg 3 _ rfl
    simp only [Nat.zero_add, Nat.add_zero] at hC0 hC1 hC2 hC3
    have hw1 : IntKind.i64.wrap ((i : Int) + 1) = ((i + 1 : Nat) : Int) := by rw [IntKind.wrap_i64]; omega
    simp [-Int.natCast_add, go_sem, hlt, hC, hC0, hC1, hC2, hC3]
    have hx : xs[i]? = some xs[i] := List.getElem?_eq_getElem (by omega)
    have mA : ∀ o, Mod (fun _ => False) W' (W'.alloc o) := fun o => (Mod.refl _ W').alloc o
    refine hstep i _ _ hx (hmod _ _ _ hJ (mA _)) _ (fun W2 hJ2 hq => ?_) (fun W2 hs => ?_)
    · simp [-Int.natCast_add, go_sem, hw1]
      refine hKN _ _ ⟨i + 1, by omega, rfl, hJ2, (hO.mod (mA _) fun _ _ h => h).keep hq⟩ (by simp; omega)
    · simp [go_sem]
      exact hex _ hs
  · obtain rfl : i = n := by omega
    simp [go_sem]
    exact hend _ (hln ▸ hJ)
theorem ca_sortPo {w : World} {sl : Value} {n : Nat} {d : List Po} {K : Kont} (ho : Own w 112 4 sl n (d.flatMap cellsPo)) (hn : n < 4611686018427387904)
    (hK : ∀ (w' : World) (d' : List Po), Own w' 112 4 sl n (d'.flatMap cellsPo) → d'.Perm d → d'.Pairwise (fun x y => ltOf cmpPo y x = false) → Mod (inSl sl) w w' → K (.tuple #[]) w') :
    Ca Tryz.prog 233 #[sl, .func (.func 234) #[] #[]] w K :=
  ca_sortK (P := Tryz.prog) (α := Po) Tryz.noNum Tryz.sortPo 3 (by kernel_rfl) (by kernel_rfl) cellsPo (fun _ => rfl) (fun _ => rfl) cmpPo swoPo 234 ca_cmpPo ho hn hK
theorem ca_told1Po {y sl : Value} {b n : Nat} {T : TypeId} {xs : List Po} (J : Nat → World → Prop) (Js : World → Prop) {W : World} {K : Kont} (hb : hp W b = some (.cells #[sl] T (0, 0))) (ho : Own W 112 4 sl n (xs.flatMap cellsPo)) (hn : n < 4611686018427387904)
    (h0 : J 0 W) (hmod : ∀ i W W', J i W → Mod (fun _ => False) W W' → J i W')
    (hstep : ∀ i x W, xs[i]? = some x → J i W → ∀ K' : Kont, (∀ W', J (i + 1) W' → (∀ b, inSl sl b → W'.heap[b]? = W.heap[b]?) → K' (.bool true) W') → (∀ W', Js W' → K' (.bool false) W') → callV Tryz.prog y [poV x] W K')
    (hend : ∀ W, J xs.length W → K (.tuple #[]) W) (hex : ∀ W, Js W → K (.tuple #[]) W) : Ca Tryz.prog 286 #[y, .pointer (some ⟨b, 0, none⟩)] W K := by
  have hln : xs.length = n := by
    have := ho.1
    rw [flat_len cellsPo 4 xs fun x _ => rfl] at this
    omega
  obtain ⟨sa, sc, rfl, hsc⟩ := ho.isSl
  apply ca286
  unfold F286
  simp [go_sem, hp_of hb]
  refine loopK (fun s W' => ∃ i : Nat, i ≤ n ∧ s = (.int .i64 i, ()) ∧ J i W' ∧ Own W' 112 4 (.slice sa n sc) n (xs.flatMap cellsPo))
    (fun s _ => match s.1 with | .int _ i => n - i.toNat | _ => 0) ⟨0, by omega, rfl, h0, ho⟩ ?_
  rintro ⟨_, _⟩ W' ⟨i, hi, ⟨⟩, hJ, hO⟩ KN hKN
  unfold L286_0
  intro _
  by_cases hlt : i < n
  · obtain ⟨b', cap, hsl, hAt⟩ := Own.elem hO hlt
    obtain ⟨rfl, -, rfl⟩ : sa = some ⟨b', 0, none⟩ ∧ True ∧ sc = cap := by injection hsl with e1 e2 e3; exact ⟨e1, trivial, e3⟩
    rw [flat_get cellsPo 4 _ _ (fun _ _ => rfl) (by omega)] at hAt
    obtain ⟨C, e, fz, hC, hCg⟩ := hAt.get
    have hC0 := hCg 0 _ rfl
    have hC1 := hCg 1 _ rfl
    have hC2 := hCg 2 _ rfl
    have hC3 := hCg 3 _ rfl
    simp only [Nat.zero_add, Nat.add_zero] at hC0 hC1 hC2 hC3
    have hw1 : IntKind.i64.wrap ((i : Int) + 1) = ((i + 1 : Nat) : Int) := by rw [IntKind.wrap_i64]; omega
    simp [-Int.natCast_add, go_sem, hlt, hC, hC0, hC1, hC2, hC3]
    have hx : xs[i]? = some xs[i] := List.getElem?_eq_getElem (by omega)
    have mA : ∀ o, Mod (fun _ => False) W' (W'.alloc o) := fun o => (Mod.refl _ W').alloc o
    refine hstep i _ _ hx (hmod _ _ _ hJ (mA _)) _ (fun W2 hJ2 hq => ?_) (fun W2 hs => ?_)
    · simp [-Int.natCast_add, go_sem, hw1]
      refine hKN _ _ ⟨i + 1, by omega, rfl, hJ2, (hO.mod (mA _) fun _ _ h => h).keep hq⟩ (by simp; omega)
    · simp [go_sem]
      exact hex _ hs
  · obtain rfl : i = n := by omega
    simp [go_sem]
    exact hend _ (hln ▸ hJ)
end Go.Proofs
namespace Go.Proofs
open Go Go.Vc Go.Sort
theorem sortedA {d l : List Ac} (hl : SortA l) (hp : d.Perm l) (hd : d.Pairwise fun x y => ltOf cmpAc y x = false) : d = l := by
  refine hp.eq_of_pairwise (fun a b ha hb h1 h2 => ?_) hd (hl.imp fun h => ?_)
  · rw [ltAc] at h1 h2
    simp only [decide_eq_false_iff_not] at h1 h2
    have ha' := hp.mem_iff.1 ha
    have e : a.num = b.num := by omega
    have h3 := Led.find_some (S := ⟨0, l, []⟩) hl ha'
    have h4 := Led.find_some (S := ⟨0, l, []⟩) hl hb
    rw [e, h4] at h3
    exact (Option.some.inj h3).symm
  · rw [ltAc]
    simp only [decide_eq_false_iff_not]
    omega
theorem sortedP {d l : List Po} (hl : SortP l) (hp : d.Perm l) (hd : d.Pairwise fun x y => ltOf cmpPo y x = false) : d = l := by
  refine hp.eq_of_pairwise (fun a b ha hb h1 h2 => ?_) hd (hl.imp fun h => ?_)
  · rw [ltPo] at h1 h2
    have ha' := hp.mem_iff.1 ha
    have e : a.key = b.key := by
      rcases klt_tri a.key b.key with h | h | h
      · rw [h] at h2; cases h2
      · exact h
      · rw [h] at h1; cases h1
    have h3 := Led.pos_some (S := ⟨0, [], l⟩) hl ha'
    have h4 := Led.pos_some (S := ⟨0, [], l⟩) hl hb
    rw [e, h4] at h3
    exact (Option.some.inj h3).symm
  · rw [ltPo]
    exact klt_asymm h
theorem push1 {e ty tu : TypeId} {k by_ : Nat} {α : Type} {enc : α → List Value} {w : World} {v : Value} {d : List α} {x : α} {K : Kont} (ht : Tryz.prog.underlying tu = some (.slice e)) (hE : elemOk Tryz.prog e (k + 1) by_ = true) (hx : (enc x).length = k + 1) (h1 : (enc x).all (·.oneCell') = true) (hk : k < 1000) (hby : by_ ≤ 10000)
    (ho : Own w e (k + 1) v d.length (d.flatMap enc)) (hd : d.length < 4294967296)
    (hK : ∀ v' w', Own w' e (k + 1) v' (d ++ [x]).length ((d ++ [x]).flatMap enc) → Mod (inSl v) w w' → (∀ b, inSl v' b → inSl v b ∨ w.heap.size ≤ b) → K v' w') :
    rx Tryz.prog (xLit tu 1 [(0, .agg (enc x).toArray)]) w fun v36 w37 => rx Tryz.prog (xAppend #[tu, tu] ty [v, v36]) w37 K := by
  refine rx_lit (e := e) (sz := k + 1) [.agg (enc x).toArray] ht (elemT_of hE) rfl rfl (by simp [Value.cells, hx]) (by omega) ?_
  have mA : ∀ o, Mod (fun _ => False) w (w.alloc o) := fun o => (Mod.refl _ w).alloc o
  have hr : Rd (w.alloc (.cells (([Value.agg (enc x).toArray].flatMap (·.cells.toList)).toArray) e)) (k + 1) (.slice (some ⟨w.heap.size, 0, none⟩) 1 1) 1 (enc x) := by
    refine ⟨by rw [hx]; omega, .inr ⟨_, 0, 1, rfl, Nat.le_refl _, ⟨_, _, _, by rw [heap_alloc, if_pos rfl], ?_, ?_⟩⟩⟩
    · simp [Value.cells]
    · simp [Value.cells]
  refine rx_append (n := d.length) (m := 1) ht ht (elemT_of hE) (ho.mod (mA _) fun _ _ h => h) hr h1 ?_ fun v' w' o' m' n' => ?_
  · have : (d.length + 1) * by_ ≤ 4294967296 * 10000 := Nat.mul_le_mul (by omega) hby
    omega
  · refine hK v' w' ?_ (((mA _).mono fun _ _ h => h.elim).trans m') fun b hb => ?_
    · simpa using o'
    · rcases n' b hb with h | h
      · exact .inl h
      · rw [World.size_alloc] at h; exact .inr (by omega)
theorem tSlA : Tryz.prog.underlying 44 = some (.slice 92) := by kernel_rfl
theorem tSlP : Tryz.prog.underlying 46 = some (.slice 112) := by kernel_rfl
theorem it_accounts {l b : Nat} {S : Led} {T : TypeId} : IterN Tryz.prog (.func (.func 138) #[] #[.pointer (some ⟨b, 0, none⟩)]) (S.all.map fun a => [acV a]) (fun W => hp W b = some (.cells #[lptr l] T (0, 0)) ∧ ∃ F, LedQ W l F S) := by
  refine ⟨⟨_, _, _, rfl, ?_⟩⟩
  rintro y J Js W K ⟨hb, F, hq⟩ hQ hmod hstep hend hex
  have hq0 := hq
  obtain ⟨⟨m1, m2, A, B, h1, h2, h3, h4, h5, h6, h7⟩, hok⟩ := hq
  show Ca Tryz.prog _ #[y, .pointer (some ⟨b, 0, none⟩)] W K
  apply ca138
  unfold F138
  refine JoinW.at (fun s W' => ∃ (d : List Ac) (v : Value), s = (v, ()) ∧ Own W' 92 4 v d.length (d.flatMap cellsAc) ∧ d.Perm S.all ∧ Mod (fun _ => False) W W' ∧ ∀ b, inSl v b → W.heap.size ≤ b) ?_ ?_
  · simp [go_sem, hp_of hb]
    refine ca_ready hq0 ?_
    simp [go_sem, hp_of hb, lptr, hp_of h1]
    refine rx_range uMapA h2 fun w1 it1 mod1 => ?_
    generalize hg : W.heap.size = it at it1
    refine loopK (fun s W' => ∃ (d : List Ac) (v : Value) (rest : List (Int × Ac)), s = (v, ()) ∧ Own W' 92 4 v d.length (d.flatMap cellsAc) ∧ MapIt encU acV W' it m1 rest ∧ (d ++ (rest.filter fun p => decide (p.1 ≠ 0)).map (·.2)).Perm S.all ∧ Mod (fun _ => False) W W' ∧ ∀ b, inSl v b → it < b)
      (fun s W => itLeft it m1 W) ⟨[], _, A, rfl, Own.nil .., it1, ?_, mod1, fun b hb => by cases hb⟩ ?_
    · have := (h4.filter fun p => decide (p.1 ≠ 0)).map (·.2)
      refine this.trans (List.Perm.of_eq ?_)
      simp only [Led.accs]
      rw [List.filter_cons_of_neg (by simp), List.filter_eq_self.2 ?_, List.map_map]
      · exact List.map_id _
      · intro p hp
        obtain ⟨a, ha, rfl⟩ := List.mem_map.1 hp
        have := (hok.acc a ha).1
        simp; omega
    rintro ⟨v, _⟩ W1 ⟨d, _, rest, ⟨⟩, oW, itW, hp, mW, hv⟩ KN hKN
    unfold L138_0
    intro _
    refine rx_next itW ?_ ?_
    · intro h0 w' m' hh
      subst h0
      simp [go_sem]
      exact ⟨d, oW.mod m' fun _ _ h => h, by simpa using hp, mW.trans m', fun b hb => by have := hv b hb; omega⟩
    · intro i p hi w' it' cur' m' hsz
      simp [go_sem]
      refine rx_entry cur' ?_
      simp [go_sem, acV, encU]
      have hpe := perm_eraseIdx hi
      have mA : ∀ o, Mod (fun _ => False) W (w'.alloc o) := fun o => (mW.on m' fun b hb => .inr (by subst hb; omega)).alloc o
      have itA : ∀ o, MapIt encU acV (w'.alloc o) it m1 (rest.eraseIdx i) := fun o => it'.mod ((Mod.refl (fun _ => False) w').alloc o) id id
      have oA : ∀ o, Own (w'.alloc o) 92 4 v d.length (d.flatMap cellsAc) := fun o => (oW.mod m' fun b hb e => by have := hv b hb; omega).mod ((Mod.refl (fun _ => False) w').alloc o) fun _ _ h => h
      have hle : ∀ W', MapIt encU acV W' it m1 (rest.eraseIdx i) → itLeft it m1 W' < itLeft it m1 W1 := fun W' h => by
        rw [h.left, itW.left, List.length_eraseIdx]
        have : i < rest.length := (List.getElem?_eq_some_iff.1 hi).1
        rw [if_pos this]; omega
      have hdl : d.length ≤ 64 := by
        have h1 := hp.length_eq
        have h2 := hok.len
        simp only [List.length_append] at h1
        omega
      by_cases hz : p.1 = 0
      · rw [if_pos hz]
        refine hKN _ _ ⟨d, _, _, rfl, oA _, itA _, ?_, mA _, hv⟩ (hle _ (itA _))
        refine (List.Perm.append_left d ?_).trans hp
        have := (hpe.filter fun p => decide (p.1 ≠ 0)).map (·.2)
        rw [List.filter_cons_of_neg (by simp [hz])] at this
        exact this.symm
      · rw [if_neg hz]
        refine push1 (d := d) (enc := cellsAc) (x := p.2) (k := 3) tSlA acE1 rfl rfl (by omega) (by omega) (oA _) (by omega) fun v' w'' o' m'' n' => ?_
        have hitv : ¬ inSl v it := fun h => by have := hv it h; omega
        have hmv : ¬ inSl v m1 := fun h => by have := hv m1 h; have := h2.lt; omega
        refine hKN _ _ ⟨d ++ [p.2], v', _, rfl, o', (itA _).mod m'' hmv hitv, ?_, (mA _).on m'' fun b hb => .inr (by have := hv b hb; omega), fun b hb => ?_⟩ (hle _ ((itA _).mod m'' hmv hitv))
        · have := (hpe.filter fun p => decide (p.1 ≠ 0)).map (·.2)
          rw [List.filter_cons_of_pos (by simpa using hz), List.map_cons] at this
          rw [List.append_assoc]
          exact (List.Perm.append_left d this.symm).trans hp
        · rcases n' b hb with h | h
          · exact hv b h
          · rw [World.size_alloc, hsz] at h
            have := itW.lt.2
            omega
  rintro _ W1 ⟨d, v, rfl, oW, hp, mW, hv⟩
  unfold J138_1
  intro _
  have hdl : d.length ≤ 64 := by
    have h1 := hp.length_eq
    have h2 := hok.len
    omega
  refine ca_sortAc oW (by omega) fun w2 d' o2 p2 s2 m2' => ?_
  obtain rfl : d' = S.all := sortedA hok.sa (p2.trans hp) s2
  obtain ⟨sa, sc, rfl, hsc⟩ := o2.isSl
  apply ca141
  unfold F141
  simp [go_sem]
  have mW2 : Mod (fun _ => False) W w2 := mW.on m2' fun b hb => .inr (hv b hb)
  have mA : ∀ o, Mod (fun _ => False) W (w2.alloc o) := fun o => mW2.alloc o
  refine ca_told1Ac (n := d.length) (sl := .slice sa d.length sc) (T := 44) (J (inSl (.slice sa d.length sc))) Js (by simp [go_sem]) (o2.mod ((Mod.refl (fun _ => False) w2).alloc _) fun _ _ h => h) (by omega) (hQ _ _ (mA _) fun b hb => ⟨hv b hb, ?_⟩) (hmod _) ?_ ?_ hex
  · have := o2.lt hb
    rw [World.size_alloc]; omega
  · intro i x W' hx hJ K' hT hF
    exact hstep _ i [acV x] W' (by simp [hx]) hJ K' hT hF
  · intro W' hJ
    exact hend _ W' (by simpa using hJ)
end Go.Proofs
namespace Go.Proofs
open Go Go.Vc Go.Sort
theorem it_some {l b b2 f : Nat} {cap : Array Value} {S : Led} {T T2 : TypeId} {want : Po → Bool} {Wk : World → Prop} (hWk : ∀ W W', Wk W → Mod (fun _ => False) W W' → Wk W')
    (hwant : ∀ p W (K : Kont), Wk W → (∀ W', Mod (fun _ => False) W W' → K (.bool (want p)) W') → Ca Tryz.prog f ⟨poV p :: cap.toList⟩ W K) :
    IterN Tryz.prog (.func (.func 232) #[] #[.pointer (some ⟨b, 0, none⟩), .pointer (some ⟨b2, 0, none⟩)]) ((S.held.filter want).map fun a => [poV a])
      (fun W => hp W b = some (.cells #[lptr l] T (0, 0)) ∧ hp W b2 = some (.cells #[.func (.func f) #[] cap] T2 (0, 0)) ∧ Wk W ∧ S.held.length < 4294967295 ∧ ∃ F, LedQ W l F S) := by
  refine ⟨⟨_, _, _, rfl, ?_⟩⟩
  rintro y J Js W K ⟨hb, hb2, hwk, hlen, F, hq⟩ hQ hmod hstep hend hex
  have hq0 := hq
  obtain ⟨⟨m1, m2, A, B, h1, h2, h3, h4, h5, h6, h7⟩, hok⟩ := hq
  show Ca Tryz.prog _ #[y, .pointer (some ⟨b, 0, none⟩), .pointer (some ⟨b2, 0, none⟩)] W K
  apply ca232
  unfold F232
  refine JoinW.at (fun s W' => ∃ (d : List Po) (v : Value), s = (v, ()) ∧ Own W' 112 4 v d.length (d.flatMap cellsPo) ∧ d.Perm (S.held.filter want) ∧ Mod (fun _ => False) W W' ∧ ∀ b, inSl v b → W.heap.size ≤ b) ?_ ?_
  · simp [go_sem, hp_of hb]
    refine ca_ready hq0 ?_
    simp [go_sem, hp_of hb, lptr, hp_of h1]
    refine rx_range uMapP h3 fun w1 it1 mod1 => ?_
    generalize hg : W.heap.size = it at it1
    refine loopK (fun s W' => ∃ (d : List Po) (v : Value) (rest : List ((Int × Int) × Po)), s = (v, ()) ∧ Own W' 112 4 v d.length (d.flatMap cellsPo) ∧ MapIt encKey poV W' it m2 rest ∧ (d ++ (rest.map (·.2)).filter want).Perm (S.held.filter want) ∧ Mod (fun _ => False) W W' ∧ ∀ b, inSl v b → it < b)
      (fun s W => itLeft it m2 W) ⟨[], _, B, rfl, Own.nil .., it1, ?_, mod1, fun b hb => by cases hb⟩ ?_
    · have := (h5.map (·.2)).filter want
      refine this.trans (List.Perm.of_eq ?_)
      simp only [Led.poss, List.map_map]
      congr 1
      exact List.map_id _
    rintro ⟨v, _⟩ W1 ⟨d, _, rest, ⟨⟩, oW, itW, hpm, mW, hv⟩ KN hKN
    unfold L232_0
    intro _
    refine rx_next itW ?_ ?_
    · intro h0 w' m' hh
      subst h0
      simp [go_sem]
      exact ⟨d, oW.mod m' fun _ _ h => h, by simpa using hpm, mW.trans m', fun b hb => by have := hv b hb; omega⟩
    · intro i p hi w' it' cur' m' hsz
      simp [go_sem]
      refine rx_entry cur' ?_
      have mA0 : ∀ o, Mod (fun _ => False) W (w'.alloc o) := fun o => (mW.on m' fun b hb => .inr (by subst hb; omega)).alloc o
      have hb2' := fun o => (mA0 o).keep hb2 id
      have hne2 : b2 ≠ w'.heap.size := by
        have h1 := lt_of_heap hb2
        have h2 := mW.size
        omega
      have hb2w : w'.heap[b2]? = some (.cells #[.func (.func f) #[] cap] T2 (0, 0)) := (mW.on (F := fun _ => False) m' fun b hb => .inr (by subst hb; omega)).keep hb2 id
      simp [go_sem, poV, encKey, hp_of hb2w, hne2]
      have hpe := perm_eraseIdx hi
      generalize hw2 : World.alloc _ _ = w2
      have mA : Mod (fun _ => False) W w2 := by subst hw2; exact mA0 _
      have hloc : hp w2 w'.heap.size = some (.cells #[.int .u32 p.2.c, .int .u32 p.2.a, .int .i64 p.2.q, .int .i64 p.2.b] 112 (0, 0)) := by subst hw2; simp [go_sem]
      have m02 : Mod (fun _ => False) w' w2 := by subst hw2; exact (Mod.refl _ w').alloc _
      refine hwant p.2 w2 _ (hWk _ _ hwk mA) fun w3 m3 => ?_
      have hloc3 := m3.keep hloc id
      have m03 := m02.trans m3
      have mA3 := mA.trans m3
      have it3 : MapIt encKey poV w3 it m2 (rest.eraseIdx i) := it'.mod m03 id id
      have o3 : Own w3 112 4 v d.length (d.flatMap cellsPo) := (oW.mod m' fun b hb e => by have := hv b hb; omega).mod m03 fun _ _ h => h
      have hle : ∀ W', MapIt encKey poV W' it m2 (rest.eraseIdx i) → itLeft it m2 W' < itLeft it m2 W1 := fun W' h => by
        rw [h.left, itW.left, List.length_eraseIdx]
        have : i < rest.length := (List.getElem?_eq_some_iff.1 hi).1
        rw [if_pos this]; omega
      have hdl : d.length < 4294967295 := by
        have h1 := hpm.length_eq
        have h2 := List.length_filter_le want S.held
        simp only [List.length_append] at h1
        omega
      cases hz : want p.2
      · simp
        refine hKN _ _ ⟨d, _, _, rfl, o3, it3, ?_, mA3, hv⟩ (hle _ it3)
        refine (List.Perm.append_left d ?_).trans hpm
        have := (hpe.map (·.2)).filter want
        rw [List.map_cons, List.filter_cons_of_neg (by simp [hz])] at this
        exact this.symm
      · simp [go_sem, hp_of hloc3]
        refine push1 (d := d) (enc := cellsPo) (x := p.2) (k := 3) tSlP poE1 rfl rfl (by omega) (by omega) o3 (by omega) fun v' w'' o' m'' n' => ?_
        have hitv : ¬ inSl v it := fun h => by have := hv it h; omega
        have hmv : ¬ inSl v m2 := fun h => by have := hv m2 h; have := h3.lt; omega
        refine hKN _ _ ⟨d ++ [p.2], v', _, rfl, o', it3.mod m'' hmv hitv, ?_, mA3.on m'' fun b hb => .inr (by have := hv b hb; omega), fun b hb => ?_⟩ (hle _ (it3.mod m'' hmv hitv))
        · have := (hpe.map (·.2)).filter want
          rw [List.map_cons, List.filter_cons_of_pos (by simpa using hz)] at this
          rw [List.append_assoc]
          exact (List.Perm.append_left d this.symm).trans hpm
        · rcases n' b hb with h | h
          · exact hv b h
          · have := it3.lt.2
            have := m03.size
            have := itW.lt.2
            omega
  rintro _ W1 ⟨d, v, rfl, oW, hp, mW, hv⟩
  unfold J232_1
  intro _
  have hdl : d.length < 4294967295 := by
    have h1 := hp.length_eq
    have h2 := List.length_filter_le want S.held
    omega
  refine ca_sortPo oW (by omega) fun w2 d' o2 p2 s2 m2' => ?_
  obtain rfl : d' = S.held.filter want := sortedP (hok.sp.filter want) (p2.trans hp) s2
  obtain ⟨sa, sc, rfl, hsc⟩ := o2.isSl
  apply ca235
  unfold F235
  simp [go_sem]
  have mW2 : Mod (fun _ => False) W w2 := mW.on m2' fun b hb => .inr (hv b hb)
  have mA : ∀ o, Mod (fun _ => False) W (w2.alloc o) := fun o => mW2.alloc o
  refine ca_told1Po (n := d.length) (sl := .slice sa d.length sc) (T := 46) (J (inSl (.slice sa d.length sc))) Js (by simp [go_sem]) (o2.mod ((Mod.refl (fun _ => False) w2).alloc _) fun _ _ h => h) (by omega) (hQ _ _ (mA _) fun b hb => ⟨hv b hb, ?_⟩) (hmod _) ?_ ?_ hex
  · have := o2.lt hb
    rw [World.size_alloc]; omega
  · intro i x W' hx hJ K' hT hF
    exact hstep _ i [poV x] W' (by simp [hx]) hJ K' hT hF
  · intro W' hJ
    exact hend _ W' (by simpa using hJ)
structure Tells (gv : Value) (xs : List (List Value)) (w : World) : Prop where
  out : ∃ Ok, IterN Tryz.prog gv xs Ok ∧ ∀ W, Mod (fun _ => False) w W → Ok W
  fn : ∃ f cap, gv = .func (.func f) #[] cap
theorem ca_accounts {w : World} {l : Nat} {F : Nat → Prop} {S : Led} {K : Kont} (h : LedQ w l F S)
    (hK : ∀ gv w', Tells gv (S.all.map fun a => [acV a]) w' → Mod (fun _ => False) w w' → K gv w') : Ca Tryz.prog 55 #[lptr l] w K := by
  apply ca55
  unfold F55
  simp [go_sem, lptr]
  refine hK _ _ ⟨⟨_, it_accounts (l := l) (b := w.heap.size) (T := 62), fun W m => ⟨m.keep ?_ id, F, h.mod (((Mod.refl (fun _ => False) w).alloc _).trans m) fun _ _ h => h⟩⟩, _, _, rfl⟩ ((Mod.refl _ w).alloc _)
  rw [heap_alloc, if_pos rfl]
  rfl
theorem ca_holders {w : World} {l : Nat} {F : Nat → Prop} {S : Led} {K : Kont} {c : Int} (h : LedQ w l F S) (hl : S.held.length < 4294967295)
    (hK : ∀ gv w', Tells gv ((S.holders c).map fun a => [poV a]) w' → Mod (fun _ => False) w w' → K gv w') : Ca Tryz.prog 56 #[lptr l, .int .u32 c] w K := by
  apply ca56
  unfold F56
  simp [go_sem]
  apply ca142
  unfold F142
  simp [go_sem, lptr]
  generalize hw2 : World.alloc _ _ = w2
  have m2 : Mod (fun _ => False) w w2 := by subst hw2; exact (((Mod.refl _ w).alloc _).alloc _).alloc _
  have g0 : hp w2 w.heap.size = some (.cells #[.int .u32 c] 35 (0, 0)) := by subst hw2; simp [go_sem]
  have g1 : hp w2 (w.heap.size + 1) = some (.cells #[lptr l] 62 (0, 0)) := by subst hw2; simp [go_sem, lptr]
  have g2 : hp w2 (w.heap.size + 2) = some (.cells #[.func (.func 143) #[] #[.pointer (some ⟨w.heap.size, 0, none⟩)]] 244 (0, 0)) := by subst hw2; simp [go_sem]
  refine hK _ _ ⟨⟨_, it_some (l := l) (b := w.heap.size + 1) (b2 := w.heap.size + 2) (f := 143) (cap := #[.pointer (some ⟨w.heap.size, 0, none⟩)]) (T := 62) (T2 := 244) (Wk := fun W => hp W w.heap.size = some (.cells #[.int .u32 c] 35 (0, 0)))
    (want := fun p => decide (p.c = c)) (fun W W' hh m => m.keep hh id) ?_, fun W m => ⟨m.keep g1 id, m.keep g2 id, m.keep g0 id, hl, F, h.mod (m2.trans m) fun _ _ h => h⟩⟩, _, _, rfl⟩ m2
  intro p W K hW hK
  apply ca143
  unfold F143
  have hlt := lt_of_heap hW
  simp [go_sem, poV, hp_of hW, olds hlt]
  have := hK _ ((Mod.refl _ W).alloc (.cells #[.int .u32 p.c, .int .u32 p.a, .int .i64 p.q, .int .i64 p.b] 112))
  rw [show (p.c == c) = decide (p.c = c) by rw [Bool.eq_iff_iff]; simp]
  exact this
end Go.Proofs
namespace Go.Proofs
open Go Go.Vc Go.Sort
theorem retD_hp {d : Nat} {ds : List Nat} {w : World} {K : World → Prop} : retD (d :: ds) w K ↔ hp w d = some (.deferred (some [])) ∧ retD ds (w.putObj d (.deferred none)) K := Iff.rfl
theorem retD_nil {w : World} {K : World → Prop} : retD [] w K ↔ K w := Iff.rfl
end Go.Proofs
namespace Go.Proofs
open Go Go.Vc
attribute [local congr] Ca_congV
theorem retV {W : World} {K : World → Prop} : ∀ {ds : List Nat}, ds.Nodup → (∀ d ∈ ds, hp W d = some (.deferred (some []))) → (∀ W', Mod (fun b => b ∈ ds) W W' → K W') → retD ds W K := by
  intro ds
  induction ds generalizing W with
  | nil => intro _ _ hK; exact retD_nil.2 (hK W (Mod.refl _ _))
  | cons d ds ih =>
    intro hn hd hK
    obtain ⟨h1, h2⟩ := List.nodup_cons.1 hn
    refine retD_hp.2 ⟨hd d List.mem_cons_self, ih h2 (fun x hx => ?_) fun W' m => hK W' ?_⟩
    · rw [hp_putObj, if_neg (fun e : x = d => h1 (e ▸ hx))]
      exact hd x (List.mem_cons_of_mem _ hx)
    · exact ((Mod.refl (fun b => b ∈ d :: ds) W).putObj (b := d) (.inl List.mem_cons_self) _).trans (m.mono fun b _ hb => List.mem_cons_of_mem _ hb)
theorem it_sall {s b : Nat} {buy : Bool} {l : List Od} {T : TypeId} : IterN Tryz.prog (.func (.func 236) #[] #[.pointer (some ⟨b, 0, none⟩)]) (l.map fun o => [odV o]) (fun W => hp W b = some (.cells #[sptr s] T (0, 0)) ∧ ∃ F, SideQ W s F buy l) := by
  refine ⟨⟨_, _, _, rfl, ?_⟩⟩
  rintro y J Js W K ⟨hb, F, hq⟩ hQ hmod hstep hend hex
  show Ca Tryz.prog _ #[y, .pointer (some ⟨b, 0, none⟩)] W K
  apply ca236
  unfold F236
  refine rvS (v := sptr s) (w' := W) (by simp [go_sem, hb]) ?_
  refine ca_sready hq ?_
  refine rvS (v := .bool false) (by simp [go_sem] <;> first | exact ⟨rfl, rfl⟩ | exact rfl) ?_
  rw [ifB_bool, if_neg Bool.false_ne_true]
  obtain ⟨⟨sl, c1, c2, c3, c4⟩, c5, c6⟩ := id hq
  refine rvS (v := sptr s) (w' := W) (by simp [go_sem, hb]) ?_
  simp only [sptr, nilK_ptr]
  refine rvS (by simp [-Int.natCast_add, go_sem, c1] <;> first | exact ⟨rfl, rfl⟩ | exact rfl) ?_
  refine rvS (by simp [-Int.natCast_add, go_sem, c1] <;> first | exact ⟨rfl, rfl⟩ | exact rfl) ?_
  refine ca_cloneOd (l := l) c2.rd (by omega) fun s2 w2 o2 m2 n2 => ?_
  obtain ⟨sa, sc, hs2, -⟩ := o2.isSl
  refine rnS (v := .int .i64 (l.length : Int)) (w' := w2) (by rw [hs2]; simp [go_sem]) ?_
  have hJ0 : J (inSl s2) 0 w2 := hQ _ _ m2 fun b hb => ⟨n2 b hb, o2.lt hb⟩
  refine loopV (fun st W' => ∃ i : Nat, i ≤ l.length ∧ st = (.int .i64 i, ()) ∧ J (inSl s2) i W' ∧ OdS W' s2 l)
    (fun st _ => match st.1 with | .int _ i => l.length - i.toNat | _ => 0) ⟨0, by omega, rfl, hJ0, o2⟩ ?_
  rintro ⟨_, _⟩ W' ⟨i, hi, ⟨⟩, hJ, hO⟩ KN hKN
  unfold L236_0
  intro _
  by_cases hlt : i < l.length
  · have hlt' : (i : Int) < (l.length : Int) := by omega
    refine rvS (v := .bool true) (by simp [go_sem, hlt'] <;> first | exact ⟨rfl, rfl⟩ | exact rfl) ?_
    rw [ifB_bool, if_pos rfl]
    obtain ⟨b', cap', hsl, hix, hld⟩ := hO.load hlt
    refine rvS (hix .i64) (rvS hld ?_)
    obtain ⟨w3, e3, b3, m3⟩ := newOd W'
    refine rvS e3 ?_
    obtain ⟨q, hq0⟩ : ∃ q, q = W'.heap.size := ⟨_, rfl⟩
    rw [← hq0] at b3 ⊢
    obtain ⟨w4, e4, b4, m4⟩ := setOd (o' := l[i]) b3
    refine ruS e4 ?_
    have M4 : Mod (fun _ => False) W' w4 := m3.on m4 fun b hb => .inr (by omega)
    refine rvS (ldOd (o := l[i]) (At.all b4)) ?_
    have hO4 := hO.mod M4 fun _ _ h => h
    refine hstep (inSl s2) i [odV l[i]] w4 (by simp [hlt]) (hmod _ _ _ _ hJ M4) _ (fun W5 hJ5 hk5 => ?_) fun W5 hJ5 => ?_
    · refine rvS (v := .bool false) (by simp [go_sem] <;> first | exact ⟨rfl, rfl⟩ | exact rfl) ?_
      rw [ifB_bool, if_neg Bool.false_ne_true]
      refine rvS (v := .int .i64 ((i + 1 : Nat) : Int)) (w' := W5) (by simp [go_sem]; rw [wrapI (by omega) (by omega)]) ?_
      exact hKN _ _ ⟨i + 1, by omega, rfl, hJ5, hO4.keep hk5⟩ (by show l.length - (((i + 1 : Nat) : Int)).toNat < l.length - ((i : Int)).toNat; omega)
    · refine rvS (v := .bool true) (by simp [go_sem] <;> first | exact ⟨rfl, rfl⟩ | exact rfl) ?_
      rw [ifB_bool, if_pos rfl]
      exact hex _ hJ5
  · obtain rfl : i = l.length := by omega
    refine rvS (v := .bool false) (by simp [go_sem] <;> first | exact ⟨rfl, rfl⟩ | exact rfl) ?_
    rw [ifB_bool, if_neg Bool.false_ne_true]
    exact hend _ W' (by simpa using hJ)
theorem ca_sall {w : World} {K : Kont} {s : Nat} {F : Nat → Prop} {buy : Bool} {l : List Od} (h : SideQ w s F buy l)
    (hK : ∀ gv w', Tells gv (l.map fun o => [odV o]) w' → Mod (fun _ => False) w w' → K gv w') : Ca Tryz.prog 146 #[sptr s] w K := by
  apply ca146
  unfold F146
  have m0 : Mod (fun _ => False) w (w.alloc (.cells #[sptr s] 228)) := (Mod.refl _ w).alloc _
  refine rvS (v := .pointer (some ⟨w.heap.size, 0, none⟩)) (w' := w.alloc (.cells #[sptr s] 228)) (by simp [go_sem, sptr]) ?_
  have b0 : hp (w.alloc (.cells #[sptr s] 228)) w.heap.size = some (.cells #[sptr s] 228 (0, 0)) := by simp [go_sem]
  exact hK _ _ ⟨⟨_, it_sall (s := s) (b := w.heap.size) (buy := buy) (l := l) (T := 228), fun W m => ⟨m.hpk b0 id, F, h.mod (m0.trans m) fun _ _ h => h⟩⟩, _, _, rfl⟩ m0
theorem sum_bd5 {l : List Int} {B : Int} (h : ∀ x ∈ l, 0 ≤ x ∧ x ≤ B) : 0 ≤ l.sum ∧ l.sum ≤ l.length * B := by
  induction l with
  | nil => simp
  | cons x l ih =>
    have h1 := h x (by simp)
    have h2 := ih fun y hy => h y (by simp [hy])
    rw [List.sum_cons, List.length_cons]
    have e : ((l.length + 1 : Nat) : Int) * B = l.length * B + B := by rw [Int.natCast_add, Int.add_mul]; omega
    rw [e]
    omega
def rchS (l : List Od) (acct : Int) : Int := ((l.filter fun o => decide (o.acct ≠ acct)).map (·.left)).sum
theorem rchS_snoc (l : List Od) (o : Od) (acct : Int) : rchS (l ++ [o]) acct = rchS l acct + (if o.acct ≠ acct then o.left else 0) := by
  unfold rchS
  rw [List.filter_append, List.map_append, List.sum_append]
  congr 1
  by_cases h : o.acct = acct <;> simp [h]
theorem rchS_bd {l : List Od} {acct : Int} (h : ∀ o ∈ l, 1 ≤ o.left ∧ o.left ≤ 1000000) : 0 ≤ rchS l acct ∧ rchS l acct ≤ l.length * 1000000 := by
  have h1 := sum_bd5 (l := (l.filter fun o => decide (o.acct ≠ acct)).map (·.left)) (B := 1000000) fun x hx => by
    obtain ⟨o, ho, rfl⟩ := List.mem_map.1 hx
    have := h o (List.mem_filter.1 ho).1
    omega
  rw [List.length_map] at h1
  have h2 := List.length_filter_le (fun o : Od => decide (o.acct ≠ acct)) l
  unfold rchS
  omega
theorem Od.left_bd {o : Od} (h : o.may = true) : 1 ≤ o.left ∧ o.left ≤ 1000000 := by
  unfold Od.may at h
  simp only [Bool.and_eq_true] at h
  exact of_decide_eq_true h.2
theorem take_tw {l : List Od} {p : Od → Bool} {j : Nat} (hj : j < l.length) (h : ∀ o ∈ l.take j, p o = true) (hn : p l[j] = false) : l.takeWhile p = l.take j := by
  induction l generalizing j with
  | nil => simp at hj
  | cons x l ih =>
    cases j with
    | zero =>
      simp only [List.getElem_cons_zero] at hn
      rw [List.takeWhile_cons, hn]; simp
    | succ j =>
      have hx := h x (by simp)
      rw [List.takeWhile_cons, hx]
      simp only [if_true, List.take_succ_cons]
      rw [ih (by simpa using hj) (fun o ho => h o (by simp [ho])) (by simpa using hn)]
theorem tw_all {l : List Od} {p : Od → Bool} (h : ∀ o ∈ l, p o = true) : l.takeWhile p = l := by
  induction l with
  | nil => rfl
  | cons x l ih =>
    rw [List.takeWhile_cons, h x (by simp)]
    simp only [if_true]
    rw [ih fun o ho => h o (by simp [ho])]
set_option maxRecDepth 10000 in
theorem ca_sreach {w : World} {K : Kont} {s : Nat} {F : Nat → Prop} {buy : Bool} {l : List Od} {price acct : Int} (h : SideQ w s F buy l)
    (hK : ∀ w', Mod (fun _ => False) w w' → K (.int .i64 (sdReach buy l price acct)) w') : Ca Tryz.prog 226 #[sptr s, .int .i64 price, .int .u32 acct] w K := by
  apply ca226
  unfold F226
  obtain ⟨n0, hn0⟩ : ∃ n0, n0 = w.heap.size := ⟨_, rfl⟩
  have hlay : ∃ w4, ((w.alloc (.cells #[sptr s] 228)).alloc (.cells #[.int .i64 price] 2) |>.alloc (.cells #[.int .u32 acct] 35) |>.alloc (.cells #[.int .i64 0] 2)) = w4 ∧ w4.heap.size = n0 + 4 ∧ Mod (fun _ => False) w w4 ∧
      hp w4 n0 = some (.cells #[sptr s] 228 (0, 0)) ∧ hp w4 (n0 + 1) = some (.cells #[.int .i64 price] 2 (0, 0)) ∧ hp w4 (n0 + 2) = some (.cells #[.int .u32 acct] 35 (0, 0)) ∧ hp w4 (n0 + 3) = some (.cells #[.int .i64 0] 2 (0, 0)) := by
    refine ⟨_, rfl, by simp [go_sem, hn0], ((((Mod.refl _ w).alloc _).alloc _).alloc _).alloc _, ?_, ?_, ?_, ?_⟩ <;> simp [go_sem, hn0]
  obtain ⟨w4, hw4, hsz4, m4, b0, b1, b2, b3⟩ := hlay
  refine rvS (v := .pointer (some ⟨n0, 0, none⟩)) (w' := w.alloc (.cells #[sptr s] 228)) (by simp [go_sem, sptr, hn0]) ?_
  refine rvS (v := .pointer (some ⟨n0 + 1, 0, none⟩)) (w' := (w.alloc (.cells #[sptr s] 228)).alloc (.cells #[.int .i64 price] 2)) (by simp [go_sem, hn0]) ?_
  refine rvS (v := .pointer (some ⟨n0 + 2, 0, none⟩)) (w' := ((w.alloc (.cells #[sptr s] 228)).alloc (.cells #[.int .i64 price] 2)).alloc (.cells #[.int .u32 acct] 35)) (by simp [go_sem, hn0]) ?_
  refine rvS (v := .pointer (some ⟨n0 + 3, 0, none⟩)) (w' := w4) (by rw [← hw4]; simp [go_sem, hn0]) ?_
  clear hw4
  refine rvS (v := sptr s) (w' := w4) (by simp [go_sem, b0]) ?_
  refine ca_sall (h.mod m4 fun _ _ h => h) fun gv w5 ht m5 => ?_
  obtain ⟨⟨Ok, hit, hOk⟩, f, cap, rfl⟩ := ht
  have M5 := m4.trans m5
  have q5 := h.mod M5 fun _ _ h => h
  have d0 := m5.hpk b0 id
  have d1 := m5.hpk b1 id
  have d2 := m5.hpk b2 id
  have d3 := m5.hpk b3 id
  have hs5 := m5.size
  have hFl : ∀ b, F b → b < n0 := fun b hb => by rw [hn0]; exact h.lt hb
  let p : Od → Bool := fun o => !betterB buy price o.price
  let J : (Nat → Prop) → Nat → World → Prop := fun Q j W => SideQ W s F buy l ∧ hp W n0 = some (.cells #[sptr s] 228 (0, 0)) ∧ hp W (n0 + 1) = some (.cells #[.int .i64 price] 2 (0, 0)) ∧ hp W (n0 + 2) = some (.cells #[.int .u32 acct] 35 (0, 0)) ∧
    hp W (n0 + 3) = some (.cells #[.int .i64 (rchS (l.take j) acct)] 2 (0, 0)) ∧ (∀ o ∈ l.take j, p o = true) ∧ hp W w5.heap.size = some (.deferred (some [])) ∧ Mod (fun b => b = n0 + 3) w5 W ∧ ∀ b, Q b → w5.heap.size + 1 < b ∧ b < W.heap.size
  let Jx : Code → World → Prop := fun c W => c = .exit 0 ∧ hp W (n0 + 3) = some (.cells #[.int .i64 (sdReach buy l price acct)] 2 (0, 0)) ∧ hp W w5.heap.size = some (.deferred (some [])) ∧ Mod (fun b => b = n0 + 3) w5 W
  have e5 : ∀ o, Mod (fun _ => False) w5 ((w5.alloc (.deferred (some []))).alloc (.loop o)) := fun o => ((Mod.refl _ w5).alloc _).alloc _
  have fin : ∀ W o, hp W (n0 + 3) = some (.cells #[.int .i64 (sdReach buy l price acct)] 2 (0, 0)) → hp W w5.heap.size = some (.deferred (some [])) → Mod (fun b => b = n0 + 3) w5 W →
      rv Tryz.prog (Instr.loadAt 2 (.pointer (some ⟨n0 + 3, 0, none⟩))) (W.putObj (w5.heap.size + 1) (.loop o)) fun v52 w53 =>
        ru Tryz.prog (Instr.storeAt 2 (.pointer (some ⟨n0 + 3, 0, none⟩)) v52) w53 fun w54 =>
        retD ([w5.heap.size] ++ []) w54 fun w55 =>
        rdW Tryz.prog (Instr.loadAt 2 (.pointer (some ⟨n0 + 3, 0, none⟩))) w55 fun v56 => K v56 w55 := by
    intro W o k1 k2 k3
    have mp : Mod (fun b => b = w5.heap.size + 1) W (W.putObj (w5.heap.size + 1) (.loop o)) := (Mod.refl (fun b => b = w5.heap.size + 1) W).putObj (.inl rfl) _
    have k1' := mp.hpk k1 (by omega)
    have k2' := mp.hpk k2 (by omega)
    generalize W.putObj (w5.heap.size + 1) (.loop o) = W1 at mp k1' k2' ⊢
    refine rvS (v := .int .i64 (sdReach buy l price acct)) (w' := W1) (by simp [go_sem, k1']) ?_
    refine ruS (w' := W1.setCell ⟨n0 + 3, 0, none⟩ (.int .i64 (sdReach buy l price acct))) (by simp [go_sem, k1']) ?_
    have ms : Mod (fun b => b = n0 + 3) W1 (W1.setCell ⟨n0 + 3, 0, none⟩ (.int .i64 (sdReach buy l price acct))) := (Mod.refl (fun b => b = n0 + 3) W1).setCell (.inl rfl) _ _
    have k3' : hp (W1.setCell ⟨n0 + 3, 0, none⟩ (.int .i64 (sdReach buy l price acct))) (n0 + 3) = some (.cells #[.int .i64 (sdReach buy l price acct)] 2 (0, 0)) := by simp [go_sem, k1']
    have k4' := ms.hpk k2' (by omega)
    generalize W1.setCell ⟨n0 + 3, 0, none⟩ (.int .i64 (sdReach buy l price acct)) = W2 at ms k3' k4' ⊢
    refine retV (by simp) (fun d hd => by rw [List.mem_singleton.1 hd]; exact k4') fun W3 m3 => ?_
    have k5 := m3.hpk k3' (by simp; omega)
    refine rdWS (v := .int .i64 (sdReach buy l price acct)) (by simp [go_sem, k5]) ?_
    refine hK _ ((((M5.on k3 fun b hb => .inr (by omega)).on mp fun b hb => .inr (by omega)).on ms fun b hb => .inr (by omega)).on m3 fun b hb => .inr ?_)
    have hb' : b = w5.heap.size := by simpa using hb
    omega
  refine RFW_topN (xs := l.map fun o => [odV o]) hit (by simp) J Jx (fun o => hOk _ (e5 o)) ?_ ?_ ?_ ?_ ?_
  · intro o Q W mo hQ
    have mW := (e5 o).trans mo
    have hd : hp ((w5.alloc (.deferred (some []))).alloc (.loop o)) w5.heap.size = some (.deferred (some [])) := by simp [go_sem]
    exact ⟨q5.mod mW fun _ _ h => h, mW.hpk d0 id, mW.hpk d1 id, mW.hpk d2 id, mW.hpk d3 id, by simp, mo.hpk hd id, mW.mono fun _ _ h => h.elim, hQ⟩
  · rintro Q j W W' ⟨j0, j1, j2, j3, j4, j5, j6, j7, j8⟩ mm
    exact ⟨j0.mod mm fun b hb e => by have := hFl b hb; omega, mm.hpk j1 (by omega), mm.hpk j2 (by omega), mm.hpk j3 (by omega), mm.hpk j4 (by omega), j5, mm.hpk j6 (by omega), j7.on mm fun b hb => .inr (by omega), fun b hb => ⟨(j8 b hb).1, Nat.lt_of_lt_of_le (j8 b hb).2 mm.size⟩⟩
  · rintro Q j x W r hx ⟨j0, j1, j2, j3, j4, j5, j6, j7, j8⟩ hrec hready KN KJ hKN hKJ
    obtain ⟨hj, hxo⟩ : ∃ hj : j < l.length, x = [odV l[j]] := by
      rw [List.getElem?_map] at hx
      cases hh : l[j]? with
      | none => rw [hh] at hx; cases hx
      | some o =>
        obtain ⟨hj, he⟩ := List.getElem?_eq_some_iff.1 hh
        rw [hh] at hx
        exact ⟨hj, by rw [he]; exact (Option.some.inj hx).symm⟩
    subst hxo
    obtain ⟨rc, hrc⟩ : ∃ rc, rc = w5.heap.size + 1 := ⟨_, rfl⟩
    rw [← hrc] at hrec hKN hKJ j8 ⊢
    have hrl := lt_of_heap hrec
    unfold R226_0
    obtain ⟨w6, e6, b6, m6⟩ := newOd W
    refine rvS e6 ?_
    obtain ⟨q, hq0⟩ : ∃ q, q = W.heap.size := ⟨_, rfl⟩
    rw [← hq0] at b6 ⊢
    obtain ⟨w7, e7, b7, m7⟩ := setOd (o' := l[j]) b6
    show ru Tryz.prog (Instr.storeAt tOd (.pointer (some ⟨q, 0, none⟩)) (odV l[j])) w6 _
    refine ruS e7 ?_
    have M7 : Mod (fun _ => False) W w7 := m6.on m7 fun b hb => .inr (by omega)
    have hrec7 : w7.heap[rc]? = some (.loop r) := M7.keep hrec id
    refine beginK_of (r := r) hrec7 hready ?_
    have m8 : Mod (fun b => b = rc) w7 (w7.putObj rc (.loop { r with state := .busy })) := (Mod.refl (fun b => b = rc) w7).putObj (.inl rfl) _
    have hrec8 : (w7.putObj rc (.loop { r with state := .busy })).heap[rc]? = some (.loop { r with state := .busy }) := by rw [heap_putObj, if_pos rfl, hrec7]; rfl
    generalize w7.putObj rc (.loop { r with state := .busy }) = w8 at m8 hrec8 ⊢
    have M8 : Mod (fun b => b = rc) W w8 := (M7.mono fun _ _ h => h.elim).trans m8
    have g0 := M8.hpk j1 (by omega)
    have g1 := M8.hpk j2 (by omega)
    have g2 := M8.hpk j3 (by omega)
    have g3 := M8.hpk j4 (by omega)
    have gd := M8.hpk j6 (by omega)
    have gq := m8.hpk b7 (by omega)
    have gS := j0.mod M8 fun b hb e => by have := hFl b hb; omega
    have gq' := gq
    unfold odC at gq'
    refine rvS (v := sptr s) (w' := w8) (by simp [go_sem, g0]) ?_
    refine rvS (by simp [-Int.natCast_add, go_sem, g1] <;> first | exact ⟨rfl, rfl⟩ | exact rfl) ?_
    refine rvS (by simp [-Int.natCast_add, go_sem, gq'] <;> first | exact ⟨rfl, rfl⟩ | exact rfl) ?_
    refine rvS (by simp [-Int.natCast_add, go_sem, gq'] <;> first | exact ⟨rfl, rfl⟩ | exact rfl) ?_
    refine ca_sbetter gS ?_
    cases hbt : betterB buy price l[j].price with
    | true =>
      rw [ifB_bool, if_pos rfl]
      refine hKJ _ _ ⟨rfl, ?_, gd, j7.on M8 fun b hb => .inr (by omega)⟩ hrec8
      have : sdReach buy l price acct = rchS (l.take j) acct := by
        unfold sdReach rchS
        rw [take_tw (p := p) hj j5 (by simp [p, hbt])]
      rw [this]
      exact g3
    | false =>
      rw [ifB_bool, if_neg Bool.false_ne_true]
      have htk : l.take (j + 1) = l.take j ++ [l[j]] := by
        rw [List.take_add_one, List.getElem?_eq_getElem hj]; rfl
      have hp1 : ∀ o ∈ l.take (j + 1), p o = true := by
        rw [htk]
        intro o ho
        rcases List.mem_append.1 ho with ho | ho
        · exact j5 o ho
        · rw [List.mem_singleton.1 ho]; simp [p, hbt]
      refine rvS (by simp [-Int.natCast_add, go_sem, gq'] <;> first | exact ⟨rfl, rfl⟩ | exact rfl) ?_
      refine rvS (by simp [-Int.natCast_add, go_sem, gq'] <;> first | exact ⟨rfl, rfl⟩ | exact rfl) ?_
      refine rvS (by simp [-Int.natCast_add, go_sem, g2] <;> first | exact ⟨rfl, rfl⟩ | exact rfl) ?_
      by_cases ha : l[j].acct = acct
      · refine rvS (v := .bool false) (by simp [go_sem, ha] <;> first | exact ⟨rfl, rfl⟩ | exact rfl) ?_
        rw [ifB_bool, if_neg Bool.false_ne_true]
        refine hKN _ ⟨gS, g0, g1, g2, ?_, hp1, gd, j7.on M8 fun b hb => .inr (by omega), fun b hb => ⟨by have := (j8 b hb).1; omega, Nat.lt_of_lt_of_le (j8 b hb).2 M8.size⟩⟩ hrec8 fun b hb => ?_
        · rw [htk, rchS_snoc, if_neg (by simp [ha]), Int.add_zero]
          exact g3
        · exact M8.blk b (j8 b hb).2 (by have := (j8 b hb).1; omega)
      · refine rvS (v := .bool true) (by simp [go_sem, ha] <;> first | exact ⟨rfl, rfl⟩ | exact rfl) ?_
        rw [ifB_bool, if_pos rfl]
        refine rvS (by simp [-Int.natCast_add, go_sem, g3] <;> first | exact ⟨rfl, rfl⟩ | exact rfl) ?_
        refine rvS (by simp [-Int.natCast_add, go_sem, gq'] <;> first | exact ⟨rfl, rfl⟩ | exact rfl) ?_
        refine rvS (by simp [-Int.natCast_add, go_sem, gq'] <;> first | exact ⟨rfl, rfl⟩ | exact rfl) ?_
        have hbd1 := rchS_bd (l := l.take j) (acct := acct) fun o ho => Od.left_bd (j0.may o (List.mem_of_mem_take ho)).1
        have hbd2 := Od.left_bd (j0.may l[j] (List.getElem_mem hj)).1
        have hlen := j0.len
        have hlt : (l.take j).length ≤ 100 := by rw [List.length_take]; omega
        refine rvS (v := .int .i64 (rchS (l.take (j + 1)) acct)) (w' := w8) (by
          rw [htk, rchS_snoc, if_pos ha]
          simp [go_sem]
          rw [wrapI (by omega) (by omega)]) ?_
        refine ruS (w' := w8.setCell ⟨n0 + 3, 0, none⟩ (.int .i64 (rchS (l.take (j + 1)) acct))) (by simp [go_sem, g3]) ?_
        have m9 : Mod (fun b => b = n0 + 3) w8 (w8.setCell ⟨n0 + 3, 0, none⟩ (.int .i64 (rchS (l.take (j + 1)) acct))) := (Mod.refl (fun b => b = n0 + 3) w8).setCell (.inl rfl) _ _
        have k3 : hp (w8.setCell ⟨n0 + 3, 0, none⟩ (.int .i64 (rchS (l.take (j + 1)) acct))) (n0 + 3) = some (.cells #[.int .i64 (rchS (l.take (j + 1)) acct)] 2 (0, 0)) := by simp [go_sem, g3]
        generalize w8.setCell ⟨n0 + 3, 0, none⟩ (.int .i64 (rchS (l.take (j + 1)) acct)) = w9 at m9 k3 ⊢
        refine hKN _ ⟨gS.mod m9 fun b hb e => by have := hFl b hb; omega, m9.hpk g0 (by omega), m9.hpk g1 (by omega), m9.hpk g2 (by omega), k3, hp1, m9.hpk gd (by omega), (j7.on M8 fun b hb => .inr (by omega)).trans m9, fun b hb => ⟨by have := (j8 b hb).1; omega, Nat.lt_of_lt_of_le (j8 b hb).2 (Nat.le_trans M8.size m9.size)⟩⟩ (m9.keep hrec8 (by omega)) fun b hb => ?_
        rw [m9.blk b (Nat.lt_of_lt_of_le (j8 b hb).2 M8.size) (by have := (j8 b hb).1; omega)]
        exact M8.blk b (j8 b hb).2 (by have := (j8 b hb).1; omega)
  · rintro Q W o ⟨j0, j1, j2, j3, j4, j5, j6, j7, j8⟩
    have hend : (l.map fun o => [odV o]).length = l.length := by simp
    rw [hend, List.take_length] at j4 j5
    unfold A226_1
    simp only [afterK]
    refine fin W o ?_ j6 j7
    have : sdReach buy l price acct = rchS l acct := by
      unfold sdReach rchS
      rw [tw_all (p := p) j5]
    rw [this]; exact j4
  · rintro c W o ⟨rfl, k1, k2, k3⟩
    unfold A226_1
    simp only [afterK]
    exact fin W o k1 k2 k3
end Go.Proofs
