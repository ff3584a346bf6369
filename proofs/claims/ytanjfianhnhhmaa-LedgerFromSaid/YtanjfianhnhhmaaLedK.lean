/-
  The contract of Mark.
  Conditions: where they ask for any, each theorem names them.
-/
import Derived.Test.YtanjfianhnhhmaaLedI
set_option linter.unusedVariables false
set_option linter.unusedSimpArgs false
namespace Go.Proofs
open Go Go.Vc Go.Sort

theorem retD_hp {d : Nat} {ds : List Nat} {w : World} {K : World → Prop} : retD (d :: ds) w K ↔ hp w d = some (.deferred (some [])) ∧ retD ds (w.putObj d (.deferred none)) K := Iff.rfl
theorem retD_nil {w : World} {K : World → Prop} : retD [] w K ↔ K w := Iff.rfl

def cellsVa (x : Int × Int) : List Value := [.int .u32 x.1, .int .i64 x.2]
def Po.won (price : Int) (p : Po) : Int × Int := (p.a, p.q * price - p.b)
theorem vaE : elemOk Try.prog 45 2 16 = true := by kernel_rfl
theorem tSlV : Try.prog.underlying 41 = some (.slice 45) := by kernel_rfl

theorem marked_take {S : Led} {l : List Po} {price : Int} {cl : Bool} {i : Nat} {p : Po} (h : l[i]? = some p) : S.marked (l.take (i + 1)) price cl = (S.marked (l.take i) price cl).putP (p.mark price cl) := by
  unfold Led.marked
  rw [List.take_add_one, h]
  simp
theorem marked_all {l : List Po} {price : Int} {cl : Bool} : ∀ {S : Led}, (S.marked l price cl).all = S.all ∧ (S.marked l price cl).fund = S.fund := by
  induction l with
  | nil => intro S; exact ⟨rfl, rfl⟩
  | cons p l ih => intro S; exact ih (S := S.putP (p.mark price cl))
theorem mark_key (p : Po) (price : Int) (cl : Bool) : (p.mark price cl).key = p.key := by
  unfold Po.mark Po.key
  cases cl <;> rfl

theorem mark_ok {S S' : Led} (h : S.Ok) (h' : S'.Ok) (ha : S'.all = S.all) {p : Po} (hp : p ∈ S.held) {price : Int} (hpr : 1 ≤ price ∧ price ≤ MP) (cl : Bool) : (S'.putP (p.mark price cl)).Ok := by
  obtain ⟨p1, p2, p3, p4, p5, p6, p7, p8⟩ := h.pos p hp
  have hb := mul_bd (x := p.q) (y := price) (m := MP) (n := MP) ⟨p4, p5⟩ ⟨by omega, hpr.2⟩
  unfold Po.mark
  cases cl with
  | true => exact h'.putP ⟨p1, p2⟩ ⟨by simp [MP], by simp [MP]⟩ ⟨by simp [MF], by simp [MF]⟩ (by rw [ha]; exact p8)
  | false => exact h'.putP ⟨p1, p2⟩ ⟨p4, p5⟩ ⟨by simp only [MP, MF, Bool.false_eq_true, if_false] at *; omega, by simp only [MP, MF, Bool.false_eq_true, if_false] at *; omega⟩ (by rw [ha]; exact p8)
theorem marked_ok {S : Led} (h : S.Ok) {price : Int} (hpr : 1 ≤ price ∧ price ≤ MP) (cl : Bool) : ∀ (l : List Po) (S' : Led), (∀ p ∈ l, p ∈ S.held) → S'.Ok → S'.all = S.all → (S'.marked l price cl).Ok := by
  intro l
  induction l with
  | nil => intro S' _ h' _; exact h'
  | cons p l ih =>
    intro S' hl h' ha
    exact ih (S'.putP (p.mark price cl)) (fun x hx => hl x (List.mem_cons_of_mem _ hx)) (mark_ok h h' ha (hl p List.mem_cons_self) hpr cl) ha

set_option maxRecDepth 10000 in
set_option maxHeartbeats 1000000 in
theorem ca_mark {w : World} {l : Nat} {F : Nat → Prop} {S : Led} {K : Kont} {c price : Int} {cl : Bool} (h : LedQ w l F S) (hl : S.held.length < 4294967295)
    (hK : ∀ w' v, LedQ w' l F (S.mark c price cl).2.2 → Own w' 45 2 v (S.mark c price cl).2.1.length ((S.mark c price cl).2.1.flatMap cellsVa) → Mod F w w' → (∀ b, inSl v b → w.heap.size ≤ b) → K (.tuple #[v, .int .i64 (S.mark c price cl).1]) w') :
    Ca Try.prog 15 #[lptr l, .int .u32 c, .int .i64 price, .bool cl] w K := by
  have h0 := h
  obtain ⟨⟨m1, m2, A, B, h1, h2, h3, h4, h5, h6, h7⟩, hok⟩ := h
  have hlt := lt_of_heap h1
  apply ca15
  unfold F15
  simp [go_sem, lptr]
  generalize hn0 : w.heap.size = n0
  generalize hw1 : World.alloc _ _ = w1
  have mw1 : Mod (fun _ => False) w w1 := by subst hw1; exact (((Mod.refl _ w).alloc _).alloc _).alloc _
  have g0 : hp w1 n0 = some (.cells #[lptr l] 23 (0, 0)) := by subst hw1 hn0; simp [go_sem, lptr]
  have g2 : hp w1 (n0 + 1) = some (.cells #[.int .i64 price] 2 (0, 0)) := by subst hw1 hn0; simp [go_sem]
  have g4 : hp w1 (n0 + 2) = some (.cells #[.bool cl] 4 (0, 0)) := by subst hw1 hn0; simp [go_sem]
  have q1 := h0.mod mw1 fun _ _ h => h
  refine ca_ready q1 ?_
  simp [go_sem]
  unfold Led.mark at hK
  have hMp : amongB price 1 10000000 = amongB price 1 MP := rfl
  refine JoinW.at (fun s W => s = (.bool (decide (c = 0 ∨ amongB price 1 MP = false)), ()) ∧ W = w1) ?_ ?_
  · by_cases hc0 : c = 0
    · simp [hc0]
    · simp [hc0, go_sem, hp_of g2]
      refine ca_within ?_
      rw [hMp]
      simp [go_sem]
  rintro _ W ⟨rfl, rfl⟩
  unfold J15_3
  intro _
  by_cases hc : c = 0 ∨ amongB price 1 MP = false
  · rw [if_pos hc] at hK
    simp only [decide_eq_true hc, ifB_bool, if_true]
    exact hK _ _ q1 (Own.nil ..) (mw1.mono fun _ _ h => h.elim) fun b hb => by cases hb
  · rw [if_neg hc] at hK
    simp only [decide_eq_false hc, ifB_bool, Bool.false_eq_true, if_false]
    have hpr : 1 ≤ price ∧ price ≤ MP := amongB_iff.1 (by cases h : amongB price 1 MP with | true => rfl | false => exact absurd (.inr h) hc)
    have hne0 : n0 ≠ W.heap.size := by have := lt_of_heap g0; omega
    simp [go_sem, hp_of g0, hne0]
    generalize hvo : W.heap.size = vo
    generalize hw2 : World.alloc _ _ = w2
    have mw2 : Mod (fun _ => False) W w2 := by subst hw2; exact (Mod.refl _ W).alloc _
    have gv : hp w2 vo = some (.cells #[.slice none 0 0] 41 (0, 0)) := by subst hw2 hvo; simp [go_sem]
    refine ca_holders (q1.mod mw2 fun _ _ h => h) hl fun gvv w3 tl m3 => ?_
    have m13 := (mw1.trans mw2).trans m3
    have q3 := h0.mod m13 fun _ _ h => h
    have hvo3 : vo < w3.heap.size := by have := lt_of_heap gv; have := m3.size; omega
    have hn0v : n0 + 2 < vo := by have := lt_of_heap g4; omega
    obtain ⟨Ok, hit, hOk⟩ := tl.out
    have hH : ∀ p ∈ S.holders c, p ∈ S.held := fun p hp => (List.mem_filter.1 hp).1
    generalize hHd : S.holders c = H at *
    let J : (Nat → Prop) → Nat → World → Prop := fun Q i W => ∃ v, LedQ W l F (S.marked (H.take i) price cl) ∧ hp W vo = some (.cells #[v] 41 (0, 0)) ∧ Own W 45 2 v i (((H.take i).map (Po.won price)).flatMap cellsVa) ∧
      (∀ b, inSl v b → w3.heap.size + 1 < b) ∧ hp W n0 = some (.cells #[lptr l] 23 (0, 0)) ∧ hp W (n0 + 1) = some (.cells #[.int .i64 price] 2 (0, 0)) ∧ hp W (n0 + 2) = some (.cells #[.bool cl] 4 (0, 0)) ∧
      hp W w3.heap.size = some (.deferred (some [])) ∧ Mod F w W ∧ ∀ b, Q b → w3.heap.size + 1 < b ∧ b < W.heap.size ∧ ¬ inSl v b
    have hFlt : ∀ b, F b → b < n0 := fun b hb => by have := h0.lt hb; omega
    have e3 : ∀ o, Mod (fun _ => False) w3 ((w3.alloc (.deferred (some []))).alloc (.loop o)) := fun o => ((Mod.refl _ w3).alloc _).alloc _
    refine RFW_topN hit (by simp) J (fun _ _ => False) (fun o => hOk _ (e3 o)) ?_ ?_ ?_ ?_ (fun _ _ _ h => h.elim)
    · intro o Q W1 mo hQ
      have m31 := (e3 o).trans mo
      have m11 := m13.trans m31
      have hd : hp ((w3.alloc (.deferred (some []))).alloc (.loop o)) w3.heap.size = some (.deferred (some [])) := by simp [go_sem]
      refine ⟨.slice none 0 0, h0.mod m11 fun _ _ h => h, (m3.trans m31).keep gv id, (show Own W1 _ 2 (.slice none 0 0) 0 [] from Own.nil ..), fun b hb => (by cases hb), ((mw2.trans m3).trans m31).keep g0 id, ((mw2.trans m3).trans m31).keep g2 id, ((mw2.trans m3).trans m31).keep g4 id, mo.keep hd id, m11.mono fun _ _ h => h.elim, fun b hb => ⟨(hQ b hb).1, (hQ b hb).2, fun h => by cases h⟩⟩
    · rintro Q i W1 W2 ⟨v, j1, j2, j3, j4, j5, j6, j7, j8, j9, j10⟩ mm
      refine ⟨v, j1.mod mm fun b hb e => by have := hFlt b hb; omega, mm.keep j2 (by omega), j3.mod mm fun b hb e => by have := j4 b hb; omega, j4, mm.keep j5 (by omega), mm.keep j6 (by omega), mm.keep j7 (by omega), mm.keep j8 (by omega), j9.on mm fun b hb => .inr (by have := m13.size; omega), fun b hb => ⟨(j10 b hb).1, Nat.lt_of_lt_of_le (j10 b hb).2.1 mm.size, (j10 b hb).2.2⟩⟩
    · rintro Q i x W1 r hx ⟨v, j1, j2, j3, j4, j5, j6, j7, j8, j9, j10⟩ hrec hready KN KJ hKN hKJ
      obtain ⟨p, hpi, rfl⟩ : ∃ p, H[i]? = some p ∧ x = [poV p] := by
        simp only [List.getElem?_map] at hx
        cases hh : H[i]? with
        | none => rw [hh] at hx; cases hx
        | some p => rw [hh] at hx; exact ⟨p, rfl, (Option.some.inj hx).symm⟩
      have hpm := hH p (List.mem_of_getElem? hpi)
      obtain ⟨p1, p2, p3, p4, p5, p6, p7, p8⟩ := hok.pos p hpm
      have hb := mul_bd (x := p.q) (y := price) (m := MP) (n := MP) ⟨p4, p5⟩ ⟨by omega, hpr.2⟩
      simp only [MP, MF] at hb p4 p5 p6 p7
      have wr1 : IntKind.i64.wrap (p.q * price) = p.q * price := by rw [IntKind.wrap_i64]; omega
      have wr2 : IntKind.i64.wrap (p.q * price - p.b) = p.q * price - p.b := by rw [IntKind.wrap_i64]; omega
      obtain ⟨rc, hrc⟩ : ∃ rc, rc = w3.heap.size + 1 := ⟨_, rfl⟩
      rw [← hrc] at hrec hKN j10 ⊢
      simp only [← hrc] at j4
      unfold R15_1
      simp [go_sem, poV]
      refine beginK_of (r := r) ?_ hready ?_
      · rw [heap_alloc, if_neg (by have := lt_of_heap hrec; omega)]
        exact hrec
      have hne1 : vo ≠ W1.heap.size := by have := lt_of_heap j2; omega
      have hne2 : vo ≠ rc := by omega
      have hne3 : n0 + 1 ≠ rc := by omega
      have hne4 : n0 + 1 ≠ W1.heap.size := by have := lt_of_heap j6; omega
      have hne5 : W1.heap.size ≠ rc := by have := lt_of_heap hrec; omega
      simp [go_sem, hp_of j2, hp_of j6, hne1, hne2, hne3, hne4, hne5, wr1, wr2]
      generalize hw4 : World.putObj _ _ _ = w4
      have m4 : Mod (fun b => b = rc) W1 w4 := by subst hw4; exact ((Mod.refl (fun b => b = rc) W1).alloc _).putObj (b := rc) (.inl rfl) _
      have hloc : hp w4 W1.heap.size = some (.cells #[.int .u32 p.c, .int .u32 p.a, .int .i64 p.q, .int .i64 p.b] 31 (0, 0)) := by subst hw4; simp [go_sem, hne5]
      have hrec4 : hp w4 rc = some (.loop { r with state := .busy }) := by subst hw4; simp [go_sem, hp_of hrec, Ne.symm hne5]
      have hsz4 : w4.heap.size = W1.heap.size + 1 := by subst hw4; simp [go_sem]
      have hHl : (H.take i).length = i := by
        rw [List.length_take]
        have := (List.getElem?_eq_some_iff.1 hpi).1
        omega
      have hHle : H.length ≤ S.held.length := by rw [← hHd]; exact List.length_filter_le ..
      have j3' : Own w4 45 2 v ((H.take i).map (Po.won price)).length (((H.take i).map (Po.won price)).flatMap cellsVa) := by
        rw [List.length_map, hHl]
        exact j3.mod m4 fun b hb e => by have := j4 b hb; omega
      refine push1 (d := (H.take i).map (Po.won price)) (enc := cellsVa) (x := p.won price) (k := 1) tSlV vaE rfl rfl (by omega) (by omega) j3' (by rw [List.length_map, hHl]; have := (List.getElem?_eq_some_iff.1 hpi).1; omega) fun v' w5 o5 m5 n5 => ?_
      obtain ⟨va, vc, hv', -⟩ := o5.isSl
      have htk : (H.take i).map (Po.won price) ++ [p.won price] = (H.take (i + 1)).map (Po.won price) := by
        rw [List.take_add_one, hpi]; simp
      have hHl1 : (H.take (i + 1)).length = i + 1 := by
        rw [List.length_take]
        have := (List.getElem?_eq_some_iff.1 hpi).1
        omega
      rw [htk, List.length_map, hHl1] at o5
      rw [htk, List.length_map, hHl1] at hv'
      have hvl : ∀ b, inSl v b → b < W1.heap.size := fun b hb => j3.lt hb
      have hnv : ∀ b, b ≤ rc → ¬ inSl v b := fun b hb h => by have := j4 b h; omega
      have m15 : Mod (fun b => b = rc ∨ inSl v b) W1 w5 := (m4.mono fun _ _ h => .inl h).on m5 fun b hb => .inl (.inr hb)
      have k2 : hp w5 vo = some (.cells #[v] 41 (0, 0)) := m15.keep j2 (fun h => by rcases h with h | h; omega; exact hnv _ (by omega) h)
      have k6 : hp w5 (n0 + 1) = some (.cells #[.int .i64 price] 2 (0, 0)) := m15.keep j6 (fun h => by rcases h with h | h; omega; exact hnv _ (by omega) h)
      have kloc : hp w5 W1.heap.size = some (.cells #[.int .u32 p.c, .int .u32 p.a, .int .i64 p.q, .int .i64 p.b] 31 (0, 0)) := m5.keep hloc (fun h => by have := hvl _ h; omega)
      have hne6 : W1.heap.size ≠ vo := by omega
      have hne7 : n0 + 1 ≠ vo := by omega
      have k7' : hp w5 (n0 + 2) = some (.cells #[.bool cl] 4 (0, 0)) := m15.keep j7 (fun h => by rcases h with h | h; omega; exact hnv _ (by omega) h)
      have hne8 : n0 + 2 ≠ vo := by omega
      have hne9 : n0 + 2 ≠ W1.heap.size := by have := lt_of_heap j7; omega
      subst hv'
      simp [go_sem, hp_of k2, hp_of kloc, hp_of k6, hp_of k7', hne6, hne7, hne8, hne9, wr1]
      generalize hw6 : (w5.setCell ⟨vo, 0, none⟩ (.slice va (i + 1) vc)).setCell ⟨W1.heap.size, 3, none⟩ (.int .i64 (p.q * price)) = w6
      have m6 : Mod (fun b => b = vo ∨ b = W1.heap.size) w5 w6 := by subst hw6; exact ((Mod.refl (fun b => b = vo ∨ b = W1.heap.size) w5).setCell (b := vo) (.inl (.inl rfl)) _ _).setCell (b := W1.heap.size) (.inl (.inr rfl)) _ _
      have l2 : hp w6 vo = some (.cells #[.slice va (i + 1) vc] 41 (0, 0)) := by subst hw6; simp [go_sem, k2, Ne.symm hne6]
      have lloc : hp w6 W1.heap.size = some (.cells #[.int .u32 p.c, .int .u32 p.a, .int .i64 p.q, .int .i64 (p.q * price)] 31 (0, 0)) := by subst hw6; simp [go_sem, kloc, hne6]
      have hvo5 : ∀ b, inSl (.slice va (i + 1) vc) b → rc < b ∧ b ≠ W1.heap.size := fun b hb => by
        rcases n5 b hb with h | h
        · exact ⟨j4 b h, fun e => by have := hvl _ h; omega⟩
        · rw [hsz4] at h; exact ⟨by have := lt_of_heap hrec; omega, by omega⟩
      have m16 : Mod (fun b => b = rc ∨ inSl v b ∨ b = vo) W1 w6 := (m15.mono fun _ _ h => h.elim .inl fun h => .inr (.inl h)).on m6 fun b hb => by
        rcases hb with h | h
        · exact .inl (.inr (.inr h))
        · exact .inr (by omega)
      have keepb : ∀ b, b < rc → b ≠ vo → ¬ (b = rc ∨ inSl v b ∨ b = vo) := fun b h1 h2 h => by
        rcases h with h | h | h
        · omega
        · exact hnv _ (by omega) h
        · exact h2 h
      have k7 : hp w6 (n0 + 2) = some (.cells #[.bool cl] 4 (0, 0)) := m16.keep j7 (keepb _ (by omega) (by omega))
      have k5 : hp w6 n0 = some (.cells #[lptr l] 23 (0, 0)) := m16.keep j5 (keepb _ (by omega) (by omega))
      have k6' : hp w6 (n0 + 1) = some (.cells #[.int .i64 price] 2 (0, 0)) := m16.keep j6 (keepb _ (by omega) (by omega))
      have k8 : hp w6 w3.heap.size = some (.deferred (some [])) := m16.keep j8 (keepb _ (by omega) (by omega))
      have krec : hp w6 rc = some (.loop { r with state := .busy }) := by
        refine m6.keep (m5.keep hrec4 (hnv _ (Nat.le_refl _))) ?_
        rintro (h | h)
        · omega
        · omega
      have q6 : LedQ w6 l F (S.marked (H.take i) price cl) := j1.mod m16 fun b hb h => keepb b (by have := hFlt b hb; omega) (by have := hFlt b hb; omega) h
      let p' := p.mark price cl
      refine JoinW.at (fun _ W => ∃ m : Mod (fun b => b = W1.heap.size) w6 W, hp W W1.heap.size = some (.cells (cellsPo p').toArray 31 (0, 0))) ?_ ?_
      · cases cl with
        | true =>
          simp [go_sem, hp_of lloc]
          exact ⟨((Mod.refl _ w6).setCell (by simp) _ _).setCell (by simp) _ _, by simp [p', Po.mark, cellsPo]⟩
        | false =>
          simp [go_sem]
          exact ⟨Mod.refl _ _, by simp [lloc, p', Po.mark, cellsPo]⟩
      rintro _ W7 ⟨m7, lloc7⟩
      unfold J15_0
      intro _
      have kk : ∀ {b o}, hp w6 b = some o → b < W1.heap.size → hp W7 b = some o := fun h hb => m7.keep h (by omega)
      have hb5 := kk k5 (by have := lt_of_heap j5; omega)
      simp [go_sem, hp_of hb5, hp_of lloc7, cellsPo]
      have q7 := q6.mod m7 fun b hb e => by have := hFlt b hb; have := lt_of_heap hrec; omega
      have hall := (marked_all (S := S) (l := H.take i) (price := price) (cl := cl)).1
      have hok' : ((S.marked (H.take i) price cl).putP p').Ok := mark_ok hok q7.ok hall hpm hpr cl
      refine ca_put (p := p') q7 hok' fun W8 q8 m8 => ?_
      have kF : ∀ {b o}, hp W7 b = some o → n0 ≤ b → hp W8 b = some o := fun h hb => m8.keep h (fun hf => by have := hFlt _ hf; omega)
      refine hKN W8 ⟨.slice va (i + 1) vc, ?_, kF (kk l2 (by have := lt_of_heap j2; omega)) (by omega), ?_, fun b hb => (by have := (hvo5 b hb).1; omega), kF hb5 (Nat.le_refl _), kF (kk k6' (by have := lt_of_heap j6; omega)) (by omega), kF (kk k7 (by have := lt_of_heap j7; omega)) (by omega), kF (kk k8 (by have := lt_of_heap hrec; omega)) (by omega), ?_, ?_⟩ (kF (kk krec (lt_of_heap hrec)) (by omega)) ?_
      · rw [marked_take hpi]
        exact q8
      · refine ((o5.mod m6 fun b hb h => ?_).mod m7 fun b hb h => (hvo5 b hb).2 h).mod m8 fun b hb h => ?_
        · have := hvo5 b hb
          rcases h with h | h <;> omega
        · have := hFlt b h
          have := (hvo5 b hb).1
          omega
      · refine ((j9.on m16 fun b hb => ?_).on m7 fun b hb => ?_).trans m8
        · rcases hb with h | h | h
          · exact .inr (by have := m13.size; omega)
          · exact .inr (by have := j4 b h; have := m13.size; omega)
          · exact .inr (by omega)
        · exact .inr (by have := j9.size; omega)
      · intro b hb
        obtain ⟨q1, q2, q3⟩ := j10 b hb
        have hsz8 : W1.heap.size ≤ W8.heap.size := by have := m16.size; have := m7.size; have := m8.size; omega
        refine ⟨by omega, by omega, fun h => ?_⟩
        rcases n5 b h with h | h
        · exact q3 h
        · rw [hsz4] at h; omega
      · intro b hb
        obtain ⟨q1, q2, q3⟩ := j10 b hb
        have e1 := m16.blk b q2 (fun h => by rcases h with h | h | h; omega; exact q3 h; omega)
        have e2 := m7.blk b (by have := m16.size; omega) (by show ¬ b = _; omega)
        have e3 := m8.blk b (by have := m16.size; have := m7.size; omega) (fun h => by have := hFlt b h; omega)
        rw [e3, e2, e1]
    · rintro Q W1 o ⟨v, j1, j2, j3, j4, j5, j6, j7, j8, j9, j10⟩
      have hHl : ((H.map fun a => [poV a]) : List (List Value)).length = H.length := by simp
      rw [hHl, List.take_of_length_le (Nat.le_refl _)] at j1 j3
      have hne1 : vo ≠ w3.heap.size + 1 := by omega
      have hne2 : w3.heap.size ≠ w3.heap.size + 1 := by omega
      unfold A15_2
      obtain ⟨va, vc, hv, -⟩ := j3.isSl
      simp [go_sem, afterK, hp_of j2, hne1]
      simp [go_sem, retD_hp, retD_nil, j8]
      have mm : Mod (fun b => b = w3.heap.size + 1 ∨ b = w3.heap.size) W1 ((W1.putObj (w3.heap.size + 1) (.loop o)).putObj w3.heap.size (.deferred none)) := ((Mod.refl _ W1).putObj (.inl (.inl rfl)) _).putObj (.inl (.inr rfl)) _
      refine hK _ v (j1.mod mm fun b hb h => ?_) ?_ (j9.on mm fun b hb => .inr ?_) fun b hb => ?_
      · have := hFlt b hb; omega
      · have := j3.mod mm fun b hb h => by have := j4 b hb; omega
        show Own _ _ 2 v (H.map (Po.won price)).length ((H.map (Po.won price)).flatMap cellsVa)
        simpa using this
      · have := m13.size; omega
      · have := j4 b hb; have := m13.size; omega
end Go.Proofs
