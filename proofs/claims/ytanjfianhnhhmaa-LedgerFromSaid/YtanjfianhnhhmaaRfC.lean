/-
  The document's ledger: hold, Holders, Of.
  Conditions: where they ask for any, each theorem names them.
-/
import Derived.Test.YtanjfianhnhhmaaRfB
set_option linter.unusedVariables false
set_option linter.unusedSimpArgs false
namespace Go.Proofs
open Go Go.Vc

def outP (l : List Po) (p : Po) (mid : List Po) : List Po := l.filter (fun x => klt x.key p.key) ++ (mid ++ l.filter (fun x => klt p.key x.key))
theorem outP_end (l : List Po) (p : Po) : outP l p (if p.isZ then [] else [p]) = insP l p := rfl
theorem outP_gt {l : List Po} {p x : Po} {mid : List Po} (h : klt p.key x.key = true) : outP (l ++ [x]) p mid = outP l p mid ++ [x] := by
  simp [outP, List.filter_append, h, klt_asymm h]
theorem outP_eq {l : List Po} {p x : Po} {mid : List Po} (h : x.key = p.key) : outP (l ++ [x]) p mid = outP l p mid := by
  simp [outP, List.filter_append, h, klt_irr]
theorem outP_nil {l : List Po} {p : Po} (hl : ∀ y ∈ l, klt y.key p.key = true) : l.filter (fun x => klt p.key x.key) = [] :=
  List.filter_eq_nil_iff.2 fun y hy => by rw [klt_asymm (hl y hy)]; simp
theorem outP_lt {l : List Po} {p x : Po} (h : klt x.key p.key = true) (hl : ∀ y ∈ l, klt y.key p.key = true) : outP (l ++ [x]) p [] = outP l p [] ++ [x] := by
  simp [outP, List.filter_append, h, klt_asymm h, outP_nil hl]
theorem outP_mid {l : List Po} {p : Po} (hl : ∀ y ∈ l, klt y.key p.key = true) : outP l p [] ++ [p] = outP l p [p] := by
  simp [outP, outP_nil hl]
theorem outP_len (l : List Po) (p : Po) (mid : List Po) : (outP l p mid).length ≤ l.length + mid.length := by
  have : (l.filter fun x => klt x.key p.key).length + (l.filter fun x => klt p.key x.key).length ≤ l.length := by
    induction l with
    | nil => simp
    | cons x l ih =>
      by_cases h1 : klt x.key p.key = true
      · simp [h1, klt_asymm h1]; omega
      · by_cases h2 : klt p.key x.key = true
        · simp [h1, h2]; omega
        · simp [h1, h2]; omega
  simp only [outP, List.length_append]
  omega
def midP (p : Po) (dn : Bool) : List Po := if p.isZ then [] else if dn then [p] else []

set_option maxRecDepth 10000 in
set_option maxHeartbeats 1000000 in
theorem ca_rhold {w : World} {r : Nat} {F : Nat → Prop} {R : Led} {K : Kont} {p : Po} (h : RfQ w r F R) (hs : SortP R.held) (hl : R.held.length < 4294967200)
    (hK : ∀ w', RfQ w' r (fun b => F b ∨ (w.heap.size ≤ b ∧ b < w'.heap.size)) (R.putP p) → Mod (fun b => b = r) w w' → K (.tuple #[]) w') : Ca Try.prog 49 #[lptr r, poV p] w K := by
  have h0 := h
  obtain ⟨⟨sA, sH, h1, h2, h3, h4, h5⟩, hself, hFl⟩ := h
  obtain ⟨aH, cH, hsH⟩ := h3.isSl
  subst hsH
  have hlt := lt_of_heap h1
  apply ca49
  unfold F49
  simp [go_sem, poV]
  generalize hw1 : World.alloc _ _ = w1
  have m1 : Mod (fun _ => False) w w1 := by subst hw1; exact (Mod.refl _ w).alloc _
  have hloc : hp w1 w.heap.size = some (.cells #[.int .u32 p.c, .int .u32 p.a, .int .i64 p.q, .int .i64 p.b] 31 (0, 0)) := by subst hw1; simp [go_sem]
  have hsz1 : w1.heap.size = w.heap.size + 1 := by subst hw1; simp [go_sem]
  refine JoinW.at (fun s W => s = (.bool p.isZ, ()) ∧ W = w1) ?_ ?_
  · simp [go_sem, hp_of hloc]
    unfold Po.isZ
    by_cases hq : p.q = 0 <;> by_cases hb : p.b = 0 <;> simp [hq, hb]
  rintro _ w1' ⟨rfl, rfl⟩
  unfold J49_6
  intro _
  refine loopK (fun s W => ∃ (v : Value) (dn : Bool) (i : Nat), i ≤ R.held.length ∧ s = (v, .bool dn, .int .i64 i, ()) ∧ Own W 31 4 v (outP (R.held.take i) p (midP p dn)).length ((outP (R.held.take i) p (midP p dn)).flatMap cellsPo) ∧
      (dn = false → p.isZ = false ∧ ∀ y ∈ R.held.take i, klt y.key p.key = true) ∧ (dn = true → p.isZ = false → ∀ y ∈ R.held.drop i, klt p.key y.key = true) ∧ Mod (fun _ => False) w1' W ∧ ∀ b, inSl v b → w.heap.size < b)
    (fun s _ => match s.2.2.1 with | .int _ i => R.held.length - i.toNat | _ => 0) ⟨_, p.isZ, 0, by omega, rfl, ?_, (fun h => ⟨h, fun y hy => by simp at hy⟩), (fun h h' => by rw [h] at h'; cases h'), Mod.refl _ _, fun b hb => by cases hb⟩ ?_
  · have : midP p p.isZ = [] := by unfold midP; cases p.isZ <;> rfl
    rw [this]
    exact (show Own w1' _ 4 (.slice none 0 0) 0 [] from Own.nil ..)
  rintro ⟨sv, _⟩ W ⟨v, dn, i, hi, ⟨⟩, oW, hno, hyes, mW, hv⟩ KN hKN
  have mW0 := m1.trans mW
  have g1 := mW0.keep h1 id
  have g3 := h3.mod mW0 fun _ _ h => h
  have gl := mW.keep hloc id
  have hw := wr_add1 (i := i) (by omega)
  have ol := outP_len (R.held.take i) p (midP p dn)
  have tl : (R.held.take i).length = i := by rw [List.length_take]; omega
  have ml : ∀ d, (midP p d).length ≤ 1 := fun d => by unfold midP; cases p.isZ <;> cases d <;> simp
  have mld := ml dn
  unfold L49_5
  intro _
  by_cases hlt2 : i < R.held.length
  · obtain ⟨b, off, cap, C, e, fz, hsl, hC, c0, c1, c2, c3⟩ := rdPo g3 hlt2
    obtain ⟨rfl, -, rfl⟩ : aH = some ⟨b, off, none⟩ ∧ True ∧ cH = cap := by injection hsl with e1 e2 e3; exact ⟨e1, trivial, e3⟩
    have htk : R.held.take (i + 1) = R.held.take i ++ [R.held[i]] := List.take_succ_eq_append_getElem hlt2
    have hdr : R.held.drop i = R.held[i] :: R.held.drop (i + 1) := List.drop_eq_getElem_cons hlt2
    have hsd : ∀ y ∈ R.held.drop (i + 1), klt (R.held[i]).key y.key = true := fun y hy => by
      have := hs.drop (i := i)
      rw [hdr] at this
      exact (List.pairwise_cons.1 this).1 y hy
    have hst : ∀ y ∈ R.held.take i, klt y.key (R.held[i]).key = true := fun y hy => by
      have := hs.take (i := i + 1)
      rw [htk] at this
      exact (List.pairwise_append.1 this).2.2 y hy _ List.mem_cons_self
    generalize hX : R.held[i] = X at *
    have hneL : w.heap.size ≠ W.heap.size := by have := lt_of_heap gl; omega
    have hszW : W.heap.size > w.heap.size := by have := lt_of_heap gl; omega
    simp [-Int.natCast_add, go_sem, lptr, hp_of g1, hlt2, hC, c0, c1, c2, c3, hp_of gl, hneL]
    let Jo : (Value × Value × Unit) → World → Prop := fun s W' => ∃ (v' : Value) (dn' : Bool), s = (.bool dn', v', ()) ∧ Own W' 31 4 v' (outP (R.held.take (i + 1)) p (midP p dn')).length ((outP (R.held.take (i + 1)) p (midP p dn')).flatMap cellsPo) ∧
      (dn' = false → p.isZ = false ∧ ∀ y ∈ R.held.take (i + 1), klt y.key p.key = true) ∧ (dn' = true → p.isZ = false → ∀ y ∈ R.held.drop (i + 1), klt p.key y.key = true) ∧ Mod (fun _ => False) w1' W' ∧ ∀ b, inSl v' b → w.heap.size < b
    refine JoinW.at Jo ?_ ?_
    · (try simp [go_sem])
      generalize hW1 : W.alloc _ = W1
      have mA : Mod (fun _ => False) W W1 := by subst hW1; exact (Mod.refl _ W).alloc _
      have gX : hp W1 W.heap.size = some (.cells #[.int .u32 X.c, .int .u32 X.a, .int .i64 X.q, .int .i64 X.b] 31 (0, 0)) := by subst hW1; simp [go_sem]
      have ga := mA.keep gl id
      have o1 := oW.mod mA fun _ _ h => h
      let Jm : (Value × Value × Unit) → World → Prop := fun s W' => ∃ (v2 : Value) (d2 : Bool), s = (.bool d2, v2, ()) ∧ Own W' 31 4 v2 (outP (R.held.take i) p (midP p d2)).length ((outP (R.held.take i) p (midP p d2)).flatMap cellsPo) ∧
        (d2 = false → p.isZ = false ∧ klt X.key p.key = true ∧ ∀ y ∈ R.held.take i, klt y.key p.key = true) ∧ (d2 = true → p.isZ = false → klt X.key p.key = false) ∧ Mod (fun b => inSl sv b) W1 W' ∧ (∀ b, inSl v2 b → w.heap.size < b ∧ b ≠ W.heap.size)
      refine JoinW.at Jm ?_ ?_
      · refine JoinW.at (fun s W' => s = (.bool (!dn && !klt X.key p.key), ()) ∧ W' = W1) ?_ ?_
        · cases dn with
          | true => simp [go_sem]
          | false =>
            simp [go_sem]
            unfold klt Po.key
            by_cases e1 : p.c < X.c
            · simp [e1, show ¬ X.c < p.c by omega, show ¬ X.c = p.c by omega]
            · by_cases e2 : X.c = p.c
              · simp [e2]
                rw [Bool.eq_iff_iff]; simp
              · simp [e1, e2, show X.c < p.c by omega]
        rintro _ W' ⟨rfl, rfl⟩
        unfold J49_0
        intro _
        have hsv : ∀ b, inSl sv b → w.heap.size < b ∧ b ≠ W.heap.size := fun b hb => ⟨hv b hb, fun e => by have := oW.lt hb; omega⟩
        cases dn with
        | true =>
          simp [go_sem]
          exact ⟨sv, true, rfl, o1, (fun h => by cases h), (fun _ hz => klt_asymm (hyes rfl hz X (by rw [hdr]; exact List.mem_cons_self))), Mod.refl _ _, hsv⟩
        | false =>
          obtain ⟨hz, hno'⟩ := hno rfl
          have mf : midP p false = [] := by unfold midP; rw [hz]; rfl
          have mt : midP p true = [p] := by unfold midP; rw [hz]; rfl
          cases hge : klt X.key p.key with
          | false =>
            simp [go_sem, hge, hp_of ga]
            rw [mf] at o1 ol
            refine push1 (d := outP (R.held.take i) p []) (enc := cellsPo) (x := p) (k := 3) tSlP poE1 rfl rfl (by omega) (by omega) o1 (by simp only [List.length_nil] at ol; omega) fun v' w'' o' m'' n' => ?_
            rw [outP_mid hno'] at o'
            refine ⟨v', true, rfl, by rw [mt]; exact o', (fun h => by cases h), fun _ _ => hge, m'', fun b hb => ?_⟩
            rcases n' b hb with h | h
            · exact hsv b h
            · have := lt_of_heap gX; exact ⟨by omega, by omega⟩
          | true =>
            simp [go_sem, hge]
            exact ⟨sv, false, rfl, o1, (fun _ => ⟨hz, hge, hno'⟩), (fun h => by cases h), Mod.refl _ _, hsv⟩
      rintro _ W2 ⟨v2, d2, rfl, o2, hn2, hy2, m2, hv2⟩
      unfold J49_2
      intro _
      have gX2 := m2.keep gX (fun h => by have := oW.lt h; omega)
      have ga2 := m2.keep ga (fun h => by have := hv _ h; omega)
      have mW2 : Mod (fun _ => False) w1' W2 := (mW.trans mA).on m2 fun b hb => .inr (by have := hv b hb; omega)
      have ol2 := outP_len (R.held.take i) p (midP p d2)
      have ml2 := ml d2
      refine JoinW.at (fun s W' => s = (.bool (decide (X.key ≠ p.key)), ()) ∧ W' = W2) ?_ ?_
      · simp [go_sem, hp_of gX2, hp_of ga2]
        by_cases e1 : X.c = p.c
        · simp [e1, Po.key, go_sem, hp_of gX2, hp_of ga2]
          by_cases e2 : X.a = p.a <;> simp [e2]
        · simp [e1, Po.key]
      rintro _ W2' ⟨rfl, rfl⟩
      unfold J49_1
      intro _
      by_cases heq : X.key = p.key
      · simp [go_sem, heq]
        have hd2 : d2 = true := by cases d2 with
          | true => rfl
          | false => have := (hn2 rfl).2.1; rw [heq, klt_irr] at this; cases this
        subst hd2
        refine ⟨v2, true, rfl, ?_, (fun h => by cases h), (fun _ _ y hy => by have := hsd y hy; rwa [heq] at this), mW2, fun b hb => (hv2 b hb).1⟩
        rw [htk, outP_eq heq]
        exact o2
      · simp [go_sem, heq, hp_of gX2]
        refine push1 (d := outP (R.held.take i) p (midP p d2)) (enc := cellsPo) (x := X) (k := 3) tSlP poE1 rfl rfl (by omega) (by omega) o2 (by omega) fun v' w'' o' m'' n' => ?_
        have tri := klt_tri X.key p.key
        refine ⟨v', d2, rfl, ?_, fun h => ⟨(hn2 h).1, fun y hy => ?_⟩, fun h hz y hy => ?_, mW2.on m'' fun b hb => .inr (by have := (hv2 b hb).1; omega), fun b hb => ?_⟩
        · have e1 : outP (R.held.take (i + 1)) p (midP p d2) = outP (R.held.take i) p (midP p d2) ++ [X] := by
            rw [htk]
            rcases tri with h | h | h
            · have hm : midP p d2 = [] := by
                cases d2 with
                | true =>
                  cases hz : p.isZ with
                  | true => unfold midP; rw [hz]; rfl
                  | false => have := hy2 rfl hz; rw [h] at this; cases this
                | false => unfold midP; rw [(hn2 rfl).1]; rfl
              rw [hm]
              exact outP_lt h fun y hy => klt_trans (hst y hy) h
            · exact absurd h heq
            · exact outP_gt h
          rw [e1]; exact o'
        · rw [htk] at hy
          rcases List.mem_append.1 hy with hy | hy
          · exact (hn2 h).2.2 y hy
          · rw [List.mem_singleton.1 hy]; exact (hn2 h).2.1
        · have h1 := hsd y hy
          have h2 := hy2 h hz
          rcases tri with h3 | h3 | h3
          · rw [h2] at h3; cases h3
          · exact absurd h3 heq
          · exact klt_trans h3 h1
        · rcases n' b hb with h | h
          · exact (hv2 b h).1
          · have := lt_of_heap ga2; omega
    · rintro _ W' ⟨v', dn', rfl, o', hno', hyes', m', hv'⟩
      unfold J49_3
      intro _
      simp [-Int.natCast_add, go_sem, hw]
      exact hKN _ _ ⟨v', dn', i + 1, by omega, rfl, o', hno', hyes', m', hv'⟩ (by simp; omega)
  · obtain rfl : i = R.held.length := by omega
    rw [List.take_of_length_le (Nat.le_refl _)] at oW hno ol
    simp [-Int.natCast_add, go_sem, lptr, hp_of g1]
    let Je : (Value × Unit) → World → Prop := fun s W' => ∃ (v' : Value), s = (v', ()) ∧ Own W' 31 4 v' (insP R.held p).length ((insP R.held p).flatMap cellsPo) ∧ Mod (fun _ => False) w1' W' ∧ ∀ b, inSl v' b → w.heap.size < b
    refine JoinW.at Je ?_ ?_
    · cases dn with
      | true =>
        simp [go_sem]
        refine ⟨sv, rfl, ?_, mW, hv⟩
        have : midP p true = if p.isZ then [] else [p] := by unfold midP; cases p.isZ <;> rfl
        rw [this, outP_end] at oW
        exact oW
      | false =>
        obtain ⟨hz, hno'⟩ := hno rfl
        have mf : midP p false = [] := by unfold midP; rw [hz]; rfl
        simp [go_sem, hp_of gl]
        rw [mf] at oW ol
        refine push1 (d := outP R.held p []) (enc := cellsPo) (x := p) (k := 3) tSlP poE1 rfl rfl (by omega) (by omega) oW (by simp only [List.length_nil] at ol; omega) fun v' w'' o' m'' n' => ?_
        have : insP R.held p = outP R.held p [p] := by rw [← outP_end, hz]; rfl
        rw [outP_mid hno', ← this] at o'
        exact ⟨_, rfl, o', mW.on m'' fun b hb => .inr (by have := hv b hb; omega), fun b hb => (n' b hb).elim (hv b) fun h => by have := lt_of_heap gl; omega⟩
    rintro _ W' ⟨v', rfl, o', m', hv'⟩
    unfold J49_4
    intro _
    have g1' := (m1.trans m').keep h1 id
    obtain ⟨va, vc, hvv, -⟩ := o'.isSl
    subst hvv
    simp [-Int.natCast_add, go_sem, lptr, hp_of g1']
    have mS : Mod (fun b => b = r) W' (W'.setCell ⟨r, 2, none⟩ (.slice va (insP R.held p).length vc)) := (Mod.refl (fun b => b = r) W').setCell (b := r) (.inl rfl) _ _
    refine hK _ ⟨⟨sA, .slice va (insP R.held p).length vc, ?_, ?_, ?_, fun b hb => ⟨.inl (h4 b hb).1, (h4 b hb).2⟩, fun b hb => ?_⟩, .inl hself, fun b hb => ?_⟩ (((m1.trans m').mono fun _ _ h => h.elim).trans mS)
    · simp [go_sem, hp_of g1', g1', Led.putP]
    · exact (h2.mod (m1.trans m') fun _ _ h => h).mod mS fun b hb e => (h4 b hb).2 e
    · exact o'.rd.mod mS fun b hb e => by have := hv' b hb.sl; omega
    · have := hv' b hb.sl
      have := o'.lt hb.sl
      exact ⟨.inr ⟨by omega, by rw [size_setCell]; omega⟩, by omega⟩
    · rcases hb with hb | hb
      · exact Nat.lt_of_lt_of_le (hFl b hb) (by rw [size_setCell]; exact (m1.trans m').size)
      · exact hb.2
end Go.Proofs
