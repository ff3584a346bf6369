/- Part of a proof. -/
import Derived.Test.YtgebhcgmckjbbaaGreatI21
set_option linter.all false
namespace Go.Proofs
open Go Go.Vc
attribute [local congr] Ca_congV
theorem ctAtSp {W : World} {p off : Nat} {k : Ct} (h : At W p off (ctC k)) : At W p off (spC k.spec) := by
  have := h.sub 0 25 (by rw [ctC_len]; omega)
  have e : ((ctC k).drop 0).take 25 = spC k.spec := by
    show (spC k.spec ++ _).take 25 = _
    rw [← spC_len k.spec, List.take_left]
  rw [e] at this
  exact this
abbrev CtB (W : World) (p : Nat) (k : Ct) : Prop := hp W p = some (.cells (ctC k).toArray tCt (0, 0))
theorem ctBU {W : World} {p : Nat} {k k' : Ct} {K : World → Prop} (h : CtB W p k) (hK : ∀ W', CtB W' p k' → Mod (fun y => y = p) W W' → K W') : rux Tryz.prog (bigU tCt (.pointer (some ⟨p, 0, none⟩)) (.agg (ctC k').toArray)) W K := by
  have hh : W.heap[p]? = some (.cells (ctC k).toArray tCt (0, 0)) := h
  have h1 : (ctC k').all (·.oneCell') = true := by
    unfold ctC
    rw [List.all_append, spC_one]
    rfl
  refine rux_bigU nCt (ctC_len k') hh (by rw [List.size_toArray, ctC_len, ctC_len]; omega) h1 (hK _ ?_ ((Mod.refl (fun y => y = p) W).setRow (.inl rfl) _))
  show (W.setRow p _).heap[p]? = _
  rw [heap_setRow, if_pos rfl, hh, lay_all (by rw [ctC_len]; simp [ctC_len])]
theorem newCtB {K : Kont} (w : World) (hK : ∀ w1, CtB w1 w.heap.size zCt0 → Mod (fun _ => False) w w1 → K (.pointer (some ⟨w.heap.size, 0, none⟩)) w1) : rx Tryz.prog (bigA tCt) w K := by
  refine rx_bigA zCt ?_
  rw [zeroCt]
  exact hK _ (by show hp _ _ = _; simp [go_sem]) ((Mod.refl _ w).alloc _)
theorem ctB0 {W : World} {p : Nat} {k : Ct} (h : CtB W p k) : (Instr.loadAt 35 (.pointer (some ⟨p, 0, none⟩))).run Tryz.prog W = .ok (.int .u32 k.spec.num) W := by
  have h' : hp W p = some (.cells (ctC k).toArray tCt (0, 0)) := h
  simp [go_sem, h', ctT0]
theorem ctB25 {W : World} {p : Nat} {k : Ct} (h : CtB W p k) : (Instr.loadAt 106 (.pointer (some ⟨p, 25, none⟩))).run Tryz.prog W = .ok (.int .u8 k.st) W := by
  have h' : hp W p = some (.cells (ctC k).toArray tCt (0, 0)) := h
  simp [go_sem, h', ctT25]
theorem ctB26 {W : World} {p : Nat} {k : Ct} (h : CtB W p k) : (Instr.loadAt 2 (.pointer (some ⟨p, 26, none⟩))).run Tryz.prog W = .ok (.int .i64 k.price) W := by
  have h' : hp W p = some (.cells (ctC k).toArray tCt (0, 0)) := h
  simp [go_sem, h', ctT26]
theorem ctBF (p : Nat) (W : World) : (Instr.fieldAt tCt (.pointer (some ⟨p, 0, none⟩)) 0).run Tryz.prog W = .ok (.pointer (some ⟨p, 0, none⟩)) W ∧ (Instr.fieldAt tCt (.pointer (some ⟨p, 0, none⟩)) 1).run Tryz.prog W = .ok (.pointer (some ⟨p, 25, none⟩)) W ∧ (Instr.fieldAt tCt (.pointer (some ⟨p, 0, none⟩)) 2).run Tryz.prog W = .ok (.pointer (some ⟨p, 26, none⟩)) W ∧ (Instr.fieldAt 38 (.pointer (some ⟨p, 0, none⟩)) 0).run Tryz.prog W = .ok (.pointer (some ⟨p, 0, none⟩)) W := ⟨by simp [go_sem], by simp [go_sem], by simp [go_sem], by simp [go_sem]⟩
theorem calUp_cons (n : Int) (k : Ct) (l : List Ct) : calUp n (k :: l) = (decide (n < k.spec.num) && (decide (1 ≤ k.st) && (decide (k.st ≤ 3) && (k.spec.isPrice k.price && calUp k.spec.num l)))) := rfl
set_option maxRecDepth 10000 in
set_option maxHeartbeats 1000000 in
theorem ca_calfrom {w : World} {K : Kont} {sl : Value} {day : Int} {l : List Ct} (h : Rd w 27 sl l.length (l.flatMap ctC)) (hl : l.length ≤ 100000) (hf : ∀ k ∈ l, k.Fit) (hd : U32' day)
    (hok : l.length ≤ 16 → calUp 0 l = true → ∀ c F w', CalQ w' c F ⟨day, l⟩ → Mod (fun _ => False) w w' → (∀ b, F b → w.heap.size ≤ b) → K (.tuple #[cptr c, .int .i64 0]) w')
    (hno : ¬ (l.length ≤ 16 ∧ calUp 0 l = true) → ∀ w', Mod (fun _ => False) w w' → K (.tuple #[.pointer none, .int .i64 2]) w') : Ca Tryz.prog 45 #[.int .u32 day, sl] w K := by
  obtain ⟨sa, sc, hsl⟩ := h.isSl
  apply ca45
  unfold F45
  have ln : ∀ W, (builtin .len #[tCts] 3 #[false] #[sl]).run Tryz.prog W = .ok (.value (.int .i64 (l.length : Int))) W := fun W => by rw [hsl]; simp [go_sem]
  refine rnS (ln _) ?_
  refine rvS (v := .bool (decide (16 < l.length))) (w' := w) (by simp [go_sem]; omega) ?_
  by_cases h16 : 16 < l.length
  · rw [ifB_bool, if_pos (by simpa using h16)]
    exact hno (fun hc => by omega) _ (Mod.refl _ _)
  rw [ifB_bool, if_neg (by simpa using h16)]
  refine rnS (ln _) ?_
  refine loopV (fun st W => ∃ (i : Nat) (last : Int) (x y : Value), i ≤ l.length ∧ st = (x, y, .int .u32 last, .int .i64 i, ()) ∧ calUp 0 l = calUp last (l.drop i) ∧ Mod (fun _ => False) w W)
    (fun st _ => match st.2.2.2.1 with | .int _ i => l.length - i.toNat | _ => 0) ⟨0, 0, _, _, by omega, rfl, rfl, Mod.refl _ _⟩ ?_
  rintro ⟨_, _⟩ W ⟨i, last, x, y, hi, ⟨⟩, hup, mW⟩ KN hKN
  unfold L45_1
  intro _
  refine rvS (v := .bool (decide (i < l.length))) (w' := W) (by simp [go_sem]) ?_
  by_cases hlt : i < l.length
  · rw [ifB_bool, if_pos (by simpa using hlt)]
    obtain ⟨b, off, cap, hse, hcap, hA⟩ := (h.mod mW fun _ _ h => h).item ctC_len hlt rfl
    have hkf := hf l[i] (List.getElem_mem hlt)
    rw [List.drop_eq_getElem_cons hlt] at hup
    generalize l[i] = k at hA hkf hup
    refine rvS (v := .pointer (some ⟨b, off + i * 27, none⟩)) (w' := W) (by rw [hse]; simp [go_sem, hlt, addr_add, uCts]) ?_
    refine rx_bigS (ctC k) 26 aCt nCt (ctC_len k) hA ?_
    refine newCtB _ fun w1 b1 m1 => ?_
    obtain ⟨p, hp0⟩ : ∃ p, p = W.heap.size := ⟨_, rfl⟩
    rw [← hp0] at b1 ⊢
    refine ctBU (k' := k) b1 fun w2 b2 m2 => ?_
    have M2 : Mod (fun _ => False) W w2 := m1.on m2 fun y hy => .inr (by omega)
    obtain ⟨f0, f1, f2, f3⟩ := ctBF p w2
    rw [calUp_cons] at hup
    refine JoinW.at (fun st W' => st = (.bool (!(decide (last < k.spec.num) && (decide (1 ≤ k.st) && (decide (k.st ≤ 3) && k.spec.isPrice k.price)))), ()) ∧ Mod (fun _ => False) w2 W') ?_ ?_
    · refine rvS f0 (rvS f3 (rvS (ctB0 b2) ?_))
      refine rvS (v := .bool (decide (k.spec.num ≤ last))) (w' := w2) (by simp [go_sem]) ?_
      by_cases c1 : k.spec.num ≤ last
      · rw [ifB_bool, if_pos (by simpa using c1)]
        have : ¬ last < k.spec.num := by omega
        exact ⟨by simp [this], Mod.refl _ _⟩
      rw [ifB_bool, if_neg (by simpa using c1)]
      have c1' : last < k.spec.num := by omega
      refine rvS f1 (rvS (ctB25 b2) ?_)
      refine rvS (v := .bool (decide (k.st < 1))) (w' := w2) (by simp [go_sem]) ?_
      by_cases c2 : k.st < 1
      · rw [ifB_bool, if_pos (by simpa using c2)]
        have : ¬ 1 ≤ k.st := by omega
        exact ⟨by simp [this], Mod.refl _ _⟩
      rw [ifB_bool, if_neg (by simpa using c2)]
      have c2' : 1 ≤ k.st := by omega
      refine rvS f1 (rvS (ctB25 b2) ?_)
      refine rvS (v := .bool (decide (3 < k.st))) (w' := w2) (by simp [go_sem]) ?_
      by_cases c3 : 3 < k.st
      · rw [ifB_bool, if_pos (by simpa using c3)]
        have : ¬ k.st ≤ 3 := by omega
        exact ⟨by simp [this], Mod.refl _ _⟩
      rw [ifB_bool, if_neg (by simpa using c3)]
      have c3' : k.st ≤ 3 := by omega
      refine rvS f0 (rx_bigS (spC k.spec) 24 aSp nSp (spC_len _) (ctAtSp (At.all b2)) ?_)
      refine rvS f2 (rvS (ctB26 b2) ?_)
      refine ca_isPrice hkf.1 fun w3 m3 => ?_
      refine rvS (v := .bool (!k.spec.isPrice k.price)) (w' := w3) (by simp [go_sem]) ?_
      exact ⟨by simp [c1', c2', c3'], m3⟩
    rintro _ w3 ⟨rfl, m3⟩
    unfold J45_0
    intro _
    have M3 := (mW.trans M2).trans m3
    cases hc : (decide (last < k.spec.num) && (decide (1 ≤ k.st) && (decide (k.st ≤ 3) && k.spec.isPrice k.price))) with
    | false =>
      rw [show (!false) = true from rfl, ifB_bool, if_pos rfl]
      refine hno (fun hcc => ?_) _ M3
      rw [hup] at hcc
      have := hcc.2
      simp only [Bool.and_eq_true, decide_eq_true_eq] at this hc
      simp only [Bool.and_eq_false_iff, decide_eq_false_iff_not] at hc
      obtain ⟨a1, a2, a3, a4, -⟩ := this
      rcases hc with hc | hc | hc | hc
      · exact hc a1
      · exact hc a2
      · exact hc a3
      · rw [a4] at hc; cases hc
    | true =>
      rw [show (!true) = false from rfl, ifB_bool, if_neg Bool.false_ne_true]
      have b3 : CtB w3 p k := m3.hpk b2 id
      obtain ⟨g0, g1, g2, g3⟩ := ctBF p w3
      refine rvS g0 (rvS g3 (rvS (ctB0 b3) ?_))
      refine rvS (v := .int .i64 ((i + 1 : Nat) : Int)) (w' := w3) (by simp [go_sem]; rw [wrapI (by omega) (by omega)]) ?_
      refine hKN _ _ ⟨i + 1, k.spec.num, _, _, by omega, rfl, ?_, M3⟩ (by show l.length - (((i + 1 : Nat) : Int)).toNat < l.length - ((i : Int)).toNat; omega)
      rw [hup]
      simp only [Bool.and_eq_true, decide_eq_true_eq] at hc
      obtain ⟨a1, a2, a3, a4⟩ := hc
      simp [a1, a2, a3, a4]
  · obtain rfl : i = l.length := by omega
    rw [ifB_bool, if_neg (by simp)]
    rw [List.drop_length] at hup
    have hup' : calUp 0 l = true := hup
    refine ca_cloneCt (l := l) (h.mod mW fun _ _ h => h) (by omega) fun s3 w3 o3 m3 n3 => ?_
    obtain ⟨ta, tc, hs3, -⟩ := o3.isSl
    refine rvS (v := .agg #[.bool true, .int .u32 day, s3]) (w' := w3) (by rw [hs3]; simp [go_sem]) ?_
    obtain ⟨q, hq⟩ : ∃ q, q = w3.heap.size := ⟨_, rfl⟩
    have m4 : Mod (fun _ => False) w3 (w3.alloc (.cells #[.bool true, .int .u32 day, s3] 197)) := (Mod.refl _ _).alloc _
    have b4 : hp (w3.alloc (.cells #[.bool true, .int .u32 day, s3] 197)) q = some (.cells #[.bool true, .int .u32 day, s3] 197 (0, 0)) := by rw [hq]; simp [go_sem]
    refine rvS (v := cptr q) (w' := w3.alloc (.cells #[.bool true, .int .u32 day, s3] 197)) (by rw [hq]; rfl) ?_
    have hs := mW.size
    have hs3' := m3.size
    obtain ⟨u1, u2⟩ := calUp_spec hup'
    refine hok (by omega) hup' q (fun b => b = q ∨ inSl s3 b) _ ⟨⟨s3, b4, o3.mod m4 fun _ _ h => h, fun b => Iff.rfl, fun hc => by have := o3.lt hc; omega⟩, by show l.length ≤ 16; omega, hd, fun k hk => ?_, u2⟩ ((mW.trans m3).trans m4) fun b hb => ?_
    · obtain ⟨a1, a2, a3, a4⟩ := u1 k hk
      have := a4
      unfold Sp.isPrice at this
      exact ⟨hf k hk, (Bool.and_eq_true _ _ ▸ this).1, a4, a2, a3⟩
    · rcases hb with rfl | hb
      · omega
      · have := n3 b hb; omega
theorem alive_eq (l : List Ct) (n : Int) : decide (calAlive l n = 0) = (decide ((calGetR l n).2 = 0) && decide ((calGetR l n).1.st ≠ 3)) := by
  unfold calAlive calGetR
  cases calGet l n with
  | none => simp
  | some k =>
    by_cases h : k.st = 3
    · simp [h]
    · simp [h]
theorem ca_valive {w : World} {K : Kont} {v c l mb md : Nat} {A : List (Int × Nat)} {D : List (Int × Value)} {fp : Pt → Nat → Prop} {S : Ven} {n : Int} (h : VenR w v c l mb md A D fp S)
    (hK : ∀ w', Mod (fun _ => False) w w' → K (.tuple #[.agg (ctC (calGetR S.cal.l n).1).toArray, .bool (decide (calAlive S.cal.l n = 0))]) w') : Ca Tryz.prog 49 #[vptr v, .int .u32 n] w K := by
  apply ca49
  unfold F49
  rw [alive_eq] at hK
  refine newCtB _ fun w1 b1 m1 => ?_
  obtain ⟨p, hp0⟩ : ∃ p, p = w.heap.size := ⟨_, rfl⟩
  rw [← hp0] at b1 ⊢
  have h1 := h.md0 m1
  simp only [vptr, nilK_ptr]
  refine rvS (fldV 0 (by omega) _) (rvS (ld0 _ h1.blk) ?_)
  refine ca_cget h1.cal fun w2 m2 => ?_
  generalize calGetR S.cal.l n = x at hK ⊢
  refine rvS (by simp [-Int.natCast_add, go_sem] <;> first | exact ⟨rfl, rfl⟩ | exact rfl) ?_
  refine rvS (by simp [-Int.natCast_add, go_sem] <;> first | exact ⟨rfl, rfl⟩ | exact rfl) ?_
  have b2 : CtB w2 p zCt0 := m2.hpk b1 id
  refine newCtB _ fun w3 b3 m3 => ?_
  obtain ⟨q, hq0⟩ : ∃ q, q = w2.heap.size := ⟨_, rfl⟩
  rw [← hq0] at b3 ⊢
  refine ctBU (k' := x.1) b3 fun w4 b4 m4 => ?_
  have hpq : p < q := by have := lt_of_heap b2; omega
  have md := (Mod.refl (fun _ => False) w4).drew
  have b4' : CtB w4.drew q x.1 := md.hpk b4 id
  have p4 : CtB w4.drew p zCt0 := md.hpk (m4.hpk (m3.hpk b2 id) (by omega)) id
  have M4 : Mod (fun _ => False) w w4.drew := (((m1.trans m2).trans m3).on m4 fun y hy => .inr (by have := m1.size; have := m2.size; omega)).trans md
  generalize w4.drew = u at b4' p4 M4 ⊢
  have hwp : w.heap.size ≤ p := by omega
  refine rdX_bigS (ctC x.1) 26 aCt nCt (ctC_len _) (At.all b4') ?_
  refine rdPS (v := .bool (decide (x.2 = 0))) (fun W => by simp [go_sem]; try rw [Bool.eq_iff_iff]; simp) ?_
  by_cases hx : x.2 = 0
  · rw [ifB_bool, if_pos (by simpa using hx)]
    refine rdPS (fun W => (ctBF q W).2.1) (rdWS (ctB25 b4') ?_)
    refine rdPS (v := .bool (decide (x.1.st ≠ 3))) (fun W => by simp [go_sem]; try rw [Bool.eq_iff_iff]; simp) ?_
    refine ctBU (k' := x.1) p4 fun w5 b5 m5 => ?_
    refine ⟨ctB25 (m5.hpk b4' (by omega)), ?_⟩
    refine rdX_bigS (ctC x.1) 26 aCt nCt (ctC_len _) (At.all b5) ?_
    have := hK w5 (M4.on m5 fun y hy => .inr (by omega))
    rw [hx] at this
    simpa using this
  · rw [ifB_bool, if_neg (by simpa using hx)]
    refine ctBU (k' := x.1) p4 fun w5 b5 m5 => ?_
    refine rdX_bigS (ctC x.1) 26 aCt nCt (ctC_len _) (At.all b5) ?_
    have := hK w5 (M4.on m5 fun y hy => .inr (by omega))
    simpa [hx] using this
end Go.Proofs
namespace Go.Proofs
open Go Go.Vc
attribute [local congr] Ca_congV
abbrev tNums : TypeId := 232
theorem zIntF : zeroOfT Tryz.prog 3 = some (.int .i64 0) := by kernel_rfl
def NumAt (w : World) (mn : Nat) (U : List Int) : Prop := ∃ L : List (Int × Int), MapAt encN i64v w mn L ∧ ∀ n, (lk L n).getD 0 = if n ∈ U then 1 else 0
theorem NumAt.mod {F : Nat → Prop} {w w' : World} {mn : Nat} {U : List Int} (h : NumAt w mn U) (hm : Mod F w w') (h1 : ¬ F mn) : NumAt w' mn U := by
  obtain ⟨L, h2, h3⟩ := h
  exact ⟨L, h2.mod hm h1, h3⟩
theorem NumAt.lt {w : World} {mn : Nat} {U : List Int} (h : NumAt w mn U) : mn < w.heap.size := by
  obtain ⟨L, h2, h3⟩ := h
  exact h2.lt
theorem NumAt.look {w : World} {mn : Nat} {U : List Int} (h : NumAt w mn U) (n : Int) : (xLook tNums (.map (some mn)) (.int .u64 n) false).run Tryz.prog w = .ok (.int .i64 (if n ∈ U then 1 else 0)) w := by
  obtain ⟨L, h2, h3⟩ := h
  have := run_lookup (ok := false) (x := n) uMapN kU64 zIntF (.inr ⟨mn, rfl, h2⟩ : MapV encN i64v w (.map (some mn)) L)
  rw [← h3 n]
  cases hl : lk L n with
  | none => rw [hl] at this; exact this
  | some x => rw [hl] at this; exact this
theorem NumAt.add {w : World} {mn : Nat} {U : List Int} {n : Int} {K : World → Prop} (h : NumAt w mn U) (hn : n ∉ U) (hK : ∀ w', NumAt w' mn (n :: U) → Mod (fun y => y = mn) w w' → K w') : rux Tryz.prog (xMapUp tNums (.map (some mn)) (.int .u64 n) (.int .i64 1)) w K := by
  obtain ⟨L, h2, h3⟩ := h
  refine rux_mapUp (enc := encN) (ev := i64v) (x := n) (v := 1) uMapN kU64 h2 fun w' h' m' _ => hK w' ⟨_, h', fun m => ?_⟩ m'
  rw [lk_put]
  by_cases hm : n = m
  · rw [if_pos hm]; simp [hm]
  · rw [if_neg hm, h3 m]
    have : m ∈ n :: U ↔ m ∈ U := by simp; omega
    simp [this, Ne.symm hm]
abbrev tSdF : TypeId := 119
def sdVF (x : Int × Od) : Value := .agg (sdOC x).toArray
abbrev SdB (W : World) (p : Nat) (x : Int × Od) : Prop := hp W p = some (.cells (sdOC x).toArray tSdF (0, 0))
theorem boxSd (x : Int × Od) (w : World) : ∃ w1, (Instr.box tSdF (sdVF x)).run Tryz.prog w = .ok (.pointer (some ⟨w.heap.size, 0, none⟩)) w1 ∧ SdB w1 w.heap.size x ∧ Mod (fun _ => False) w w1 :=
  ⟨w.alloc (.cells (sdOC x).toArray tSdF), rfl, by show hp _ _ = _; simp [go_sem], (Mod.refl _ w).alloc _⟩
theorem sdBF (p : Nat) (W : World) : (Instr.fieldAt tSdF (.pointer (some ⟨p, 0, none⟩)) 0).run Tryz.prog W = .ok (.pointer (some ⟨p, 0, none⟩)) W ∧ (Instr.fieldAt tSdF (.pointer (some ⟨p, 0, none⟩)) 1).run Tryz.prog W = .ok (.pointer (some ⟨p, 1, none⟩)) W := ⟨by simp [go_sem], by simp [go_sem]⟩
theorem sdB0 {W : World} {p : Nat} {x : Int × Od} (h : SdB W p x) : (Instr.loadAt 35 (.pointer (some ⟨p, 0, none⟩))).run Tryz.prog W = .ok (.int .u32 x.1) W := by
  have h' : hp W p = some (.cells (sdOC x).toArray tSdF (0, 0)) := h
  simp only [sdOC, odC] at h'
  simp [go_sem, h']
theorem sdB1 {W : World} {p : Nat} {x : Int × Od} (h : SdB W p x) : (Instr.loadAt tOd (.pointer (some ⟨p, 1, none⟩))).run Tryz.prog W = .ok (odV x.2) W := by
  have hA : At W p 0 (sdOC x) := At.all h
  have := hA.sub 1 5 (by show 1 + 5 ≤ 6; omega)
  have e : ((sdOC x).drop 1).take 5 = odC x.2 := rfl
  rw [e, Nat.zero_add] at this
  exact ldOd this
theorem odBF (i : Nat) (hi : i < 5) (p : Nat) (W : World) : (Instr.fieldAt tOd (.pointer (some ⟨p, 0, none⟩)) i).run Tryz.prog W = .ok (.pointer (some ⟨p, i, none⟩)) W := by
  have : i = 0 ∨ i = 1 ∨ i = 2 ∨ i = 3 ∨ i = 4 := by omega
  rcases this with rfl | rfl | rfl | rfl | rfl <;> simp [go_sem]
abbrev OdB (W : World) (p : Nat) (o : Od) : Prop := hp W p = some (.cells (odC o).toArray tOd (0, 0))
theorem odBL {W : World} {p : Nat} {o : Od} (h : OdB W p o) : (Instr.loadAt 27 (.pointer (some ⟨p, 0, none⟩))).run Tryz.prog W = .ok (.int .u64 o.num) W ∧ (Instr.loadAt 35 (.pointer (some ⟨p, 1, none⟩))).run Tryz.prog W = .ok (.int .u32 o.acct) W ∧ (Instr.loadAt 2 (.pointer (some ⟨p, 3, none⟩))).run Tryz.prog W = .ok (.int .i64 o.price) W ∧ (Instr.loadAt 2 (.pointer (some ⟨p, 4, none⟩))).run Tryz.prog W = .ok (.int .i64 o.left) W := by
  have h' : hp W p = some (.cells (odC o).toArray tOd (0, 0)) := h
  simp only [odC] at h'
  exact ⟨by simp [go_sem, h'], by simp [go_sem, h'], by simp [go_sem, h'], by simp [go_sem, h']⟩
abbrev AcB (W : World) (p : Nat) (a : Ac) : Prop := hp W p = some (.cells (cellsAc a).toArray 92 (0, 0))
theorem acBF (p : Nat) (W : World) : (Instr.fieldAt 92 (.pointer (some ⟨p, 0, none⟩)) 2).run Tryz.prog W = .ok (.pointer (some ⟨p, 2, none⟩)) W ∧ (Instr.fieldAt 92 (.pointer (some ⟨p, 0, none⟩)) 3).run Tryz.prog W = .ok (.pointer (some ⟨p, 3, none⟩)) W := ⟨by simp [go_sem], by simp [go_sem]⟩
theorem acBL {W : World} {p : Nat} {a : Ac} (h : AcB W p a) : (Instr.loadAt 4 (.pointer (some ⟨p, 2, none⟩))).run Tryz.prog W = .ok (.bool a.kil) W ∧ (Instr.loadAt 4 (.pointer (some ⟨p, 3, none⟩))).run Tryz.prog W = .ok (.bool a.dfl) W := by
  have h' : hp W p = some (.cells (cellsAc a).toArray 92 (0, 0)) := h
  simp only [cellsAc] at h'
  exact ⟨by simp [go_sem, h'], by simp [go_sem, h']⟩
theorem newAcF (W : World) : ∃ w1, (Instr.alloc 92 true (.tuple #[])).run Tryz.prog W = .ok (.pointer (some ⟨W.heap.size, 0, none⟩)) w1 ∧ AcB w1 W.heap.size ⟨0, 0, false, false⟩ ∧ Mod (fun _ => False) W w1 :=
  ⟨W.alloc (.cells (cellsAc ⟨0, 0, false, false⟩).toArray 92), by simp [go_sem, cellsAc], by show hp _ _ = _; simp [go_sem], (Mod.refl _ W).alloc _⟩
theorem setAcF {W : World} {p : Nat} {a : Ac} (b : Ac) (h : AcB W p a) : ∃ W', (Instr.storeAt 92 (.pointer (some ⟨p, 0, none⟩)) (acV b)).run Tryz.prog W = .ok () W' ∧ AcB W' p b ∧ Mod (fun y => y = p) W W' := by
  have h' : hp W p = some (.cells (cellsAc a).toArray 92 (0, 0)) := h
  simp only [cellsAc] at h'
  exact ⟨(((W.setCell ⟨p, 0, none⟩ (.int .u32 b.num)).setCell ⟨p, 1, none⟩ (.int .i64 b.cash)).setCell ⟨p, 2, none⟩ (.bool b.kil)).setCell ⟨p, 3, none⟩ (.bool b.dfl), by simp [go_sem, h', acV], by show hp _ _ = _; simp [go_sem, h', cellsAc], ((((Mod.refl (fun y => y = p) W).setCell (.inl rfl) _ _).setCell (.inl rfl) _ _).setCell (.inl rfl) _ _).setCell (.inl rfl) _ _⟩
theorem stB_eq (L : Led) (a : Int) : L.stB a = (decide ((L.getV a).2 = 0) && (!(L.getV a).1.dfl && !(L.getV a).1.kil)) := by
  unfold Led.stB Led.getV
  cases L.getO a with
  | none => simp
  | some x => simp
set_option maxRecDepth 10000 in
set_option maxHeartbeats 4000000 in
theorem ca_vstands {w : World} {K : Kont} {v c l mb md mn : Nat} {A : List (Int × Nat)} {D : List (Int × Value)} {fp : Pt → Nat → Prop} {S : Ven} {lots : Bool} {U : List Int} {x : Int × Od} (h : VenR w v c l mb md A D fp S) (hN : NumAt w mn U) (hmn : ¬ allP fp mn)
    (hK1 : S.stnd lots U x = true → ∀ w', VenR w' v c l mb md A D fp S → NumAt w' mn (x.2.num :: U) → Mod (fun y => y = mn) w w' → K (.bool true) w')
    (hK0 : S.stnd lots U x = false → ∀ w', Mod (fun _ => False) w w' → K (.bool false) w') : Ca Tryz.prog 134 #[vptr v, sdVF x, .bool lots, .map (some mn)] w K := by
  apply ca134
  unfold F134
  obtain ⟨w1, e1, b1, m1⟩ := boxSd x w
  obtain ⟨p, hp0⟩ : ∃ p, p = w.heap.size := ⟨_, rfl⟩
  rw [← hp0] at e1 b1
  refine rvS e1 (rvS (sdBF p _).2 (rvS (sdB1 b1) ?_))
  obtain ⟨w2, e2, b2, m2⟩ := newOd w1
  obtain ⟨q, hq0⟩ : ∃ q, q = w1.heap.size := ⟨_, rfl⟩
  rw [← hq0] at e2 b2
  refine rvS e2 ?_
  obtain ⟨w3, e3, b3, m3⟩ := setOd (o' := x.2) b2
  refine ruS e3 ?_
  have hpq : p < q := by have := lt_of_heap b1; omega
  have M3 : Mod (fun _ => False) w w3 := (m1.trans m2).on m3 fun y hy => .inr (by omega)
  have b13 : SdB w3 p x := m3.hpk (m2.hpk b1 id) (by omega)
  refine rvS (sdBF p _).1 (rvS (sdB0 b13) ?_)
  refine ca_valive (h.md0 M3) fun w4 m4 => ?_
  have o4 : OdB w4 q x.2 := m4.hpk b3 id
  have h4 := h.md0 (M3.trans m4)
  obtain ⟨k, hk⟩ : ∃ k, k = calGetR S.cal.l x.1 := ⟨_, rfl⟩
  rw [← hk]
  refine rvS (by simp [-Int.natCast_add, go_sem] <;> first | exact ⟨rfl, rfl⟩ | exact rfl) ?_
  refine rvS (by simp [-Int.natCast_add, go_sem] <;> first | exact ⟨rfl, rfl⟩ | exact rfl) ?_
  refine newCtB _ fun w5 b5 m5 => ?_
  obtain ⟨z, hz0⟩ : ∃ z, z = w4.heap.size := ⟨_, rfl⟩
  rw [← hz0] at b5 ⊢
  have hqz : q < z := by have := lt_of_heap o4; omega
  refine ctBU (k' := k.1) b5 fun w6 b6 m6 => ?_
  have md := (Mod.refl (fun _ => False) w6).drew
  have o6 : OdB w6.drew q x.2 := md.hpk (m6.hpk (m5.hpk o4 id) (by omega)) id
  have b6' : CtB w6.drew z k.1 := md.hpk b6 id
  have hw0 : w.heap.size ≤ p := by omega
  have M6 : Mod (fun _ => False) w w6.drew := (((M3.trans m4).trans m5).on m6 fun y hy => .inr (by omega)).trans md
  have h6 := h.md0 M6
  have hN6 := hN.mod M6 id
  generalize w6.drew = u at o6 b6' M6 h6 hN6 ⊢
  obtain ⟨g, hg⟩ : ∃ g, g = S.led.getV x.2.acct := ⟨_, rfl⟩
  refine JoinW.at (fun st W => ∃ pa, st = (.pointer (some ⟨pa, 0, none⟩), .int .i64 g.2, ()) ∧ AcB W pa g.1 ∧ Mod (fun _ => False) u W) ?_ ?_
  · simp only [vptr, nilK_ptr]
    refine rdPS (fun W => fldV 1 (by omega) W) (rdWS (ld1 _ h6.blk) ?_)
    refine rdPS (fun W => odBF 1 (by omega) q W) (rdWS (odBL o6).2.1 ?_)
    refine ⟨?_, ?_⟩
    · refine ca_get h6.led fun w7 m7 => ?_
      rw [← hg]
      refine rdPS (v := acV g.1) (fun W => by simp [go_sem]) (rdPS (v := .int .i64 g.2) (fun W => by simp [go_sem]) ?_)
      obtain ⟨w8, e8, b8, m8⟩ := newAcF w7
      obtain ⟨w9, e9, b9, m9⟩ := setAcF g.1 b8
      refine rvS e8 (ruS e9 ?_)
      exact ⟨_, rfl, b9, (m7.trans m8).on m9 fun y hy => .inr (by have := m7.size; omega)⟩
    · obtain ⟨w8, e8, b8, m8⟩ := newAcF u
      refine rvS e8 ?_
      refine ⟨(odBL (m8.hpk o6 id)).2.1, ld1 _ (h6.md0 m8).blk, ?_⟩
      refine ca_get (h6.md0 m8).led fun w9 m9 => ?_
      rw [← hg]
      refine rdPS (v := acV g.1) (fun W => by simp [go_sem]) (rdPS (v := .int .i64 g.2) (fun W => by simp [go_sem]) ?_)
      obtain ⟨w10, e10, b10, m10⟩ := setAcF g.1 (m9.hpk b8 id)
      refine ruS e10 ?_
      exact ⟨_, rfl, b10, (m8.trans m9).on m10 fun y hy => .inr (by omega)⟩
  rintro _ w7 ⟨pa, rfl, a7, m7⟩
  unfold J134_1
  intro _
  have h7 := h6.md0 m7
  have o7 : OdB w7 q x.2 := m7.hpk o6 id
  have b7 : CtB w7 z k.1 := m7.hpk b6' id
  have N7 := hN6.mod m7 id
  have M7 := M6.trans m7
  have hstn : S.stnd lots U x = (decide (calAlive S.cal.l x.1 = 0) && ((decide (g.2 = 0) && (!g.1.dfl && !g.1.kil)) && (x.2.may && (k.1.spec.isPrice x.2.price && ((!lots || k.1.spec.isQty x.2.left) && (decide (x.2.num < S.next) && !U.contains x.2.num)))))) := by
    unfold Ven.stnd
    rw [stB_eq, ← hg, ← hk]
  refine JoinW.at (fun st W => st = (.bool (!S.stnd lots U x), ()) ∧ Mod (fun _ => False) w7 W) ?_ ?_
  · refine rdPS (v := .bool (!decide (calAlive S.cal.l x.1 = 0))) (fun W => by simp [go_sem]) ?_
    have mD := (Mod.refl (fun _ => False) w7).drew
    by_cases c1 : calAlive S.cal.l x.1 = 0
    rotate_left
    · rw [ifB_bool, if_pos (by simpa using c1)]
      exact ⟨by rw [hstn]; simp [c1], mD⟩
    rw [ifB_bool, if_neg (by simpa using c1)]
    have hkf : k.1.Fit := by
      obtain ⟨k0, a1, -, -, a2⟩ := alive_get c1
      have : k = (k0, 0) := by rw [hk]; unfold calGetR; rw [a1]
      rw [this]
      exact (h.cal.ok k0 a2).1
    refine rdPS (v := .bool (decide (g.2 ≠ 0))) (fun W => by simp [go_sem]; try rw [Bool.eq_iff_iff]; simp) ?_
    by_cases c2 : g.2 = 0
    rotate_left
    · rw [ifB_bool, if_pos (by simpa using c2)]
      exact ⟨by rw [hstn]; simp [c1, c2], mD⟩
    rw [ifB_bool, if_neg (by simpa using c2)]
    have a8 : AcB w7.drew pa g.1 := mD.hpk a7 id
    have o8 : OdB w7.drew q x.2 := mD.hpk o7 id
    have b8 : CtB w7.drew z k.1 := mD.hpk b7 id
    have h8 := h7.md0 mD
    have N8 := N7.mod mD id
    generalize w7.drew = w8 at mD a8 o8 b8 h8 N8 ⊢
    refine rdPS (fun W => (acBF pa W).2) (rdWS (acBL a8).2 ?_)
    cases c3 : g.1.dfl with
    | true =>
      rw [ifB_bool, if_pos rfl]
      exact ⟨by rw [hstn]; simp [c1, c2, c3], mD⟩
    | false =>
    rw [ifB_bool, if_neg Bool.false_ne_true]
    refine rdPS (fun W => (acBF pa W).1) (rdWS (acBL a8).1 ?_)
    cases c4 : g.1.kil with
    | true =>
      rw [ifB_bool, if_pos rfl]
      exact ⟨by rw [hstn]; simp [c1, c2, c3, c4], mD⟩
    | false =>
    rw [ifB_bool, if_neg Bool.false_ne_true]
    refine rdWS (ldOd (o := x.2) (At.all o8)) ?_
    refine ca_omay fun w9 m9 => ?_
    refine rdPS (v := .bool (!x.2.may)) (fun W => by simp [go_sem]) ?_
    have M9 := mD.trans m9
    cases c5 : x.2.may with
    | false =>
      rw [show (!false) = true from rfl, ifB_bool, if_pos rfl]
      exact ⟨by rw [hstn]; simp [c1, c2, c3, c4, c5], M9⟩
    | true =>
    rw [show (!true) = false from rfl, ifB_bool, if_neg Bool.false_ne_true]
    have o9 : OdB w9 q x.2 := m9.hpk o8 id
    have b9 : CtB w9 z k.1 := m9.hpk b8 id
    refine rdPS (fun W => (ctBF z W).1) (rdX_bigS (spC k.1.spec) 24 aSp nSp (spC_len _) (ctAtSp (At.all b9)) ?_)
    refine rdPS (fun W => odBF 3 (by omega) q W) (rdWS (odBL o9).2.2.1 ?_)
    refine ca_isPrice hkf.1 fun w10 m10 => ?_
    refine rdPS (v := .bool (!k.1.spec.isPrice x.2.price)) (fun W => by simp [go_sem]) ?_
    have M10 := M9.trans m10
    cases c6 : k.1.spec.isPrice x.2.price with
    | false =>
      rw [show (!false) = true from rfl, ifB_bool, if_pos rfl]
      exact ⟨by rw [hstn]; simp [c1, c2, c3, c4, c5, c6], M10⟩
    | true =>
    rw [show (!true) = false from rfl, ifB_bool, if_neg Bool.false_ne_true]
    have o10 : OdB w10 q x.2 := m10.hpk o9 id
    have b10 : CtB w10 z k.1 := m10.hpk b9 id
    
    have fin : ∀ W, Mod (fun _ => False) w7 W → (!lots || k.1.spec.isQty x.2.left) = true → ∀ K2 : Value × Unit → World → Prop, K2 (.bool (!S.stnd lots U x), ()) W →
        rdP Tryz.prog (Instr.fieldAt tOd (.pointer (some ⟨q, 0, none⟩)) 0) fun v71 => rdW Tryz.prog (Instr.loadAt 27 v71) W fun v72 => nilK (.pointer (some ⟨v, 0, none⟩)) fun v73 => rdP Tryz.prog (Instr.fieldAt tVen v73 4) fun v74 => rdW Tryz.prog (Instr.loadAt 27 v74) W fun v75 =>
          rdP Tryz.prog (bin .geq 27 false v72 v75) fun v76 => ifB v76 (K2 (.bool true, ()) W) (rdP Tryz.prog (Instr.fieldAt tOd (.pointer (some ⟨q, 0, none⟩)) 0) fun v77 => rdW Tryz.prog (Instr.loadAt 27 v77) W fun v78 => rdX Tryz.prog (xLook tNums (.map (some mn)) v78 false) W fun v79 => rdP Tryz.prog (bin .gtr 3 true v79 (.int .i64 0)) fun v80 => K2 (v80, ()) W) := by
      intro W m c7 K2 hk2
      have oW : OdB W q x.2 := m.hpk o7 id
      refine rdPS (fun W => odBF 0 (by omega) q W) (rdWS (odBL oW).1 ?_)
      rw [nilK_ptr]
      refine rdPS (fun W => fldV 4 (by omega) W) (rdWS (ld4 _ (h7.md0 m).blk) ?_)
      refine rdPS (v := .bool (decide (S.next ≤ x.2.num))) (fun W => by simp [go_sem]) ?_
      by_cases c8 : S.next ≤ x.2.num
      · rw [ifB_bool, if_pos (by simpa using c8)]
        have c8' : ¬ x.2.num < S.next := by omega
        have : S.stnd lots U x = false := by rw [hstn]; simp [c8']
        rw [this] at hk2
        exact hk2
      rw [ifB_bool, if_neg (by simpa using c8)]
      have c8' : x.2.num < S.next := by omega
      refine rdPS (fun W => odBF 0 (by omega) q W) (rdWS (odBL oW).1 ?_)
      refine rdX_of ((N7.mod m id).look x.2.num) ?_
      refine rdPS (v := .bool (!S.stnd lots U x)) (fun W => ?_) hk2
      rw [hstn, c7]
      by_cases c9 : x.2.num ∈ U
      · simp [go_sem, c1, c2, c3, c4, c5, c6, c8', c9]
      · simp [go_sem, c1, c2, c3, c4, c5, c6, c8', c9]
    cases lots with
    | true =>
      rw [ifB_bool, if_pos rfl]
      refine rdPS (fun W => (ctBF z W).1) (rdX_bigS (spC k.1.spec) 24 aSp nSp (spC_len _) (ctAtSp (At.all b10)) ?_)
      refine rdPS (fun W => odBF 4 (by omega) q W) (rdWS (odBL o10).2.2.2 ?_)
      refine ca_isQty hkf.1 fun w11 m11 => ?_
      refine rdPS (v := .bool (!k.1.spec.isQty x.2.left)) (fun W => by simp [go_sem]) ?_
      have M11 := M10.trans m11
      cases c7 : k.1.spec.isQty x.2.left with
      | false =>
        rw [show (!false) = true from rfl, ifB_bool, if_pos rfl]
        exact ⟨by rw [hstn]; simp [c7], M11⟩
      | true =>
        rw [show (!true) = false from rfl, ifB_bool, if_neg Bool.false_ne_true]
        exact fin w11 M11 (by simp [c7]) (fun st W => st = (.bool (!S.stnd true U x), ()) ∧ Mod (fun _ => False) w7 W) ⟨rfl, M11⟩
    | false =>
      rw [ifB_bool, if_neg Bool.false_ne_true]
      exact fin w10 M10 rfl (fun st W => st = (.bool (!S.stnd false U x), ()) ∧ Mod (fun _ => False) w7 W) ⟨rfl, M10⟩
  rintro _ W ⟨rfl, mW⟩
  unfold J134_0
  intro _
  have MW := M7.trans mW
  cases hs : S.stnd lots U x with
  | false =>
    rw [show (!false) = true from rfl, ifB_bool, if_pos rfl]
    exact hK0 hs W MW
  | true =>
    rw [show (!true) = false from rfl, ifB_bool, if_neg Bool.false_ne_true]
    have oW : OdB W q x.2 := mW.hpk o7 id
    have NW := N7.mod mW id
    have hnew := (stnd_ok hs).new
    refine rvS (odBF 0 (by omega) q W) (rvS (odBL oW).1 ?_)
    refine rx_of (NW.look x.2.num) ?_
    rw [if_neg hnew]
    refine rvS (v := .int .i64 1) (w' := W) (by simp [go_sem]; decide) ?_
    refine NW.add hnew fun w' N' m' => ?_
    exact hK1 hs w' ((h.md0 MW).mod m' fun pt y hy e => hmn ⟨pt, e ▸ hy⟩) N' ((MW.mono fun _ _ h => h.elim).trans m')
end Go.Proofs
namespace Go.Proofs
open Go Go.Vc
attribute [local congr] Ca_congV
theorem nSdF : Tryz.prog.cellsOf tSdF = 5 + 1 := by kernel_rfl
theorem uSdsF : Tryz.prog.underlying 47 = some (.slice tSdF) := by kernel_rfl
theorem sdLdAt {W : World} {p off : Nat} {x : Int × Od} (h : At W p off (sdOC x)) : (Instr.loadAt tSdF (.pointer (some ⟨p, off, none⟩))).run Tryz.prog W = .ok (sdVF x) W :=
  run_bigS (P := Tryz.prog) (t := tSdF) (by kernel_rfl) nSdF rfl h
theorem sdVarF (x : Int × Od) (W : World) : ∃ w1 w2, (Instr.alloc tSdF true (.tuple #[])).run Tryz.prog W = .ok (.pointer (some ⟨W.heap.size, 0, none⟩)) w1 ∧ (Instr.storeAt tSdF (.pointer (some ⟨W.heap.size, 0, none⟩)) (sdVF x)).run Tryz.prog w1 = .ok () w2 ∧ SdB w2 W.heap.size x ∧ Mod (fun _ => False) W w2 := by
  obtain ⟨p, hp0⟩ : ∃ p, p = W.heap.size := ⟨_, rfl⟩
  obtain ⟨w1, hw1⟩ : ∃ w1, w1 = W.alloc (.cells #[.int .u32 0, .int .u64 0, .int .u32 0, .bool false, .int .i64 0, .int .i64 0] tSdF) := ⟨_, rfl⟩
  have m1 : Mod (fun _ => False) W w1 := by rw [hw1]; exact (Mod.refl _ W).alloc _
  have b1 : hp w1 p = some (.cells #[.int .u32 0, .int .u64 0, .int .u32 0, .bool false, .int .i64 0, .int .i64 0] tSdF (0, 0)) := by rw [hw1, hp0]; simp [go_sem]
  rw [← hp0]
  refine ⟨w1, (((((w1.setCell ⟨p, 0, none⟩ (.int .u32 x.1)).setCell ⟨p, 1, none⟩ (.int .u64 x.2.num)).setCell ⟨p, 2, none⟩ (.int .u32 x.2.acct)).setCell ⟨p, 3, none⟩ (.bool x.2.buy)).setCell ⟨p, 4, none⟩ (.int .i64 x.2.price)).setCell ⟨p, 5, none⟩ (.int .i64 x.2.left), by rw [hw1, hp0]; simp [go_sem], by simp [go_sem, b1, sdVF, sdOC, odC], by show hp _ _ = _; simp [go_sem, b1, sdOC, odC], ?_⟩
  exact m1.on (((((((Mod.refl (fun y => y = p) w1).setCell (.inl rfl) _ _).setCell (.inl rfl) _ _).setCell (.inl rfl) _ _).setCell (.inl rfl) _ _).setCell (.inl rfl) _ _).setCell (.inl rfl) _ _) fun y hy => .inr (by omega)
theorem sdBN {W : World} {p : Nat} {x : Int × Od} (h : SdB W p x) : (Instr.loadAt 27 (.pointer (some ⟨p, 1, none⟩))).run Tryz.prog W = .ok (.int .u64 x.2.num) W := by
  have h' : hp W p = some (.cells (sdOC x).toArray tSdF (0, 0)) := h
  simp only [sdOC, odC] at h'
  simp [go_sem, h']
theorem odBF1 (p : Nat) (W : World) : (Instr.fieldAt tOd (.pointer (some ⟨p, 1, none⟩)) 0).run Tryz.prog W = .ok (.pointer (some ⟨p, 1, none⟩)) W := by simp [go_sem]
theorem sdIt {W : World} {s : Value} {L : List (Int × Od)} (h : Rd W 6 s L.length (L.flatMap sdOC)) {i : Nat} (hi : i < L.length) :
    ∃ b off, (∀ W2 k, (Instr.indexAt 47 s (.int k (i : Int))).run Tryz.prog W2 = .ok (.pointer (some ⟨b, off, none⟩)) W2) ∧ At W b off (sdOC L[i]) := by
  obtain ⟨b, off, cap, hse, hcap, hA⟩ := h.item (show ∀ x, (sdOC x).length = 6 from fun _ => rfl) hi rfl
  exact ⟨b, off + i * 6, fun W2 k => by rw [hse]; simp [go_sem, hi, addr_add, uSdsF], hA⟩
theorem sdAt0 {W : World} {b off : Nat} {x : Int × Od} (h : At W b off (sdOC x)) : (Instr.loadAt 35 (.pointer (some ⟨b, off, none⟩))).run Tryz.prog W = .ok (.int .u32 x.1) W := by
  obtain ⟨C, e, fz, hC, hg⟩ := h.get
  have g0 := hg 0 (.int .u32 x.1) rfl
  rw [Nat.add_zero] at g0
  simp [go_sem, hp_of hC, g0]
theorem NumAt.new (W : World) : NumAt (W.alloc (.map #[] 0)) W.heap.size [] := ⟨[], MapAt.new W, fun n => rfl⟩
theorem stFl (b i : Nat) (hi : i ≤ 7) (W : World) : (Instr.fieldAt tSt (.pointer (some ⟨b, 0, none⟩)) i).run Tryz.prog W = .ok (.pointer (some ⟨b, i, none⟩)) W := by
  rcases (show i = 0 ∨ i = 1 ∨ i = 2 ∨ i = 3 ∨ i = 4 ∨ i = 5 ∨ i = 6 ∨ i = 7 by omega) with rfl | rfl | rfl | rfl | rfl | rfl | rfl | rfl <;> simp [go_sem]
theorem stLd6 {w : World} {b : Nat} {d nx fu : Int} {ss : Nat → Value} (h : StBlk w b d nx fu ss) (hs : ∀ i, 3 ≤ i → i ≤ 7 → ∃ a n c, ss i = .slice a n c) : (Instr.loadAt 47 (.pointer (some ⟨b, 6, none⟩))).run Tryz.prog w = .ok (ss 6) w ∧ (Instr.loadAt 47 (.pointer (some ⟨b, 7, none⟩))).run Tryz.prog w = .ok (ss 7) w :=
  ⟨stLdI h hs 6 (by omega) (by omega), stLdI h hs 7 (by omega) (by omega)⟩
theorem loadGone {W : World} {q : Nat} {sT sG : Value} {f l : Int} (h : hp W q = some (.cells (plC sT sG f l) 235 (0, 0))) (hT : ∃ a n c, sT = .slice a n c) (hG : ∃ a n c, sG = .slice a n c) : (Instr.fieldAt 235 (.pointer (some ⟨q, 0, none⟩)) 1).run Tryz.prog W = .ok (.pointer (some ⟨q, 1, none⟩)) W ∧ (Instr.loadAt 29 (.pointer (some ⟨q, 1, none⟩))).run Tryz.prog W = .ok sG W := by
  obtain ⟨a1, a2, a3, rfl⟩ := hT
  obtain ⟨b1, b2, b3, rfl⟩ := hG
  unfold plC at h
  exact ⟨by simp [go_sem], by simp [go_sem, h]⟩
theorem fillO_cons (x : Int × Od) (l : List (Int × Od)) (U : List Int) (S : Ven) : fillO (x :: l) U S = if S.stnd true U x = false then none
    else if (bkPlace (S.bk x.1) x.2 4).1 ≠ 0 ∨ (bkPlace (S.bk x.1) x.2 4).2.2.gone ≠ [] then none
    else fillO l (x.2.num :: U) { S with bk := upd S.bk x.1 (bkPlace (S.bk x.1) x.2 4).2.1 } := rfl
theorem fillB_cons (x : Int × Od) (l : List (Int × Od)) (pc : Option Int) (n : Int) (U : List Int) (S : Ven) : fillB (x :: l) pc n U S = if S.stnd false U x = false then none
    else if x.2.num ≤ (if pc ≠ none ∧ pc ≠ some x.1 then 0 else n) then none
    else if 50 ≤ (S.bd x.1).length then none
    else fillB l (some x.1) x.2.num (x.2.num :: U) { S with bd := upd S.bd x.1 (S.bd x.1 ++ [x.2]) } := rfl
def pcOf (l : List (Int × Od)) (i : Nat) : Option Int := if i = 0 then none else l[i - 1]?.map (·.1)
theorem pcOf_succ {l : List (Int × Od)} {i : Nat} (h : i < l.length) : pcOf l (i + 1) = some l[i].1 := by
  unfold pcOf
  rw [if_neg (by omega), Nat.add_sub_cancel, List.getElem?_eq_getElem h]
  rfl
section
variable {w : World} {K : Kont} {v c l mb md mn sb : Nat} {A : List (Int × Nat)} {D : List (Int × Value)} {fp : Pt → Nat → Prop} {S0 : Ven} {ss : Nat → Value} {s : Sta}
structure FillW (w : World) (v c l mb md mn sb : Nat) (A : List (Int × Nat)) (fp : Pt → Nat → Prop) (S0 : Ven) (ss : Nat → Value) (s : Sta) (W : World) (D' : List (Int × Value)) (U : List Int) (T : Ven) (fp' : Pt → Nat → Prop) : Prop where
  ven : VenR W v c l mb md A D' fp' T
  num : NumAt W mn U
  inv : FillI S0 T U
  st : StBlk W sb s.day s.next s.fund ss
  up : ∀ y, allP fp' y → allP fp y ∨ mn < y
  md : Mod (allP fp) w W
theorem FillW.nmn {W : World} {D' : List (Int × Value)} {U : List Int} {T : Ven} {fp' : Pt → Nat → Prop} (h : FillW w v c l mb md mn sb A fp S0 ss s W D' U T fp') (hFl : ∀ y, allP fp y → y < w.heap.size) (h1 : w.heap.size ≤ mn) : ¬ allP fp' mn := fun hc => by
  rcases h.up mn hc with h2 | h2
  · have := hFl mn h2; omega
  · omega
theorem FillW.nsb {W : World} {D' : List (Int × Value)} {U : List Int} {T : Ven} {fp' : Pt → Nat → Prop} (h : FillW w v c l mb md mn sb A fp S0 ss s W D' U T fp') (hFl : ∀ y, allP fp y → y < w.heap.size) (h1 : w.heap.size ≤ sb) (h2 : sb < mn) : ¬ allP fp' sb := fun hc => by
  rcases h.up sb hc with h3 | h3
  · have := hFl sb h3; omega
  · omega
theorem FillW.md0 {W W' : World} {D' : List (Int × Value)} {U : List Int} {T : Ven} {fp' : Pt → Nat → Prop} (h : FillW w v c l mb md mn sb A fp S0 ss s W D' U T fp') (m : Mod (fun _ => False) W W') : FillW w v c l mb md mn sb A fp S0 ss s W' D' U T fp' :=
  ⟨h.ven.md0 m, h.num.mod m id, h.inv, m.hpk h.st id, h.up, h.md.trans (m.mono fun _ _ h => h.elim)⟩
set_option maxRecDepth 10000 in
set_option maxHeartbeats 8000000 in
theorem ca_vfillB {U0 : List Int} {T0 : Ven} {fp0 : Pt → Nat → Prop} {W0 : World} (hFl : ∀ y, allP fp y → y < w.heap.size) (hs : StaR w ss s) (hf : s.Fit) (hlb : s.bids.length ≤ 100000) (hsb : w.heap.size ≤ sb) (hsm : sb < mn)
    (hap : ∀ i y, 3 ≤ i → i ≤ 7 → inRd (ss i) y → ¬ allP fp y) (h0 : FillW w v c l mb md mn sb A fp S0 ss s W0 D U0 T0 fp0)
    (hK1 : ∀ T D' fp' U w', fillB s.bids none 0 U0 T0 = some T → FillW w v c l mb md mn sb A fp S0 ss s w' D' U T fp' → K (.bool true) w')
    (hK0 : ∀ w', fillB s.bids none 0 U0 T0 = none → Mod (allP fp) w w' → K (.bool false) w') :
    LoopW (S := Value × Value × Value × Unit) (L50_5 (.int .i64 (s.bids.length : Int)) (ss 7) (.pointer (some ⟨sb, 0, none⟩)) (vptr v) (.map (some mn)) K) (.bool false, .int .u64 0, .int .i64 0, ()) W0 := by
  have hssl := hs.sl
  refine loopV (fun st W => ∃ (i : Nat) (last : Int) (D' : List (Int × Value)) (U : List Int) (T : Ven) (fp' : Pt → Nat → Prop), i ≤ s.bids.length ∧ st = (.bool false, .int .u64 last, .int .i64 i, ()) ∧ fillB s.bids none 0 U0 T0 = fillB (s.bids.drop i) (pcOf s.bids i) last U T ∧ FillW w v c l mb md mn sb A fp S0 ss s W D' U T fp')
    (fun st _ => match st.2.2.1 with | .int _ i => s.bids.length - i.toNat | _ => 0) ⟨0, 0, D, U0, T0, fp0, by omega, rfl, rfl, h0⟩ ?_
  rintro _ W ⟨i, last, D', U, T, fp', hi, rfl, hfe, hW⟩ KN hKN
  unfold L50_5
  intro _
  by_cases hlt : i < s.bids.length
  · have hlt' : (i : Int) < (s.bids.length : Int) := by omega
    refine rvS (v := .bool true) (by simp [go_sem, hlt'] <;> first | exact ⟨rfl, rfl⟩ | exact rfl) ?_
    rw [ifB_bool, if_pos rfl]
    have hR : Rd W 6 (ss 7) s.bids.length (s.bids.flatMap sdOC) := hs.bids.mod hW.md fun y hy => hap 7 y (by omega) (by omega) hy
    obtain ⟨eb, eo, ei, hA⟩ := sdIt hR hlt
    have hpcs := pcOf_succ hlt
    have hxf := hf.bids s.bids[i] (List.getElem_mem hlt)
    rw [List.drop_eq_getElem_cons hlt] at hfe
    obtain ⟨x, hx⟩ : ∃ x, x = s.bids[i] := ⟨_, rfl⟩
    rw [← hx] at hA hfe hpcs hxf
    refine rvS (ei W _) (rvS (sdLdAt hA) ?_)
    obtain ⟨w1, w2, e1, e2, b2, m2⟩ := sdVarF x W
    obtain ⟨p, hp0⟩ : ∃ p, p = W.heap.size := ⟨_, rfl⟩
    rw [← hp0] at e1 e2 b2
    refine rvS e1 (ruS e2 ?_)
    have h2 := hW.md0 m2
    obtain ⟨pc, hpc⟩ : ∃ pc, pc = pcOf s.bids i := ⟨_, rfl⟩
    rw [← hpc] at hfe
    obtain ⟨la, hla⟩ : ∃ la : Int, la = if pc ≠ none ∧ pc ≠ some x.1 then 0 else last := ⟨_, rfl⟩
    rw [fillB_cons] at hfe
    rw [← hla] at hfe
    refine JoinW.at (fun st W' => st = (.int .u64 la, ()) ∧ Mod (fun _ => False) w2 W') ?_ ?_
    · refine JoinW.at (fun st W' => st = (.bool (decide (pc ≠ none ∧ pc ≠ some x.1)), ()) ∧ Mod (fun _ => False) w2 W') ?_ ?_
      · have mdr := (Mod.refl (fun _ => False) w2).drew
        have h3 := h2.md0 mdr
        have b3 : SdB w2.drew p x := mdr.hpk b2 id
        generalize w2.drew = w3 at mdr h3 b3 ⊢
        cases i with
        | zero =>
          refine rdPS (v := .bool false) (fun W => by simp [go_sem]) ?_
          rw [ifB_bool, if_neg Bool.false_ne_true]
          have : pc = none := by rw [hpc]; rfl
          exact ⟨by simp [this], mdr⟩
        | succ j =>
          refine rdPS (v := .bool true) (fun W => by simp [go_sem] <;> omega) ?_
          rw [ifB_bool, if_pos rfl]
          have hj : j < s.bids.length := by omega
          have hR3 : Rd w3 6 (ss 7) s.bids.length (s.bids.flatMap sdOC) := hs.bids.mod h3.md fun y hy => hap 7 y (by omega) (by omega) hy
          obtain ⟨jb, jo, je, jA⟩ := sdIt hR3 hj
          have hpj := pcOf_succ hj
          rw [← hpc] at hpj
          refine rdPS (fun W => (sdBF p W).1) (rdWS (sdB0 b3) ?_)
          refine rdPS (fun W => stFl sb 7 (by omega) W) (rdWS (stLd6 h3.st hssl).2 ?_)
          refine rdPS (v := .int .i64 (j : Int)) (fun W => by simp [go_sem]; rw [wrapI (by omega) (by omega)]) ?_
          refine rdPS (fun W => je W _) ?_
          refine rdPS (v := .pointer (some ⟨jb, jo, none⟩)) (fun W => by simp [go_sem]) (rdWS (sdAt0 jA) ?_)
          refine rdPS (v := .bool (decide (x.1 ≠ s.bids[j].1))) (fun W => by simp [go_sem]; rfl) ?_
          refine ⟨?_, mdr⟩
          have e : decide (pc ≠ none ∧ pc ≠ some x.1) = decide (x.1 ≠ s.bids[j].1) := by
            rw [hpj]
            by_cases hc : x.1 = s.bids[j].1 <;> simp [hc, eq_comm]
          rw [e]
      · rintro _ w3 ⟨rfl, m3⟩
        unfold J50_2
        intro _
        by_cases hc : pc ≠ none ∧ pc ≠ some x.1
        · rw [if_pos hc] at hla
          simp only [decide_eq_true hc]
          rw [ifB_bool, if_pos rfl]
          exact ⟨by rw [hla], m3⟩
        · rw [if_neg hc] at hla
          simp only [decide_eq_false hc]
          rw [ifB_bool, if_neg Bool.false_ne_true]
          exact ⟨by rw [hla], m3⟩
    rintro _ w3 ⟨rfl, m3⟩
    unfold J50_4
    intro _
    have h3 := h2.md0 m3
    have b3 : SdB w3 p x := m3.hpk b2 id
    have hpW : W.heap.size ≤ p := by omega
    have M3 := m2.trans m3
    have hnum : mn < W.heap.size := hW.num.lt
    refine JoinW.at (fun st W' => ∃ bad, st = (.bool bad, ()) ∧ SdB W' p x ∧ (bad = true → fillB s.bids none 0 U0 T0 = none ∧ Mod (allP fp) w W') ∧ (bad = false → T.stnd false U x = true ∧ ¬ x.2.num ≤ la ∧ ¬ 50 ≤ (T.bd x.1).length ∧ VenR W' v c l mb md A D' fp' T ∧ NumAt W' mn (x.2.num :: U) ∧ Mod (fun y => y = mn) W W')) ?_ ?_
    · have mdr := (Mod.refl (fun _ => False) w3).drew
      have h4 := h3.md0 mdr
      have b4 : SdB w3.drew p x := mdr.hpk b3 id
      have M4 := M3.trans mdr
      generalize w3.drew = w4 at mdr h4 b4 M4 ⊢
      refine rdWS (sdLdAt (At.all b4)) ?_
      refine ca_vstands h4.ven h4.num (h4.nmn hFl (by omega)) (fun hst w5 v5 n5 m5 => ?_) fun hst w5 m5 => ?_
      rotate_left
      · refine rdPS (v := .bool true) (fun W => by simp [go_sem]) ?_
        rw [ifB_bool, if_pos rfl]
        rw [if_pos hst] at hfe
        exact ⟨true, rfl, m5.hpk b4 id, fun _ => ⟨hfe, h4.md.trans (m5.mono fun _ _ h => h.elim)⟩, fun h => (by cases h)⟩
      refine rdPS (v := .bool false) (fun W => by simp [go_sem]) ?_
      rw [ifB_bool, if_neg Bool.false_ne_true]
      rw [if_neg (by rw [hst]; simp)] at hfe
      have b5 : SdB w5 p x := m5.hpk b4 (by omega)
      have hm5 : Mod (allP fp) w w5 := h4.md.on m5 fun y hy => .inr (by omega)
      have hm5' : Mod (fun y => y = mn) W w5 := (M4.mono fun _ _ h => h.elim).trans m5
      refine rdPS (fun W => (sdBF p W).2) (rdPS (fun W => odBF1 p W) (rdWS (sdBN b5) ?_))
      refine rdPS (v := .bool (decide (x.2.num ≤ la))) (fun W => by simp [go_sem]) ?_
      by_cases hle : x.2.num ≤ la
      · rw [ifB_bool, if_pos (by simpa using hle)]
        rw [if_pos hle] at hfe
        exact ⟨true, rfl, b5, fun _ => ⟨hfe, hm5⟩, fun h => (by cases h)⟩
      rw [ifB_bool, if_neg (by simpa using hle)]
      rw [if_neg hle] at hfe
      simp only [vptr, nilK_ptr]
      refine rdPS (fun W => fldV 3 (by omega) W) (rdWS (ld3 _ v5.blk) ?_)
      refine rdPS (fun W => (sdBF p W).1) (rdWS (sdB0 b5) ?_)
      refine rdX_of (lookBd v5.mbd x.1) ?_
      obtain ⟨sa, sc, hsl, -⟩ := (v5.bd x.1).isSl
      refine rdWS (v := .int .i64 ((T.bd x.1).length : Int)) (by rw [hsl]; simp [go_sem]) ?_
      refine rdPS (v := .bool (decide (50 ≤ (T.bd x.1).length))) (fun _ => by simp [go_sem]; omega) ?_
      refine ⟨_, rfl, b5, fun hb => ?_, fun hb => ?_⟩
      · rw [if_pos (of_decide_eq_true hb)] at hfe
        exact ⟨hfe, hm5⟩
      · exact ⟨hst, hle, of_decide_eq_false hb, v5, n5, hm5'⟩
    rintro _ w5 ⟨bad, rfl, b5, hbt, hbf⟩
    unfold J50_3
    intro _
    cases bad with
    | true =>
      rw [ifB_bool, if_pos rfl]
      exact hK0 _ (hbt rfl).1 (hbt rfl).2
    | false =>
    rw [ifB_bool, if_neg Bool.false_ne_true]
    obtain ⟨hst, hle, h50, v5, n5, m5⟩ := hbf rfl
    rw [if_neg (by rw [hst]; simp), if_neg hle, if_neg h50] at hfe
    have hstn := stnd_ok hst
    refine rvS (sdBF p _).2 (rvS (odBF1 p _) (rvS (sdBN b5) ?_))
    have mdr := (Mod.refl (fun _ => False) w5).drew
    have v6 := v5.md0 mdr
    have n6 := n5.mod mdr id
    have b6 : SdB w5.drew p x := mdr.hpk b5 id
    have M6 : Mod (fun y => y = mn) W w5.drew := m5.trans (mdr.mono fun _ _ h => h.elim)
    generalize w5.drew = w6 at mdr v6 n6 b6 M6 ⊢
    simp only [vptr, nilK_ptr]
    refine rdPS (fun W => fldV 3 (by omega) W) (rdWS (ld3 _ v6.blk) ?_)
    refine rdPS (fun W => (sdBF p W).1) (rdWS (sdB0 b6) ?_)
    refine rdPS (fun W => fldV 3 (by omega) W) (rdWS (ld3 _ v6.blk) ?_)
    refine rdPS (fun W => (sdBF p W).1) (rdWS (sdB0 b6) ?_)
    refine rdX_of (lookBd v6.mbd x.1) ?_
    refine rdPS (fun W => (sdBF p W).2) (rdWS (sdB1 b6) ?_)
    refine litOd fun w7 g hg l7 m7 => ?_
    have v7 := v6.md0 m7
    have b7 : SdB w7 p x := m7.hpk b6 id
    refine ⟨lookBd v7.mbd x.1, sdB0 b7, ld3 _ v7.blk, sdB0 b7, ld3 _ v7.blk, ?_⟩
    refine appOd (v7.bd x.1) l7 (by omega) fun s' w8 o8 m8 n8 => ?_
    have m8' : Mod (fp' (.bd x.1)) w7 w8 := m8.mono fun y _ hy => (v7.fbd x.1 y).2 hy
    have hpn : ¬ fp' (.bd x.1) p := fun hc => by have := hW.ven.lt hc; omega
    have b8 : SdB w8 p x := m8'.hpk b7 hpn
    have blk8 := m8'.hpk v7.blk (v7.ap (by simp) _ v7.self)
    refine ⟨sdB0 b8, ld3 _ blk8, ?_⟩
    have mbd8 := v7.mbd.mod m8' (v7.ap (by simp) _ ((v7.fmd md).2 rfl))
    refine rux_mapUp (enc := encU) (ev := idV) (x := x.1) (v := s') uMapD kU32 mbd8 fun w9 a9 m9 hs9 => ?_
    have hmdF : fp' .md md := (v7.fmd md).2 rfl
    have v9 := v7.setBd (n := x.1) (alive_some hstn.alive) m8' o8 (fun y hy => (n8 y hy).imp (fun h' => (v7.fbd x.1 y).2 h') id) a9 m9
    have hnmn : ¬ allP fp' mn := hW.nmn hFl (by omega)
    have n9 : NumAt w9 mn (x.2.num :: U) := ((n6.mod m7 id).mod m8' fun hc => hnmn ⟨_, hc⟩).mod m9 fun e => hnmn ⟨_, e ▸ hmdF⟩
    have hnsb : ¬ allP fp' sb := hW.nsb hFl hsb hsm
    have t9 : StBlk w9 sb s.day s.next s.fund ss := m9.hpk (m8'.hpk (m7.hpk (M6.hpk hW.st (by omega)) id) fun hc => hnsb ⟨_, hc⟩) fun e => hnsb ⟨_, e ▸ hmdF⟩
    have hM6 := M6.size
    have hM7 := m7.size
    have hwW := hW.md.size
    have hupT : ∀ y, allP fp' y → allP fp y ∨ w.heap.size ≤ y := fun y hy => (hW.up y hy).imp id fun h => by omega
    refine rvS (v := .int .i64 ((i + 1 : Nat) : Int)) (w' := w9) (by simp [go_sem]; rw [wrapI (by omega) (by omega)]) ?_
    refine hKN _ _ ⟨i + 1, x.2.num, put D' x.1 s', x.2.num :: U, { T with bd := upd T.bd x.1 (T.bd x.1 ++ [x.2]) }, updP fp' (.bd x.1) (inSl s'), by omega, rfl, ?_, ?_⟩ (by show s.bids.length - (((i + 1 : Nat) : Int)).toNat < s.bids.length - ((i : Int)).toNat; omega)
    rotate_left 1
    · refine ⟨v9, n9, hW.inv.bid hstn hxf.2 (by omega), t9, fun y ⟨pt, hy⟩ => ?_, ?_⟩
      · by_cases hpt : pt = .bd x.1
        · subst hpt
          rw [updP_self] at hy
          rcases n8 y hy with h' | h'
          · exact hW.up y ⟨_, (v7.fbd x.1 y).2 h'⟩
          · exact .inr (by omega)
        · rw [updP_ne hpt] at hy
          exact hW.up y ⟨_, hy⟩
      · exact (((hW.md.on M6 fun y hy => .inr (by omega)).trans (m7.mono fun _ _ h => h.elim)).on m8' fun y hy => hupT y ⟨_, hy⟩).on m9 fun y hy => hupT y ⟨.md, hy ▸ hmdF⟩
    · rw [hpcs]; exact hfe
  · obtain rfl : i = s.bids.length := by omega
    refine rvS (v := .bool false) (by simp [go_sem] <;> first | exact ⟨rfl, rfl⟩ | exact rfl) ?_
    rw [ifB_bool, if_neg Bool.false_ne_true]
    rw [List.drop_length] at hfe
    exact hK1 T D' fp' U W hfe hW
set_option maxRecDepth 10000 in
set_option maxHeartbeats 8000000 in
theorem ca_vfill (h : VenR w v c l mb md A D fp S0) (hi0 : FillI S0 S0 []) (hs : StaR w ss s) (hf : s.Fit) (hlo : s.ords.length ≤ 100000) (hlb : s.bids.length ≤ 100000)
    (hap : ∀ i y, 3 ≤ i → i ≤ 7 → inRd (ss i) y → ¬ allP fp y)
    (hK1 : ∀ T D' fp' w', ((fillO s.ords [] S0).bind fun x => fillB s.bids none 0 x.1 x.2) = some T → VenR w' v c l mb md A D' fp' T → (∃ U, FillI S0 T U) → Mod (allP fp) w w' → (∀ y, allP fp' y → allP fp y ∨ w.heap.size ≤ y) → K (.bool true) w')
    (hK0 : ∀ w', ((fillO s.ords [] S0).bind fun x => fillB s.bids none 0 x.1 x.2) = none → Mod (allP fp) w w' → K (.bool false) w') : Ca Tryz.prog 50 #[vptr v, staV s ss] w K := by
  have hssl := hs.sl
  have hFl : ∀ y, allP fp y → y < w.heap.size := fun y ⟨p, hy⟩ => h.lt hy
  apply ca50
  unfold F50
  obtain ⟨w1, e1, b1, m1⟩ := boxStI s.day s.next s.fund ss w
  obtain ⟨sb, hsb⟩ : ∃ p, p = w.heap.size := ⟨_, rfl⟩
  rw [← hsb] at e1 b1
  refine rvS e1 ?_
  obtain ⟨mn, hmn⟩ : ∃ p, p = w1.heap.size := ⟨_, rfl⟩
  have hsm : sb < mn := by have := lt_of_heap b1; omega
  have m2 : Mod (fun _ => False) w1 (w1.alloc (.map #[] 0)) := (Mod.refl _ w1).alloc _
  have N2 : NumAt (w1.alloc (.map #[] 0)) mn [] := by rw [hmn]; exact NumAt.new w1
  refine rvS (v := .map (some mn)) (w' := w1.alloc (.map #[] 0)) (by rw [hmn]; simp [go_sem]) ?_
  generalize w1.alloc (.map #[] 0) = w2 at m2 N2 ⊢
  have M2 := m1.trans m2
  have b2 : StBlk w2 sb s.day s.next s.fund ss := m2.hpk b1 id
  have f2 : FillW w v c l mb md mn sb A fp S0 ss s w2 D [] S0 fp := ⟨h.md0 M2, N2, hi0, b2, fun y hy => .inl hy, M2.mono fun _ _ h => h.elim⟩
  refine rvS (stFl sb 6 (by omega) _) (rvS (stLd6 b2 hssl).1 ?_)
  obtain ⟨oa, oc, ho6⟩ := hs.ords.isSl
  refine rnS (v := .int .i64 (s.ords.length : Int)) (w' := w2) (by rw [ho6]; simp [go_sem]) ?_
  refine loopV (fun st W => ∃ (i : Nat) (U : List Int) (T : Ven) (fp' : Pt → Nat → Prop), i ≤ s.ords.length ∧ st = (.bool false, .int .i64 i, ()) ∧ fillO s.ords [] S0 = fillO (s.ords.drop i) U T ∧ FillW w v c l mb md mn sb A fp S0 ss s W D U T fp')
    (fun st _ => match st.2.1 with | .int _ i => s.ords.length - i.toNat | _ => 0) ⟨0, [], S0, fp, by omega, rfl, rfl, f2⟩ ?_
  rintro _ W ⟨i, U, T, fp', hi, rfl, hfe, hW⟩ KN hKN
  unfold L50_6
  intro _
  by_cases hlt : i < s.ords.length
  · have hlt' : (i : Int) < (s.ords.length : Int) := by omega
    refine rvS (v := .bool true) (by simp [go_sem, hlt'] <;> first | exact ⟨rfl, rfl⟩ | exact rfl) ?_
    rw [ifB_bool, if_pos rfl]
    have hR : Rd W 6 (ss 6) s.ords.length (s.ords.flatMap sdOC) := hs.ords.mod hW.md fun y hy => hap 6 y (by omega) (by omega) hy
    obtain ⟨eb, eo, ei, hA⟩ := sdIt hR hlt
    have hxf := hf.ords s.ords[i] (List.getElem_mem hlt)
    rw [List.drop_eq_getElem_cons hlt] at hfe
    obtain ⟨x, hx⟩ : ∃ x, x = s.ords[i] := ⟨_, rfl⟩
    rw [← hx] at hA hfe hxf
    refine rvS (ei W _) (rvS (sdLdAt hA) ?_)
    obtain ⟨w1', w3, e1', e3, b3, m3⟩ := sdVarF x W
    obtain ⟨p, hp0⟩ : ∃ p, p = W.heap.size := ⟨_, rfl⟩
    rw [← hp0] at e1' e3 b3
    refine rvS e1' (ruS e3 ?_)
    have h3 := hW.md0 m3
    obtain ⟨X, hX⟩ : ∃ X, X = bkPlace (T.bk x.1) x.2 4 := ⟨_, rfl⟩
    rw [fillO_cons] at hfe
    rw [← hX] at hfe
    refine rvS (sdLdAt (At.all b3)) ?_
    have hnmn : ¬ allP fp' mn := hW.nmn hFl (by omega)
    have hnsb : ¬ allP fp' sb := hW.nsb hFl (by omega) hsm
    have hnum : mn < W.heap.size := hW.num.lt
    refine ca_vstands h3.ven h3.num hnmn (fun hst w4 v4 n4 m4 => ?_) fun hst w4 m4 => ?_
    rotate_left
    · refine rvS (v := .bool true) (w' := w4) (by simp [go_sem]) ?_
      rw [ifB_bool, if_pos rfl]
      rw [if_pos hst] at hfe
      exact hK0 w4 (by rw [hfe]; rfl) (h3.md.trans (m4.mono fun _ _ h => h.elim))
    refine rvS (v := .bool false) (w' := w4) (by simp [go_sem]) ?_
    rw [ifB_bool, if_neg Bool.false_ne_true]
    rw [if_neg (by rw [hst]; simp)] at hfe
    have hstn := stnd_ok hst
    have b4 : SdB w4 p x := m4.hpk b3 (by omega)
    have M4 : Mod (fun y => y = mn) W w4 := (m3.mono fun _ _ h => h.elim).trans m4
    obtain ⟨b, hb, -⟩ := lkB v4 (n := x.1) (alive_some hstn.alive)
    refine JoinW.at (fun st W' => ∃ r sT sG G, st = (.pointer (some ⟨r, 0, none⟩), .int .i64 X.1, ()) ∧ hp W' r = some (.cells (plC sT sG X.2.2.filled X.2.2.left) 235 (0, 0)) ∧ VenR W' v c l mb md A D (updP fp' (.bk x.1) G) { T with bk := upd T.bk x.1 X.2.1 } ∧ (∃ a n c, sT = .slice a n c) ∧ (∃ a c, sG = .slice a X.2.2.gone.length c) ∧
      Mod (fp' (.bk x.1)) w4 W' ∧ (∀ y, G y → fp' (.bk x.1) y ∨ w4.heap.size ≤ y)) ?_ ?_
    · have mdr := (Mod.refl (fun _ => False) w4).drew
      have v6 := v4.md0 mdr
      have b6 : SdB w4.drew p x := mdr.hpk b4 id
      have hs6 : w4.drew.heap.size = w4.heap.size := rfl
      rw [← hs6]
      have md' : Mod (fp' (.bk x.1)) w4 w4.drew := mdr.mono fun _ _ h => h.elim
      generalize w4.drew = w6 at mdr v6 b6 md' hs6 ⊢
      have hB := v6.bk x.1 b hb
      simp only [vptr, nilK_ptr]
      refine rdPS (fun W => fldV 2 (by omega) W) (rdWS (ld2 _ v6.blk) ?_)
      refine rdPS (fun W => (sdBF p W).1) (rdWS (sdB0 b6) ?_)
      refine rdX_of (lookBk v6.mbk hb) ?_
      refine rdPS (fun W => (sdBF p W).2) (rdWS (sdB1 b6) ?_)
      refine ⟨?_, ?_⟩
      · refine ca_placeQ hB hxf.2 ⟨by omega, by omega⟩ fun G sT sG w7 q7 p7 m7 n7 s7 => ?_
        rw [← hX] at q7 p7 ⊢
        refine rdPS (v := .agg (plC sT sG X.2.2.filled X.2.2.left)) (fun _ => by simp [go_sem]) ?_
        refine rdPS (v := .int .i64 X.1) (fun _ => by simp [go_sem]) ?_
        obtain ⟨w8, e8, b8, m8⟩ := allocPl w7
        refine rvS e8 ?_
        obtain ⟨r, hr0⟩ : ∃ r, r = w7.heap.size := ⟨_, rfl⟩
        rw [← hr0] at b8 ⊢
        obtain ⟨ta, tc, hsT, -⟩ := p7.tr.isSl
        obtain ⟨ga, gc, hsG, -⟩ := p7.go.isSl
        obtain ⟨w9, e9, b9, m9⟩ := storePl sT sG X.2.2.filled X.2.2.left b8 ⟨_, _, _, hsT⟩ ⟨_, _, _, hsG⟩
        refine ruS e9 ?_
        have M79 : Mod (fun _ => False) w7 w9 := m8.on m9 fun b hb => .inr (by omega)
        exact ⟨r, sT, sG, G, rfl, b9, (v6.setBk hb m7 q7 n7).md0 M79, ⟨_, _, _, hsT⟩, ⟨_, _, hsG⟩, (md'.trans m7).trans (M79.mono fun _ _ h => h.elim), n7⟩
      · obtain ⟨w7, e7, b7, m7⟩ := allocPl w6
        refine rvS e7 ?_
        obtain ⟨r, hr0⟩ : ∃ r, r = w6.heap.size := ⟨_, rfl⟩
        rw [← hr0] at b7 ⊢
        have v7 := v6.md0 m7
        have b7' : SdB w7 p x := m7.hpk b6 id
        refine ⟨sdB1 b7', lookBk v7.mbk hb, sdB0 b7', ld2 _ v7.blk, ?_⟩
        have hs67 := m7.size
        have hrl : r < w7.heap.size := lt_of_heap b7
        refine ca_placeQ (v7.bk x.1 b hb) hxf.2 ⟨by omega, by omega⟩ fun G sT sG w8 q8 p8 m8 n8 s8 => ?_
        rw [← hX] at q8 p8 ⊢
        refine rdPS (v := .agg (plC sT sG X.2.2.filled X.2.2.left)) (fun _ => by simp [go_sem]) ?_
        refine rdPS (v := .int .i64 X.1) (fun _ => by simp [go_sem]) ?_
        obtain ⟨ta, tc, hsT, -⟩ := p8.tr.isSl
        obtain ⟨ga, gc, hsG, -⟩ := p8.go.isSl
        have hrF : ∀ pt, ¬ fp' pt r := fun pt hc => by have := v6.lt hc; omega
        obtain ⟨w9, e9, b9, m9⟩ := storePl sT sG X.2.2.filled X.2.2.left (m8.hpk b7 (hrF _)) ⟨_, _, _, hsT⟩ ⟨_, _, _, hsG⟩
        refine ruS e9 ?_
        have v8 := v7.setBk hb m8 q8 n8
        refine ⟨r, sT, sG, G, rfl, b9, v8.mod m9 fun pt y hy e => ?_, ⟨_, _, _, hsT⟩, ⟨_, _, hsG⟩, (((md'.trans (m7.mono fun _ _ h => h.elim)).trans m8).on m9 fun y hy => .inr (by omega)), fun y hy => (n8 y hy).imp id (fun h' => by omega)⟩
        subst e
        by_cases hpt : pt = .bk x.1
        · subst hpt
          rw [updP_self] at hy
          rcases n8 y hy with h' | h'
          · exact hrF _ h'
          · omega
        · rw [updP_ne hpt] at hy; exact hrF _ hy
    rintro _ w6 ⟨r, sT, sG, G, rfl, i1, v6, iT, ⟨ga, gc, hsG⟩, m6, hG⟩
    unfold J50_1
    intro _
    have hbad : (if X.1 ≠ 0 ∨ X.2.2.gone ≠ [] then (none : Option (List Int × Ven)) else fillO (s.ords.drop (i + 1)) (x.2.num :: U) { T with bk := upd T.bk x.1 X.2.1 }) = fillO s.ords [] S0 := hfe.symm
    have hM4 := M4.size
    have hupT : ∀ y, allP fp' y → allP fp y ∨ w.heap.size ≤ y := fun y hy => (hW.up y hy).imp id fun h => by have := m1.size; omega
    have M6 : Mod (allP fp) w w6 := (hW.md.on M4 fun y hy => .inr (by have := m1.size; omega)).on m6 fun y hy => hupT y ⟨_, hy⟩
    refine JoinW.at (fun st W' => st = (.bool (decide (X.1 ≠ 0 ∨ X.2.2.gone ≠ [])), ()) ∧ W' = w6) ?_ ?_
    · by_cases hX1 : X.1 ≠ 0
      · refine rvS (v := .bool true) (w' := w6) (by simp [go_sem, hX1]) ?_
        rw [ifB_bool, if_pos rfl]
        exact ⟨by simp [hX1], rfl⟩
      have hX0 : X.1 = 0 := by simpa using hX1
      refine rvS (v := .bool false) (w' := w6) (by simp [go_sem, hX0]) ?_
      rw [ifB_bool, if_neg Bool.false_ne_true]
      refine rvS (loadGone i1 iT ⟨_, _, _, hsG⟩).1 (rvS (loadGone i1 iT ⟨_, _, _, hsG⟩).2 ?_)
      refine rnS (v := .int .i64 (X.2.2.gone.length : Int)) (w' := w6) (by rw [hsG]; simp [go_sem]) ?_
      refine rvS (v := .bool (decide (X.1 ≠ 0 ∨ X.2.2.gone ≠ []))) (w' := w6) ?_ ⟨rfl, rfl⟩
      cases hgn : X.2.2.gone with
      | nil => simp [go_sem, hX0]
      | cons a b => simp [go_sem, hX0] <;> omega
    rintro _ w6' ⟨rfl, hee⟩
    subst hee
    unfold J50_0
    intro _
    by_cases hc : X.1 ≠ 0 ∨ X.2.2.gone ≠ []
    · simp only [decide_eq_true hc]
      rw [ifB_bool, if_pos rfl]
      rw [if_pos hc] at hbad
      exact hK0 _ (by rw [← hbad]; rfl) M6
    simp only [decide_eq_false hc]
    rw [ifB_bool, if_neg Bool.false_ne_true]
    rw [if_neg hc] at hbad
    refine rvS (v := .int .i64 ((i + 1 : Nat) : Int)) (w' := w6') (by simp [go_sem]; rw [wrapI (by omega) (by omega)]) ?_
    refine hKN _ _ ⟨i + 1, x.2.num :: U, { T with bk := upd T.bk x.1 X.2.1 }, updP fp' (.bk x.1) G, by omega, rfl, hbad.symm, ?_⟩ (by show s.ords.length - (((i + 1 : Nat) : Int)).toNat < s.ords.length - ((i : Int)).toNat; omega)
    have hinv := hW.inv.order hstn hxf.2 (Classical.byContradiction fun hcc => hc (.inl (by rw [hX]; exact hcc)))
    rw [← hX] at hinv
    refine ⟨v6, n4.mod m6 fun hcc => hnmn ⟨_, hcc⟩, hinv, m6.hpk (M4.hpk hW.st (by omega)) fun hcc => hnsb ⟨_, hcc⟩, fun y ⟨pt, hy⟩ => ?_, M6⟩
    by_cases hpt : pt = .bk x.1
    · subst hpt
      rw [updP_self] at hy
      rcases hG y hy with h' | h'
      · exact hW.up y ⟨_, h'⟩
      · exact .inr (by omega)
    · rw [updP_ne hpt] at hy
      exact hW.up y ⟨_, hy⟩
  · obtain rfl : i = s.ords.length := by omega
    refine rvS (v := .bool false) (by simp [go_sem] <;> first | exact ⟨rfl, rfl⟩ | exact rfl) ?_
    rw [ifB_bool, if_neg Bool.false_ne_true]
    rw [List.drop_length] at hfe
    have hfo : fillO s.ords [] S0 = some (U, T) := hfe
    refine rvS (stFl sb 7 (by omega) _) (rvS (stLd6 hW.st hssl).2 ?_)
    obtain ⟨ba, bc, hb7⟩ := hs.bids.isSl
    refine rnS (v := .int .i64 (s.bids.length : Int)) (w' := W) (by rw [hb7]; simp [go_sem]) ?_
    have hbind : ((fillO s.ords [] S0).bind fun x => fillB s.bids none 0 x.1 x.2) = fillB s.bids none 0 U T := by rw [hfo]; rfl
    rw [hbind] at hK1 hK0
    refine ca_vfillB hFl hs hf hlb (by omega) hsm hap hW (fun T' D' fp'' U' w' e hw => ?_) hK0
    exact hK1 T' D' fp'' w' e hw.ven ⟨U', hw.inv⟩ hw.md fun y hy => (hw.up y hy).imp id fun h => by have := m1.size; omega
end
end Go.Proofs
namespace Go.Proofs
open Go Go.Vc
attribute [local congr] Ca_congV
theorem wr_add1 {i : Nat} (h : i < 4294967296) : IntKind.i64.wrap ((i : Int) + 1) = ((i + 1 : Nat) : Int) := by rw [IntKind.wrap_i64]; omega
theorem lfAc {w : World} {s : Value} {l : List Ac} (h : Rd w 4 s l.length (l.flatMap cellsAc)) {i : Nat} (hi : i < l.length) :
    ∃ b off cap C e fz, s = .slice (some ⟨b, off, none⟩) l.length cap ∧ hp w b = some (.cells C e fz) ∧ C[off + i * 4]? = some (.int .u32 l[i].num) ∧ C[off + (i * 4 + 1)]? = some (.int .i64 l[i].cash) ∧ C[off + (i * 4 + 2)]? = some (.bool l[i].kil) ∧ C[off + (i * 4 + 3)]? = some (.bool l[i].dfl) := by
  obtain ⟨b, off, cap, e, -, hA⟩ := h.item (show ∀ x, (cellsAc x).length = 4 from fun _ => rfl) hi rfl
  obtain ⟨C, e', fz, hC, hCg⟩ := hA.get
  refine ⟨b, off, cap, C, e', fz, e, hC, hCg 0 _ rfl, ?_, ?_, ?_⟩
  · have := hCg 1 _ rfl; rwa [Nat.add_assoc] at this
  · have := hCg 2 _ rfl; rwa [Nat.add_assoc] at this
  · have := hCg 3 _ rfl; rwa [Nat.add_assoc] at this
theorem lfPo {w : World} {s : Value} {l : List Po} (h : Rd w 4 s l.length (l.flatMap cellsPo)) {i : Nat} (hi : i < l.length) :
    ∃ b off cap C e fz, s = .slice (some ⟨b, off, none⟩) l.length cap ∧ hp w b = some (.cells C e fz) ∧ C[off + i * 4]? = some (.int .u32 l[i].c) ∧ C[off + (i * 4 + 1)]? = some (.int .u32 l[i].a) ∧ C[off + (i * 4 + 2)]? = some (.int .i64 l[i].q) ∧ C[off + (i * 4 + 3)]? = some (.int .i64 l[i].b) := by
  obtain ⟨b, off, cap, e, -, hA⟩ := h.item (show ∀ x, (cellsPo x).length = 4 from fun _ => rfl) hi rfl
  obtain ⟨C, e', fz, hC, hCg⟩ := hA.get
  refine ⟨b, off, cap, C, e', fz, e, hC, hCg 0 _ rfl, ?_, ?_, ?_⟩
  · have := hCg 1 _ rfl; rwa [Nat.add_assoc] at this
  · have := hCg 2 _ rfl; rwa [Nat.add_assoc] at this
  · have := hCg 3 _ rfl; rwa [Nat.add_assoc] at this
theorem rv_ok' {P : Program} {s : Sem Value} {w : World} {K : Kont} {v : Value} {w' : World} (h : s.run P w = .ok v w') (hK : K v w') : rv P s w K := by
  rw [rv_iff]; unfold rvD; rw [h]; exact hK
theorem take_snoc {α : Type} {A : List α} {i : Nat} (hi : i < A.length) : A.take (i + 1) = A.take i ++ [A[i]] := by
  rw [List.take_add_one, List.getElem?_eq_getElem hi]; rfl
theorem takeA_sum {A : List Ac} {i : Nat} (hi : i < A.length) : ((A.take (i + 1)).map (·.cash)).sum = ((A.take i).map (·.cash)).sum + A[i].cash := by
  rw [take_snoc hi, List.map_append, List.sum_append]; simp
theorem PA.sum {A : List Ac} (h : PA A) (hl : A.length ≤ 64) : 0 ≤ (A.map (·.cash)).sum ∧ (A.map (·.cash)).sum ≤ 64000000000000000 := by
  have h1 := sum_bd2 (l := A.map (·.cash)) (B := 1000000000000000) fun x hx => by
    obtain ⟨a, ha, rfl⟩ := List.mem_map.1 hx
    have := amongB_iff'.1 (h.num a ha).2
    simp only [MF] at this; omega
  rw [List.length_map] at h1
  have h0 : 0 ≤ (A.map (·.cash)).sum := by
    clear h1 hl
    have : ∀ x ∈ A.map (·.cash), 0 ≤ x := fun x hx => by
      obtain ⟨a, ha, rfl⟩ := List.mem_map.1 hx
      exact (amongB_iff'.1 (h.num a ha).2).1
    generalize A.map (·.cash) = l at this
    induction l with
    | nil => simp
    | cons x l ih =>
      have h1 := this x List.mem_cons_self
      have h2 := ih fun y hy => this y (List.mem_cons_of_mem _ hy)
      rw [List.sum_cons]; omega
  omega
set_option maxRecDepth 10000 in
set_option maxHeartbeats 1000000 in
theorem ca_people {w : World} {f : Int} {v : Value} {A : List Ac} {K : Kont} (hA : Rd w 4 v A.length (A.flatMap cellsAc)) (hn : A.length < 4294967296)
    (hK : ∀ b w', Mod (fun _ => False) w w' → (b = true ↔ A.length ≤ 64 ∧ amongB f 0 MF = true ∧ PA A ∧ f + (A.map (·.cash)).sum ≤ MF) → K (.bool b) w') :
    Ca Tryz.prog 129 #[.int .i64 f, v] w K := by
  obtain ⟨va, vc, rfl⟩ := hA.isSl
  apply ca129
  unfold F129
  refine JoinW.at (fun s W => s = (.bool (decide (64 < A.length) || !amongB f 0 MF), ()) ∧ W = w) ?_ ?_
  · by_cases hl : 64 < A.length
    · have hl' : (64 : Int) < (A.length : Int) := by omega
      simp [go_sem, hl, hl']
    · have hl' : ¬ (64 : Int) < (A.length : Int) := by omega
      simp [go_sem, hl, hl']
      refine ca_within ?_
      simp [go_sem, MF]
  rintro _ w' ⟨rfl, rfl⟩
  unfold J129_2
  intro _
  by_cases hbad : (decide (64 < A.length) || !amongB f 0 MF) = true
  · rw [hbad]
    simp only [ifB_bool, if_true]
    refine hK false _ (Mod.refl _ _) ⟨fun h => (by cases h), fun h => ?_⟩
    obtain ⟨h1, h2, -, -⟩ := h
    rw [h2] at hbad
    simp at hbad; omega
  rw [Bool.eq_false_iff.2 hbad]
  simp only [ifB_bool, Bool.false_eq_true, if_false]
  have hl : A.length ≤ 64 := by
    apply Classical.byContradiction; intro h; apply hbad; simp; left; omega
  have hf : amongB f 0 MF = true := by
    cases hh : amongB f 0 MF with
    | true => rfl
    | false => exact absurd (by rw [hh]; simp) hbad
  have hfb := amongB_iff'.1 hf
  simp only [MF] at hfb
  clear hbad
  simp [go_sem]
  refine loopK (fun s W => ∃ (i : Nat) (last : Int) (x : Value), i ≤ A.length ∧ s = (.int .i64 (f + ((A.take i).map (·.cash)).sum), x, .int .u32 last, .int .i64 i, ()) ∧ AInv (A.take i) last ∧ Mod (fun _ => False) w' W)
    (fun s _ => match s.2.2.2.1 with | .int _ i => A.length - i.toNat | _ => 0) ⟨0, 0, .bool false, by omega, by simp, AInv.nil, Mod.refl _ _⟩ ?_
  rintro ⟨_, _⟩ W ⟨i, last, x, hi, ⟨⟩, hinv, mW⟩ KN hKN
  unfold L129_1
  intro _
  by_cases hlt : i < A.length
  · obtain ⟨b, off, cap, C, e', fz, e, hC, c0, c1, c2, c3⟩ := lfAc (hA.mod mW fun _ _ h => h) hlt
    cases e
    have hw := wr_add1 (i := i) (by omega)
    refine rv_ok' (v := .bool true) (w' := W) (by simp [go_sem, hlt]) ?_
    rw [ifB_bool, if_pos rfl]
    simp [-Int.natCast_add, go_sem, hlt, hC, c0, c1, c2, c3]
    generalize hw1 : W.alloc _ = W1
    have mw1 : Mod (fun _ => False) W W1 := by subst hw1; exact (Mod.refl _ W).alloc _
    have hloc : hp W1 W.heap.size = some (.cells #[.int .u32 A[i].num, .int .i64 A[i].cash, .bool A[i].kil, .bool A[i].dfl] 92 (0, 0)) := by subst hw1; simp [go_sem]
    refine JoinW.at (fun s W' => s = (.bool (decide (A[i].num ≤ last) || !amongB A[i].cash 0 MF), ()) ∧ W' = W1) ?_ ?_
    · by_cases h1 : A[i].num ≤ last
      · simp [go_sem, hp_of hloc, h1]
      · simp [go_sem, hp_of hloc, h1]
        refine ca_within ?_
        simp [go_sem, MF]
    rintro _ _ ⟨rfl, rfl⟩
    unfold J129_0
    intro _
    by_cases hbad : (decide (A[i].num ≤ last) || !amongB A[i].cash 0 MF) = true
    · rw [hbad]
      simp only [ifB_bool, if_true]
      refine hK false _ (mW.trans mw1) ⟨fun h => (by cases h), fun h => ?_⟩
      refine absurd h.2.2.1 (AInv.bad hlt hinv ?_)
      rw [Bool.or_eq_true, decide_eq_true_eq] at hbad
      rcases hbad with h | h
      · exact .inl h
      · exact .inr (by simpa using h)
    · rw [Bool.eq_false_iff.2 hbad]
      have h1 : last < A[i].num := by
        apply Classical.byContradiction; intro h; apply hbad; simp; left; omega
      have h2 : amongB A[i].cash 0 MF = true := by
        cases hh : amongB A[i].cash 0 MF with
        | true => rfl
        | false => exact absurd (by rw [hh]; simp) hbad
      have hinv' := hinv.step h1 h2
      rw [← take_snoc hlt] at hinv'
      have hs := hinv'.pa.sum (by rw [List.length_take]; omega)
      have hws : IntKind.i64.wrap (f + ((A.take i).map (·.cash)).sum + A[i].cash) = f + ((A.take (i + 1)).map (·.cash)).sum := by
        rw [takeA_sum hlt] at hs ⊢
        rw [IntKind.wrap_i64]; omega
      simp only [ifB_bool, Bool.false_eq_true, if_false]
      simp [-Int.natCast_add, -List.map_take, go_sem, hp_of hloc]
      rw [← List.map_take, hws, hw]
      exact hKN _ _ ⟨i + 1, _, _, by omega, rfl, hinv', mW.trans mw1⟩ (by simp; omega)
  · obtain rfl : i = A.length := by omega
    clear hKN
    rw [List.take_of_length_le (Nat.le_refl _)] at hinv ⊢
    refine rv_ok' (v := .bool false) (w' := W) (by simp [go_sem]) ?_
    rw [ifB_bool, if_neg Bool.false_ne_true]
    simp [-Int.natCast_add, go_sem]
    refine hK _ _ mW ⟨fun h => ⟨hl, hf, hinv.pa, ?_⟩, fun h => ?_⟩
    · simpa [MF] using h
    · have := h.2.2.2
      simpa [MF] using this
end Go.Proofs
