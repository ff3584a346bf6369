/-
  The contracts of the document's wire: Nat, Text, and its reader's calls.
  Conditions: where they ask for any, each theorem names them.
-/
import Derived.Test.YtaagfdkamogkoaaGreatWireB
set_option linter.unusedVariables false
set_option linter.unusedSimpArgs false
namespace Go.Proofs
open Go Go.Vc
attribute [local congr] Ca_congV

/-- A document's reader at r: what is left of the bytes l, that lie at v. -/
structure RrAt (w : World) (r : Nat) (v : Value) (l : List UInt8) (s : Rs) : Prop where
  out : ∃ vB, hp w r = some (.cells #[vB, .int .i64 s.e] 49 (0, 0)) ∧ Rd w 1 vB (l.length - s.at_) (bv (l.drop s.at_)) ∧ ∀ b, inRd vB b → inRd v b
  le : s.at_ ≤ l.length
  ne : ¬ inRd v r
  len : l.length ≤ 1000000000
  rd : Rd w 1 v l.length (bv l)
theorem RrAt.mod {F : Nat → Prop} {w w' : World} {r : Nat} {v : Value} {l : List UInt8} {s : Rs} (h : RrAt w r v l s) (hm : Mod F w w') (h1 : ¬ F r) (h2 : ∀ b, inRd v b → ¬ F b) : RrAt w' r v l s := by
  obtain ⟨⟨vB, hb, hd, hi⟩, h3, h4, h5, h6⟩ := h
  exact ⟨⟨vB, hm.keep hb h1, hd.mod hm fun b hb => h2 b (hi b hb), hi⟩, h3, h4, h5, h6.mod hm h2⟩

def natRV (l : List UInt8) : Value :=
  match rdN l 0 0 with
  | .error e => .tuple #[.int .u64 0, .int .i64 0, .int .i64 e]
  | .ok (n, k) => .tuple #[.int .u64 n, .int .i64 k, .int .i64 0]

theorem valN_drop : ∀ (l : List UInt8) (j : Nat), valN (l.drop j) ≤ valN l
  | [], j => by simp
  | x :: r, 0 => Nat.le_refl _
  | x :: r, j + 1 => by
    have := valN_drop r j
    simp only [List.drop_succ_cons, valN]; omega

theorem ctn_step {L : List UInt8} {k : Nat} (hk : k ≤ ctn L) (hlt : k < L.length) : (128 ≤ (L[k]).toNat → k + 1 ≤ ctn L) ∧ (¬ 128 ≤ (L[k]).toNat → ctn L = k) := by
  induction L generalizing k with
  | nil => simp at hlt
  | cons x r ih =>
    by_cases hx : x.toNat < 128
    · have hc : ctn (x :: r) = 0 := by simp only [ctn]; rw [if_pos hx]
      rw [hc] at hk ⊢
      obtain rfl : k = 0 := by omega
      simp only [List.getElem_cons_zero]
      exact ⟨fun h => absurd h (by omega), fun _ => by trivial⟩
    · have hc : ctn (x :: r) = ctn r + 1 := by simp only [ctn]; rw [if_neg hx]
      rw [hc] at hk ⊢
      cases k with
      | zero => simp only [List.getElem_cons_zero]; omega
      | succ k =>
        have := ih (k := k) (by omega) (by simpa using hlt)
        simp only [List.getElem_cons_succ]
        omega

set_option maxRecDepth 10000 in
theorem ca_natR {w : World} {K : Kont} {r : Nat} {v : Value} {l : List UInt8} {s : Rs} (h : RrAt w r v l s) (hK : K (natRV (l.drop s.at_)) w) : Ca Tryz.prog 32 #[rptr r] w K := by
  obtain ⟨⟨vB, hb, hd, hi⟩, hle, -, hlen, -⟩ := h
  obtain ⟨L, hL⟩ : ∃ L, L = l.drop s.at_ := ⟨_, rfl⟩
  rw [← hL] at hd hK
  have hLl : L.length = l.length - s.at_ := by rw [hL]; simp
  rw [← hLl] at hd
  obtain ⟨a, c, hvB⟩ := hd.isSl
  have hlen1 : L.length ≤ 1000000000 := by omega
  unfold natRV at hK
  rw [rdN_eq_ref] at hK
  apply ca32
  unfold F32
  refine loopV (fun st W => ∃ k : Nat, k ≤ ctn L ∧ k ≤ L.length ∧ st = (.int .i64 (k : Int), ()) ∧ W = w)
    (fun st _ => match st.1 with | .int _ i => L.length - i.toNat | _ => 0) ⟨0, by omega, by omega, rfl, rfl⟩ ?_
  rintro ⟨_, _⟩ W ⟨k, hk, hkl, ⟨⟩, rfl⟩ KN hKN
  unfold L32_3
  intro _
  -- the byte at a place
  have byteAt : ∀ i : Nat, ∀ hi : i < L.length, ∃ p, (∀ kk : IntKind, (Instr.indexAt tBs vB (.int kk (i : Int))).run Tryz.prog W = .ok p W) ∧ (Instr.loadAt 5 p).run Tryz.prog W = .ok (.int .u8 ((L[i]).toNat : Int)) W := by
    intro i hi
    obtain ⟨b, off, cap, C, e, fz, hv2, hcap, hC, hCi⟩ := hd.byte (i := i) hi hi
    refine ⟨.pointer (some ⟨b, off + i, none⟩), fun kk => ?_, ?_⟩
    · rw [hv2]; simp [go_sem, hi, addr_add, uBs]
    · simp [go_sem, hC, hCi]
  have fld : (Instr.fieldAt 49 (.pointer (some ⟨r, 0, none⟩)) 0).run Tryz.prog W = .ok (.pointer (some ⟨r, 0, none⟩)) W := by simp [go_sem]
  have lod : (Instr.loadAt tBs (.pointer (some ⟨r, 0, none⟩))).run Tryz.prog W = .ok vB W := by simp [go_sem, hb]
  refine JoinW.at (fun st W' => st = (.bool (decide (k < ctn L)), ()) ∧ W' = W) ?_ ?_
  · simp only [rptr, nilK_ptr]
    refine rvS fld (rvS lod ?_)
    refine rnS (v := .int .i64 L.length) (w' := W) (by rw [hvB]; simp [go_sem]) ?_
    by_cases hlt : k < L.length
    · obtain ⟨p, h1, h2⟩ := byteAt k hlt
      refine rvS (v := .bool true) (w' := W) (by simp [go_sem, hlt]) ?_
      rw [ifB_bool, if_pos rfl]
      refine rvS fld (rvS lod (rvS (h1 _) (rvS h2 ?_)))
      refine rvS (v := .bool (decide ((128 : Int) ≤ ((L[k]).toNat : Int)))) (w' := W) (by simp [go_sem]) ?_
      refine ⟨?_, rfl⟩
      have := ctn_step hk hlt
      have e : decide ((128 : Int) ≤ ((L[k]).toNat : Int)) = decide (k < ctn L) := by rw [decide_eq_decide]; omega
      rw [e]
    · have hck := ctn_le L
      refine rvS (v := .bool false) (w' := W) (by simp [go_sem, hlt]) ?_
      rw [ifB_bool, if_neg Bool.false_ne_true]
      have : ¬ k < ctn L := by omega
      simp [this]
  rintro _ W ⟨rfl, rfl⟩
  unfold J32_2
  intro _
  by_cases hkc : k < ctn L
  · rw [ifB_bool, if_pos (by simpa using hkc)]
    have hck := ctn_le L
    refine rvS (v := .int .i64 ((k + 1 : Nat) : Int)) (w' := W) (by simp [go_sem]; rw [wrapI (by omega) (by omega)]) ?_
    refine hKN _ _ ⟨k + 1, by omega, by omega, rfl, rfl⟩ ?_
    show L.length - (((k + 1 : Nat) : Int)).toNat < L.length - ((k : Int)).toNat
    omega
  rw [ifB_bool, if_neg (by simpa using hkc)]
  obtain rfl : k = ctn L := by omega
  clear hKN
  simp only [rptr, nilK_ptr]
  refine rvS fld (rvS lod ?_)
  refine rnS (v := .int .i64 L.length) (w' := W) (by rw [hvB]; simp [go_sem]) ?_
  unfold refN at hK
  by_cases hend : L.length ≤ ctn L
  · rw [if_pos hend] at hK
    refine rvS (v := .bool true) (w' := W) (by simp [go_sem, hend]) ?_
    rw [ifB_bool, if_pos rfl]
    by_cases h10 : 10 ≤ ctn L
    · rw [if_pos h10] at hK
      have h10' : (10 : Int) ≤ (ctn L : Int) := by omega
      refine rvS (v := .bool true) (w' := W) (by simp [go_sem, h10']) ?_
      rw [ifB_bool, if_pos rfl]
      exact hK
    · rw [if_neg h10] at hK
      have h10' : ¬ (10 : Int) ≤ (ctn L : Int) := by omega
      refine rvS (v := .bool false) (w' := W) (by simp [go_sem, h10']) ?_
      rw [ifB_bool, if_neg Bool.false_ne_true]
      exact hK
  rw [if_neg hend] at hK
  have hlt : ctn L < L.length := by omega
  refine rvS (v := .bool false) (w' := W) (by simp [go_sem, hend]) ?_
  rw [ifB_bool, if_neg Bool.false_ne_true]
  obtain ⟨pk, hpk1, hpk2⟩ := byteAt (ctn L) hlt
  have hgk : L.getD (ctn L) 0 = L[ctn L] := by simp [hlt]
  have zk : ∀ J41 : Value × Unit → World → Prop, J41 (.bool (decide (0 < ctn L ∧ (L.getD (ctn L) 0).toNat = 0)), ()) W →
      (rv Tryz.prog (bin .gtr 3 true (.int .i64 (ctn L : Int)) (.int .i64 0)) W fun v70 w71 =>
        ifB v70
          (nilK (.pointer (some ⟨r, 0, none⟩)) fun v72 => rv Tryz.prog (Instr.fieldAt 49 v72 0) w71 fun v73 w74 =>
            rv Tryz.prog (Instr.loadAt tBs v73) w74 fun v75 w76 =>
            rv Tryz.prog (Instr.indexAt tBs v75 (.int .i64 (ctn L : Int))) w76 fun v77 w78 =>
            rv Tryz.prog (Instr.loadAt 5 v77) w78 fun v79 w80 =>
            rv Tryz.prog (bin .eql 5 true v79 (.int .u8 0)) w80 fun v81 w82 => J41 (v81, ()) w82)
          (J41 (.bool false, ()) w71)) := by
    intro J41 hJ
    by_cases h0 : 0 < ctn L
    · refine rvS (v := .bool true) (w' := W) (by simp [go_sem, h0]) ?_
      rw [ifB_bool, if_pos rfl]
      simp only [nilK_ptr]
      refine rvS fld (rvS lod (rvS (hpk1 _) (rvS hpk2 ?_)))
      refine rvS (v := .bool (decide ((L[ctn L]).toNat = 0))) (w' := W) ?_ ?_
      · have e : ((L[ctn L]).toNat = 0) ↔ L[ctn L] = 0 := ⟨fun h => UInt8.toNat_inj.1 h, fun h => by rw [h]; rfl⟩
        simp [go_sem, e]
        rw [Bool.eq_iff_iff]
        simp only [beq_iff_eq, decide_eq_true_eq]
        rw [← e]
        omega
      rw [hgk] at hJ
      simpa [h0] using hJ
    · refine rvS (v := .bool false) (w' := W) (by simp [go_sem, h0]) ?_
      rw [ifB_bool, if_neg Bool.false_ne_true]
      simpa [h0] using hJ
  refine JoinW.at (fun st W' => st = (.bool (decide (9 < ctn L ∨ ctn L = 9 ∧ 1 < (L.getD 9 0).toNat ∨ 0 < ctn L ∧ (L.getD (ctn L) 0).toNat = 0)), ()) ∧ W' = W) ?_ ?_
  · by_cases h9 : 9 < ctn L
    · have h9' : (9 : Int) < (ctn L : Int) := by omega
      refine rvS (v := .bool true) (w' := W) (by simp [go_sem, h9']) ?_
      rw [ifB_bool, if_pos rfl]
      simp [h9]
    · have h9' : ¬ (9 : Int) < (ctn L : Int) := by omega
      refine rvS (v := .bool false) (w' := W) (by simp [go_sem, h9']) ?_
      rw [ifB_bool, if_neg Bool.false_ne_true]
      by_cases he9 : ctn L = 9
      · have he9' : (ctn L : Int) = 9 := by omega
        refine rvS (v := .bool true) (w' := W) (by simp [go_sem, he9']) ?_
        rw [ifB_bool, if_pos rfl]
        have hlt9 : 9 < L.length := by omega
        obtain ⟨p9, hp1, hp2⟩ := byteAt 9 hlt9
        have hg9 : L.getD 9 0 = L[9] := by simp [hlt9]
        refine rvS fld (rvS lod (rvS (hp1 .i64) (rvS hp2 ?_)))
        refine rvS (v := .bool (decide (1 < (L[9]).toNat))) (w' := W) ?_ ?_
        · simp only [go_sem]
          simp
          omega
        by_cases h1 : 1 < (L[9]).toNat
        · rw [ifB_bool, if_pos (by simpa using h1)]
          refine ⟨?_, rfl⟩
          rw [hg9]
          simp [he9, h1]
        · rw [ifB_bool, if_neg (by simpa using h1)]
          refine zk (fun st W' => st = _ ∧ W' = W) ⟨?_, rfl⟩
          rw [hg9]
          simp [h9, h1]
      · have he9' : ¬ (ctn L : Int) = 9 := by omega
        refine rvS (v := .bool false) (w' := W) (by simp [go_sem, he9']) ?_
        rw [ifB_bool, if_neg Bool.false_ne_true]
        refine zk (fun st W' => st = _ ∧ W' = W) ⟨?_, rfl⟩
        simp [h9, he9]
  rintro _ W ⟨rfl, rfl⟩
  unfold J32_1
  intro _
  by_cases hbad : 9 < ctn L ∨ ctn L = 9 ∧ 1 < (L.getD 9 0).toNat ∨ 0 < ctn L ∧ (L.getD (ctn L) 0).toNat = 0
  · rw [ifB_bool, if_pos (by simpa using hbad)]
    rw [if_pos hbad] at hK
    exact hK
  rw [ifB_bool, if_neg (by simpa using hbad)]
  have hok : rdN L 0 0 = .ok (valN (L.take (ctn L + 1)), ctn L + 1) := by
    rw [rdN_eq_ref]; unfold refN; rw [if_neg hend, if_neg hbad]
  rw [if_neg hbad] at hK
  have hmax := (rdN_form hok).2.2.2
  obtain ⟨X, hX⟩ : ∃ X, X = L.take (ctn L + 1) := ⟨_, rfl⟩
  rw [← hX] at hmax hK
  have hXl : X.length = ctn L + 1 := by rw [hX, List.length_take]; omega
  refine loopV (fun st W' => ∃ j : Nat, j ≤ ctn L + 1 ∧ st = (.int .u64 (valN (X.drop j) : Int), .int .i64 ((j : Int) - 1), ()) ∧ W' = W)
    (fun st _ => match st.2.1 with | .int _ i => (i + 1).toNat | _ => 0) ⟨ctn L + 1, by omega, by rw [List.drop_eq_nil_of_le (by omega)]; simp [valN], rfl⟩ ?_
  rintro ⟨_, _⟩ W' ⟨j, hj, ⟨⟩, rfl⟩ KN hKN
  unfold L32_0
  intro _
  by_cases hj0 : j = 0
  · subst hj0
    refine rvS (v := .bool false) (w' := W') (by simp [go_sem]) ?_
    rw [ifB_bool, if_neg Bool.false_ne_true]
    refine rvS (v := .int .i64 ((ctn L + 1 : Nat) : Int)) (w' := W') (by simp [go_sem]; rw [wrapI (by omega) (by omega)]) ?_
    exact hK
  · obtain ⟨i, rfl⟩ : ∃ i, j = i + 1 := ⟨j - 1, by omega⟩
    have hiL : i < L.length := by omega
    obtain ⟨p, hp1, hp2⟩ := byteAt i hiL
    have e1 : (((i + 1 : Nat) : Int) - 1) = (i : Int) := by omega
    rw [e1]
    have hgi : X[i]'(by omega) = L[i] := by simp [hX]
    have hdr : X.drop i = L[i] :: X.drop (i + 1) := by rw [List.drop_eq_getElem_cons (by omega), hgi]
    have hv : valN (X.drop i) = (L[i]).toNat % 128 + 128 * valN (X.drop (i + 1)) := by rw [hdr]; rfl
    have hle2 := valN_drop X i
    refine rvS (v := .bool true) (w' := W') (by simp [go_sem]) ?_
    rw [ifB_bool, if_pos rfl]
    refine rvS (v := .int .u64 ((valN (X.drop (i + 1)) * 128 : Nat) : Int)) (w' := W') (by simp [go_sem]; rw [wrapU (by omega) (by omega)]) ?_
    simp only [nilK_ptr]
    refine rvS fld (rvS lod (rvS (hp1 _) (rvS hp2 ?_)))
    have hx := (L[i]).toNat_lt
    refine rvS (v := .int .u64 ((L[i]).toNat : Int)) (w' := W') (by simp [go_sem]; rw [wrapU (by omega) (by omega)]) ?_
    refine rvS (v := .int .u64 (((L[i]).toNat % 128 : Nat) : Int)) (w' := W') (by simp [go_sem]; try rw [Int.tmod_eq_emod_of_nonneg (by omega)]) ?_
    refine rvS (v := .int .u64 (valN (X.drop i) : Int)) (w' := W') (by simp only [go_sem]; simp; rw [wrapU (by omega) (by omega)]; omega) ?_
    refine rvS (v := .int .i64 ((i : Int) - 1)) (w' := W') (by simp [go_sem]; rw [wrapI (by omega) (by omega)]) ?_
    refine hKN _ _ ⟨i, by omega, rfl, rfl⟩ ?_
    show ((i : Int) - 1 + 1).toNat < (((i + 1 : Nat) : Int) - 1 + 1).toNat
    omega
end Go.Proofs
