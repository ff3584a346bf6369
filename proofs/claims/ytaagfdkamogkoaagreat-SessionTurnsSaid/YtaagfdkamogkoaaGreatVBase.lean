/-
  Aids of the walks: single steps, slices of slices, copies, literals of bytes.
  Conditions: where they ask for any, each theorem names them; nothing here speaks of a program.
-/
import Derived.Test.YtaagfdkamogkoaaGreatVcIterN
import Derived.Test.YtaagfdkamogkoaaGreatVcMore
import Derived.Test.YtaagfdkamogkoaaGreatVcRange
set_option linter.unusedVariables false
set_option linter.unusedSimpArgs false
namespace Go.Vc
open Go

theorem loopV {S : Type} {body : S → World → (S → World → Prop) → Prop} {s : S} {w : World} (I : S → World → Prop) (m : S → World → Nat) (h0 : I s w)
    (h : ∀ s w, I s w → ∀ KN : S → World → Prop, (∀ s' w', I s' w' → m s' w' < m s w → KN s' w') → body s w KN) : LoopW body s w :=
  ⟨⟨I, m, h0, fun s w hi => h s w hi _ fun _ _ h1 h2 => ⟨h1, h2⟩⟩⟩
theorem Ca_congV {P : Program} {f : FuncId} {args args' : Array Value} {w w' : World} {K : Kont} (h1 : args = args') (h2 : w = w') : Ca P f args w K = Ca P f args' w' K := by subst h1 h2; rfl

/-! ### Single steps -/

theorem rvS {P : Program} {s : Sem Value} {w : World} {K : Kont} {v : Value} {w' : World} (h : s.run P w = .ok v w') (hK : K v w') : rv P s w K := by
  rw [rv_iff]; unfold rvD; rw [h]; exact hK
theorem ruS {P : Program} {s : Sem Unit} {w : World} {K : World → Prop} {w' : World} (h : s.run P w = .ok () w') (hK : K w') : ru P s w K := by
  rw [ru_iff]; unfold ruD; rw [h]; exact hK
theorem rnS {P : Program} {s : Sem Next} {w : World} {K : Kont} {v : Value} {w' : World} (h : s.run P w = .ok (.value v) w') (hK : K v w') : rn P s w K := by
  rw [rn_iff]; unfold rnD; rw [h]; exact hK
theorem rdWS {P : Program} {s : Sem Value} {w : World} {K : Value → Prop} {v : Value} (h : s.run P w = .ok v w) (hK : K v) : rdW P s w K := by
  rw [rdW_iff]; unfold rdWD; rw [h]; exact ⟨rfl, hK⟩
theorem rdPS {P : Program} {s : Sem Value} {K : Value → Prop} {v : Value} (h : ∀ w, s.run P w = .ok v w) (hK : K v) : rdP P s K := ⟨⟨v, h, hK⟩⟩

/-! ### Slices of slices -/

theorem elem_slice {P : Program} {t e : TypeId} (h : P.underlying t = some (.slice e)) : P.underlying t = some (.slice (P.elem t)) ∧ P.elem t = e := by
  have : P.elem t = e := by simp [Program.elem, h]
  rw [this]; exact ⟨h, rfl⟩

theorem Rd.part {P : Program} {t e : TypeId} {w : World} {sz n : Nat} {v : Value} {cs : List Value} (hu : P.underlying t = some (.slice e)) (hc : P.cellsOf e = sz + 1) (h : Rd w (sz + 1) v n cs)
    {lo hi : Nat} (h1 : lo ≤ hi) (h2 : hi ≤ n) (kl kh : IntKind) :
    ∃ v', (∀ W, (Instr.sliceAt t v (some (.int kl (lo : Int))) (some (.int kh (hi : Int))) none).run P W = .ok v' W) ∧ Rd w (sz + 1) v' (hi - lo) ((cs.drop (lo * (sz + 1))).take ((hi - lo) * (sz + 1))) ∧ (∀ b, inRd v' b → inRd v b) := by
  obtain ⟨hE, he⟩ := elem_slice hu
  obtain ⟨hl, hv⟩ := h
  obtain ⟨a, cap, rfl, hcap⟩ : ∃ a cap, v = .slice a n cap ∧ (n ≤ cap ∨ n = 0) := by
    rcases hv with ⟨rfl, a, c, rfl⟩ | ⟨b, off, cap, rfl, hc, _⟩
    · exact ⟨a, c, rfl, .inr rfl⟩
    · exact ⟨_, cap, rfl, .inl hc⟩
  have hcap' : hi ≤ cap := by rcases hcap with h | h <;> omega
  refine ⟨sliced a lo hi cap (sz + 1), fun W => ?_, ?_, ?_⟩
  · rw [run_sliceAt_slice W t _ _ _ _ hE, run_slice_lh W t a n cap hE kl kh lo hi (by omega) (by omega) (by omega), he, run_sizeOf hc]
    simp [Result.andThen]
  · refine ⟨?_, ?_⟩
    · rw [List.length_take, List.length_drop, hl]
      have := Nat.mul_le_mul_right (sz + 1) h2
      rw [Nat.sub_mul]; omega
    · by_cases h0 : hi - lo = 0
      · left
        exact ⟨h0, _, _, by unfold sliced; rw [h0]⟩
      · rcases hv with ⟨hn0, _⟩ | ⟨b, off, cap', he', hc', hA⟩
        · omega
        injection he' with e1 e2 e3
        subst e1; subst e3
        right
        refine ⟨b, off + lo * (sz + 1), cap - lo, ?_, by omega, ?_⟩
        · unfold sliced
          rw [if_neg (by omega)]
          simp [addr_add]
        · have := hA.sub (lo * (sz + 1)) ((hi - lo) * (sz + 1)) (by
            rw [hl, ← Nat.add_mul]
            exact Nat.mul_le_mul_right _ (by omega))
          exact this
  · rintro b ⟨a', m, c', hs, hm, rfl⟩
    unfold sliced at hs
    injection hs with e1 e2 e3
    by_cases hcl : cap = lo
    · rw [if_pos hcl] at e1
      exact ⟨a', n, cap, by rw [e1], by omega, rfl⟩
    · rw [if_neg hcl] at e1
      cases a with
      | none => cases e1
      | some a0 =>
        simp only [Option.map_some, Option.some.injEq] at e1
        refine ⟨a0, n, cap, rfl, by omega, ?_⟩
        rcases hv with ⟨hn0, _⟩ | ⟨b, off, cap', he', hc', hA⟩
        · omega
        · injection he' with e4
          injection e4 with e4
          subst e4
          rw [← e1, addr_add]
/-- The same, from a place on. -/
theorem Rd.from_ {P : Program} {t e : TypeId} {w : World} {sz n : Nat} {v : Value} {cs : List Value} (hu : P.underlying t = some (.slice e)) (hc : P.cellsOf e = sz + 1) (h : Rd w (sz + 1) v n cs)
    {lo : Nat} (h1 : lo ≤ n) (kl : IntKind) :
    ∃ v', (∀ W, (Instr.sliceAt t v (some (.int kl (lo : Int))) none none).run P W = .ok v' W) ∧ Rd w (sz + 1) v' (n - lo) (cs.drop (lo * (sz + 1))) ∧ (∀ b, inRd v' b → inRd v b) := by
  obtain ⟨v', hr, hd, hb⟩ := h.part hu hc h1 (Nat.le_refl n) kl .i64
  obtain ⟨hE, he⟩ := elem_slice hu
  refine ⟨v', fun W => ?_, ?_, hb⟩
  · rw [← hr W]
    obtain ⟨hl, hv⟩ := h
    obtain ⟨a, cap, rfl, hcap⟩ : ∃ a cap, v = .slice a n cap ∧ (n ≤ cap ∨ n = 0) := by
      rcases hv with ⟨rfl, a, c, rfl⟩ | ⟨b, off, cap, rfl, hc, _⟩
      · exact ⟨a, c, rfl, .inr rfl⟩
      · exact ⟨_, cap, rfl, .inl hc⟩
    have hcap' : n ≤ cap := by rcases hcap with h | h <;> omega
    rw [run_sliceAt_slice W t _ _ _ _ hE, run_sliceAt_slice W t _ _ _ _ hE, run_slice_lh W t a n cap hE kl .i64 lo n (by omega) (by omega) (by omega), run_slice_l W t a n cap hE kl lo (by omega) (by omega)]
    rfl
  · have e : (cs.drop (lo * (sz + 1))).take ((n - lo) * (sz + 1)) = cs.drop (lo * (sz + 1)) := by
      rw [List.take_of_length_le]
      rw [List.length_drop, h.1, Nat.sub_mul]; omega
    rwa [e] at hd

theorem Rd.byte {w : World} {v : Value} {n : Nat} {l : List UInt8} (h : Rd w 1 v n (bv l)) {i : Nat} (hi : i < n) (hl : i < l.length) :
    ∃ b off cap C e fz, v = .slice (some ⟨b, off, none⟩) n cap ∧ n ≤ cap ∧ hp w b = some (.cells C e fz) ∧ C[off + i]? = some (.int .u8 (l[i].toNat : Int)) := by
  obtain ⟨_, ⟨h0, _⟩ | ⟨b, off, cap, rfl, hc, hA⟩⟩ := h
  · omega
  · obtain ⟨C, e, fz, hC, hg⟩ := hA.get
    exact ⟨b, off, cap, C, e, fz, rfl, hc, hC, hg i _ (by rw [bv, List.getElem?_map, List.getElem?_eq_getElem hl]; rfl)⟩
theorem Rd.len_eq {w : World} {v : Value} {n : Nat} {l : List UInt8} (h : Rd w 1 v n (bv l)) : l.length = n := by simpa using h.1

/-- append([]T{}, x...) -/
theorem dupV {P : Program} {t e : TypeId} {sz by_ m : Nat} {w : World} {x : Value} {news : List Value} {K : Kont} (ht : P.underlying t = some (.slice e)) (hE : ElemT P e sz by_) (hx : Rd w sz x m news) (h1 : news.all (·.oneCell') = true) (hb : m * by_ ≤ 140737488355328)
    (hK : ∀ s' w', Own w' e sz s' m news → Mod (fun _ => False) w w' → (∀ b, inSl s' b → w.heap.size ≤ b) → K s' w') :
    rx P (xLit t 0 []) w fun v w1 => rx P (xAppend #[t, t] t [v, x]) w1 K := by
  refine rx_lit [] ht hE rfl rfl (by simp) (by omega) ?_
  have mA : ∀ o, Mod (fun _ => False) w (w.alloc o) := fun o => (Mod.refl _ w).alloc o
  refine rx_append (n := 0) (m := m) (cs := []) ht ht hE ?_ (hx.mod (mA _) fun _ _ h => h) h1 (by rw [Nat.zero_add]; exact hb) fun s' w' o' m' n' => ?_
  · refine ⟨by simp, .inr ⟨w.heap.size, 0, [], rfl, Nat.le_refl _, ?_, by simp⟩⟩
    rw [heap_alloc, if_pos rfl]
    simp
  · have hS : ∀ b, inSl (.slice (some ⟨w.heap.size, 0, none⟩) 0 0) b → w.heap.size ≤ b := fun b hb => by
      simp only [inSl, slBlk] at hb
      have := Option.some.inj hb
      omega
    refine hK s' w' (by simpa using o') ((mA _).on m' fun b hb => .inr (hS b hb)) fun b hb => ?_
    rcases n' b hb with h | h
    · exact hS b h
    · rw [World.size_alloc] at h; omega

theorem bv_cellsV : ∀ us : List UInt8, (bv us).flatMap (·.cells.toList) = bv us
  | [] => rfl
  | u :: us => by
    show (Value.cells (Value.int .u8 u.toNat)).toList ++ (bv us).flatMap (fun v => v.cells.toList) = _
    rw [bv_cellsV us]
    rfl
/-- A literal of some bytes. -/
theorem litV {P : Program} {t e : TypeId} {w : World} {K : Kont} {n : Nat} {parts : List (Nat × Value)} (us : List UInt8) (ht : P.underlying t = some (.slice e)) (hE : ElemT P e 1 1) (hpa : parts = us.zipIdx.map fun p => (p.2, .int .u8 p.1.toNat)) (hn : us.length = n) (hb : n ≤ 1000)
    (hK : ∀ v w', Own w' e 1 v n (bv us) → Mod (fun _ => False) w w' → (∀ b, inSl v b → w.heap.size ≤ b ∧ b < w'.heap.size) → K v w') : rx P (xLit t n parts) w K := by
  have e' : parts = (bv us).zipIdx.map fun p => (p.2, p.1) := by
    rw [hpa, bv, List.zipIdx_map, List.map_map]
    rfl
  have hf := bv_cellsV us
  refine rx_lit (bv us) ht hE e' (by simpa using hn) (fun v hv => by
    obtain ⟨u, _, rfl⟩ := List.mem_map.1 hv
    rfl) (by omega) ?_
  rw [hf]
  refine hK _ _ ⟨by simpa using hn, .inr ⟨_, n, [], rfl, Nat.le_refl _, by show hp _ _ = _; simp [go_sem], by simp, by simp⟩⟩ ((Mod.refl _ w).alloc _) fun b hb => ?_
  have : b = w.heap.size := by cases hb; rfl
  rw [World.size_alloc]
  omega
theorem Mod.hpk {F : Nat → Prop} {w w' : World} (h : Mod F w w') {b : Nat} {o : Obj} (ho : hp w b = some o) (hf : ¬ F b) : hp w' b = some o := h.keep ho hf
theorem wrapI {n : Int} (h0 : -9223372036854775808 ≤ n) (h1 : n < 9223372036854775808) : IntKind.i64.wrap n = n := by rw [IntKind.wrap_i64]; omega
theorem wrapU {n : Int} (h0 : 0 ≤ n) (h1 : n < 18446744073709551616) : IntKind.u64.wrap n = n := by rw [IntKind.wrap_u64]; omega
end Go.Vc
