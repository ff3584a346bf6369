/- Part of a proof. -/
import Derived.Test.YtgebhcgmckjbbaaGreatProg
import Derived.Test.YtgebhcgmckjbbaaGreatI4
set_option linter.all false
namespace Go.Vc
open Go
theorem loopV {S : Type} {body : S → World → (S → World → Prop) → Prop} {s : S} {w : World} (I : S → World → Prop) (m : S → World → Nat) (h0 : I s w)
    (h : ∀ s w, I s w → ∀ KN : S → World → Prop, (∀ s' w', I s' w' → m s' w' < m s w → KN s' w') → body s w KN) : LoopW body s w :=
  ⟨⟨I, m, h0, fun s w hi => h s w hi _ fun _ _ h1 h2 => ⟨h1, h2⟩⟩⟩
theorem Ca_congV {P : Program} {f : FuncId} {args args' : Array Value} {w w' : World} {K : Kont} (h1 : args = args') (h2 : w = w') : Ca P f args w K = Ca P f args' w' K := by subst h1 h2; rfl
theorem rvS {P : Program} {s : Sem Value} {w : World} {K : Kont} {v : Value} {w' : World} (h : s.run P w = .ok v w') (hK : K v w') : rv P s w K := by
  rw [rv_iff]; unfold rvD; rw [h]; exact hK
theorem ruS {P : Program} {s : Sem Unit} {w : World} {K : World → Prop} {w' : World} (h : s.run P w = .ok () w') (hK : K w') : ru P s w K := by
  rw [ru_iff]; unfold ruD; rw [h]; exact hK
theorem rnS {P : Program} {s : Sem Next} {w : World} {K : Kont} {v : Value} {w' : World} (h : s.run P w = .ok (.value v) w') (hK : K v w') : rn P s w K := by
  rw [rn_iff]; unfold rnD; rw [h]; exact hK
theorem rdWS {P : Program} {s : Sem Value} {w : World} {K : Value → Prop} {v : Value} (h : s.run P w = .ok v w) (hK : K v) : rdW P s w K := by
  rw [rdW_iff]; unfold rdWD; rw [h]; exact ⟨rfl, hK⟩
theorem rdPS {P : Program} {s : Sem Value} {K : Value → Prop} {v : Value} (h : ∀ w, s.run P w = .ok v w) (hK : K v) : rdP P s K := ⟨⟨v, h, hK⟩⟩
theorem elem_slice {P : Program} {t e : TypeId} (h : P.underlying t = some (.slice e)) : P.underlying t = some (.slice (P.elem t)) ∧ P.elem t = e := by
  have : P.elem t = e := by simp [Program.elem, h]
  rw [this]; exact ⟨h, rfl⟩
theorem Rd.part {P : Program} {t e : TypeId} {w : World} {sz n : Nat} {v : Value} {cs : List Value} (hu : P.underlying t = some (.slice e)) (hc : P.cellsOf e = sz + 1) (h : Rd w (sz + 1) v n cs)
    {lo hi : Nat} (h1 : lo ≤ hi) (h2 : hi ≤ n) (kl kh : IntKind) :
    ∃ v', (∀ W, (Instr.sliceAt t v (some (.int kl (lo : Int))) (some (.int kh (hi : Int))) none).run P W = .ok v' W) ∧ Rd w (sz + 1) v' (hi - lo) ((cs.drop (lo * (sz + 1))).take ((hi - lo) * (sz + 1))) ∧ (∀ b, inRd v' b → inRd v b) := by
  obtain ⟨hE, he⟩ := elem_slice hu
  obtain ⟨hl, hv⟩ := h
  obtain ⟨a, cap, rfl, hcap⟩ : ∃ a cap, v = .slice a n cap ∧ (n ≤ cap ∨ n = 0) := by
    rcases hv with ⟨rfl, a, c, rfl⟩ | ⟨b, off, cap, rfl, hc, _⟩
    · exact ⟨a, c, rfl, .inr rfl⟩
    · exact ⟨_, cap, rfl, .inl hc⟩
  have hcap' : hi ≤ cap := by rcases hcap with h | h <;> omega
  refine ⟨sliced a lo hi cap (sz + 1), fun W => ?_, ?_, ?_⟩
  · rw [run_sliceAt_slice W t _ _ _ _ hE, run_slice_lh W t a n cap hE kl kh lo hi (by omega) (by omega) (by omega), he, run_sizeOf hc]
    simp [Result.andThen]
  · refine ⟨?_, ?_⟩
    · rw [List.length_take, List.length_drop, hl]
      have := Nat.mul_le_mul_right (sz + 1) h2
      rw [Nat.sub_mul]; omega
    · by_cases h0 : hi - lo = 0
      · left
        exact ⟨h0, _, _, by unfold sliced; rw [h0]⟩
      · rcases hv with ⟨hn0, _⟩ | ⟨b, off, cap', he', hc', hA⟩
        · omega
        injection he' with e1 e2 e3
        subst e1; subst e3
        right
        refine ⟨b, off + lo * (sz + 1), cap - lo, ?_, by omega, ?_⟩
        · unfold sliced
          rw [if_neg (by omega)]
          simp [addr_add]
        · have := hA.sub (lo * (sz + 1)) ((hi - lo) * (sz + 1)) (by
            rw [hl, ← Nat.add_mul]
            exact Nat.mul_le_mul_right _ (by omega))
          exact this
  · rintro b ⟨a', m, c', hs, hm, rfl⟩
    unfold sliced at hs
    injection hs with e1 e2 e3
    by_cases hcl : cap = lo
    · rw [if_pos hcl] at e1
      exact ⟨a', n, cap, by rw [e1], by omega, rfl⟩
    · rw [if_neg hcl] at e1
      cases a with
      | none => cases e1
      | some a0 =>
        simp only [Option.map_some, Option.some.injEq] at e1
        refine ⟨a0, n, cap, rfl, by omega, ?_⟩
        rcases hv with ⟨hn0, _⟩ | ⟨b, off, cap', he', hc', hA⟩
        · omega
        · injection he' with e4
          injection e4 with e4
          subst e4
          rw [← e1, addr_add]
theorem Rd.from_ {P : Program} {t e : TypeId} {w : World} {sz n : Nat} {v : Value} {cs : List Value} (hu : P.underlying t = some (.slice e)) (hc : P.cellsOf e = sz + 1) (h : Rd w (sz + 1) v n cs)
    {lo : Nat} (h1 : lo ≤ n) (kl : IntKind) :
    ∃ v', (∀ W, (Instr.sliceAt t v (some (.int kl (lo : Int))) none none).run P W = .ok v' W) ∧ Rd w (sz + 1) v' (n - lo) (cs.drop (lo * (sz + 1))) ∧ (∀ b, inRd v' b → inRd v b) := by
  obtain ⟨v', hr, hd, hb⟩ := h.part hu hc h1 (Nat.le_refl n) kl .i64
  obtain ⟨hE, he⟩ := elem_slice hu
  refine ⟨v', fun W => ?_, ?_, hb⟩
  · rw [← hr W]
    obtain ⟨hl, hv⟩ := h
    obtain ⟨a, cap, rfl, hcap⟩ : ∃ a cap, v = .slice a n cap ∧ (n ≤ cap ∨ n = 0) := by
      rcases hv with ⟨rfl, a, c, rfl⟩ | ⟨b, off, cap, rfl, hc, _⟩
      · exact ⟨a, c, rfl, .inr rfl⟩
      · exact ⟨_, cap, rfl, .inl hc⟩
    have hcap' : n ≤ cap := by rcases hcap with h | h <;> omega
    rw [run_sliceAt_slice W t _ _ _ _ hE, run_sliceAt_slice W t _ _ _ _ hE, run_slice_lh W t a n cap hE kl .i64 lo n (by omega) (by omega) (by omega), run_slice_l W t a n cap hE kl lo (by omega) (by omega)]
    rfl
  · have e : (cs.drop (lo * (sz + 1))).take ((n - lo) * (sz + 1)) = cs.drop (lo * (sz + 1)) := by
      rw [List.take_of_length_le]
      rw [List.length_drop, h.1, Nat.sub_mul]; omega
    rwa [e] at hd
theorem Rd.byte {w : World} {v : Value} {n : Nat} {l : List UInt8} (h : Rd w 1 v n (bv l)) {i : Nat} (hi : i < n) (hl : i < l.length) :
    ∃ b off cap C e fz, v = .slice (some ⟨b, off, none⟩) n cap ∧ n ≤ cap ∧ hp w b = some (.cells C e fz) ∧ C[off + i]? = some (.int .u8 (l[i].toNat : Int)) := by
  obtain ⟨_, ⟨h0, _⟩ | ⟨b, off, cap, rfl, hc, hA⟩⟩ := h
  · omega
  · obtain ⟨C, e, fz, hC, hg⟩ := hA.get
    exact ⟨b, off, cap, C, e, fz, rfl, hc, hC, hg i _ (by rw [bv, List.getElem?_map, List.getElem?_eq_getElem hl]; rfl)⟩
theorem dupV {P : Program} {t e : TypeId} {sz by_ m : Nat} {w : World} {x : Value} {news : List Value} {K : Kont} (ht : P.underlying t = some (.slice e)) (hE : ElemT P e sz by_) (hx : Rd w sz x m news) (h1 : news.all (·.oneCell') = true) (hb : m * by_ ≤ 140737488355328)
    (hK : ∀ s' w', Own w' e sz s' m news → Mod (fun _ => False) w w' → (∀ b, inSl s' b → w.heap.size ≤ b) → K s' w') :
    rx P (xLit t 0 []) w fun v w1 => rx P (xAppend #[t, t] t [v, x]) w1 K := by
  refine rx_lit [] ht hE rfl rfl (by simp) (by omega) ?_
  have mA : ∀ o, Mod (fun _ => False) w (w.alloc o) := fun o => (Mod.refl _ w).alloc o
  refine rx_append (n := 0) (m := m) (cs := []) ht ht hE ?_ (hx.mod (mA _) fun _ _ h => h) h1 (by rw [Nat.zero_add]; exact hb) fun s' w' o' m' n' => ?_
  · refine ⟨by simp, .inr ⟨w.heap.size, 0, [], rfl, Nat.le_refl _, ?_, by simp⟩⟩
    rw [heap_alloc, if_pos rfl]
    simp
  · have hS : ∀ b, inSl (.slice (some ⟨w.heap.size, 0, none⟩) 0 0) b → w.heap.size ≤ b := fun b hb => by
      simp only [inSl, slBlk] at hb
      have := Option.some.inj hb
      omega
    refine hK s' w' (by simpa using o') ((mA _).on m' fun b hb => .inr (hS b hb)) fun b hb => ?_
    rcases n' b hb with h | h
    · exact hS b h
    · rw [World.size_alloc] at h; omega
theorem bv_cellsV : ∀ us : List UInt8, (bv us).flatMap (·.cells.toList) = bv us
  | [] => rfl
  | u :: us => by
    show (Value.cells (Value.int .u8 u.toNat)).toList ++ (bv us).flatMap (fun v => v.cells.toList) = _
    rw [bv_cellsV us]
    rfl
theorem litV {P : Program} {t e : TypeId} {w : World} {K : Kont} {n : Nat} {parts : List (Nat × Value)} (us : List UInt8) (ht : P.underlying t = some (.slice e)) (hE : ElemT P e 1 1) (hpa : parts = us.zipIdx.map fun p => (p.2, .int .u8 p.1.toNat)) (hn : us.length = n) (hb : n ≤ 1000)
    (hK : ∀ v w', Own w' e 1 v n (bv us) → Mod (fun _ => False) w w' → (∀ b, inSl v b → w.heap.size ≤ b ∧ b < w'.heap.size) → K v w') : rx P (xLit t n parts) w K := by
  have e' : parts = (bv us).zipIdx.map fun p => (p.2, p.1) := by
    rw [hpa, bv, List.zipIdx_map, List.map_map]
    rfl
  have hf := bv_cellsV us
  refine rx_lit (bv us) ht hE e' (by simpa using hn) (fun v hv => by
    obtain ⟨u, _, rfl⟩ := List.mem_map.1 hv
    rfl) (by omega) ?_
  rw [hf]
  refine hK _ _ ⟨by simpa using hn, .inr ⟨_, n, [], rfl, Nat.le_refl _, by show hp _ _ = _; simp [go_sem], by simp, by simp⟩⟩ ((Mod.refl _ w).alloc _) fun b hb => ?_
  have : b = w.heap.size := by cases hb; rfl
  rw [World.size_alloc]
  omega
theorem Mod.hpk {F : Nat → Prop} {w w' : World} (h : Mod F w w') {b : Nat} {o : Obj} (ho : hp w b = some o) (hf : ¬ F b) : hp w' b = some o := h.keep ho hf
theorem wrapI {n : Int} (h0 : -9223372036854775808 ≤ n) (h1 : n < 9223372036854775808) : IntKind.i64.wrap n = n := by rw [IntKind.wrap_i64]; omega
theorem wrapU {n : Int} (h0 : 0 ≤ n) (h1 : n < 18446744073709551616) : IntKind.u64.wrap n = n := by rw [IntKind.wrap_u64]; omega
end Go.Vc
namespace Go.Vc
def natB (n : Nat) : List UInt8 := if n < 128 then [UInt8.ofNat n] else UInt8.ofNat (n % 128 + 128) :: natB (n / 128)
termination_by n
decreasing_by omega
theorem natB_lt {n : Nat} (h : n < 128) : natB n = [UInt8.ofNat n] := by rw [natB, if_pos h]
theorem natB_ge {n : Nat} (h : ¬ n < 128) : natB n = UInt8.ofNat (n % 128 + 128) :: natB (n / 128) := by rw [natB, if_neg h]
theorem natB_len : ∀ (k n : Nat), n < 128 ^ (k + 1) → (natB n).length ≤ k + 1
  | 0, n, h => by rw [natB_lt (by simpa using h)]; simp
  | k + 1, n, h => by
    by_cases h1 : n < 128
    · rw [natB_lt h1]; simp
    · rw [natB_ge h1]
      have := natB_len k (n / 128) (by rw [Nat.div_lt_iff_lt_mul (by decide)]; rw [Nat.pow_succ] at h; exact h)
      simp only [List.length_cons]; omega
theorem natB_len10 {n : Nat} (h : n < 18446744073709551616) : (natB n).length ≤ 10 := natB_len 9 n (Nat.lt_of_lt_of_le h (by decide))
theorem u8_of {n : Nat} (h : n < 256) : (UInt8.ofNat n).toNat = n := by simp; omega
def rdN : List UInt8 → Nat → Nat → Except Nat (Nat × Nat)
  | [], _, _ => .error 4
  | x :: r, k, acc =>
    if k = 9 ∧ 1 < x.toNat ∨ 9 < k then .error 5
    else if x.toNat < 128 then (if x.toNat = 0 ∧ 0 < k then .error 5 else .ok (acc + x.toNat % 128 * 128 ^ k, k + 1))
    else rdN r (k + 1) (acc + x.toNat % 128 * 128 ^ k)
theorem rdN_form_aux : ∀ (l : List UInt8) (k acc n m : Nat), rdN l k acc = .ok (n, m) → k ≤ 9 →
    ∃ d, n = acc + d * 128 ^ k ∧ m = k + (natB d).length ∧ (natB d).length ≤ l.length ∧ l.take (natB d).length = natB d ∧ (0 < d ∨ k = 0) ∧ d * 128 ^ k < 18446744073709551616
  | [], _, _, _, _, h, _ => by cases h
  | x :: r, k, acc, n, m, h, hk => by
    have hx := x.toNat_lt
    simp only [rdN] at h
    by_cases h9 : k = 9 ∧ 1 < x.toNat ∨ 9 < k
    · rw [if_pos h9] at h; cases h
    rw [if_neg h9] at h
    have hxo : UInt8.ofNat x.toNat = x := by simp
    have hpw : 128 ^ k * 128 ^ (9 - k) = 9223372036854775808 := by
      rw [← Nat.pow_add, show k + (9 - k) = 9 by omega]
    by_cases h1 : x.toNat < 128
    · rw [if_pos h1] at h
      by_cases h2 : x.toNat = 0 ∧ 0 < k
      · rw [if_pos h2] at h; cases h
      rw [if_neg h2] at h
      cases h
      refine ⟨x.toNat, by rw [Nat.mod_eq_of_lt h1], ?_, ?_, ?_, by omega, ?_⟩
      · rw [natB_lt h1]; rfl
      · rw [natB_lt h1]; simp
      · rw [natB_lt h1, hxo]; simp
      · by_cases hk9 : k = 9
        · subst hk9
          have : x.toNat ≤ 1 := by omega
          have := Nat.mul_le_mul_right (128 ^ 9) this
          have e : (128 : Nat) ^ 9 = 9223372036854775808 := by decide
          omega
        · have h8 : 128 ^ k ≤ 128 ^ 8 := Nat.pow_le_pow_right (by decide) (by omega)
          have h7 := Nat.mul_le_mul (show x.toNat ≤ 127 by omega) h8
          have e : (127 : Nat) * 128 ^ 8 < 18446744073709551616 := by decide
          omega
    · rw [if_neg h1] at h
      have hk8 : k ≠ 9 := fun e => h9 (.inl ⟨e, by omega⟩)
      obtain ⟨d, hd1, hd2, hd3, hd4, hd5, hd6⟩ := rdN_form_aux r (k + 1) _ n m h (by omega)
      have hdp : 0 < d := by omega
      have hq : (x.toNat % 128 + d * 128) / 128 = d := by omega
      have hq2 : (x.toNat % 128 + d * 128) % 128 + 128 = x.toNat := by omega
      have hnb : natB (x.toNat % 128 + d * 128) = x :: natB d := by rw [natB_ge (by omega), hq, hq2, hxo]
      have he : (x.toNat % 128 + d * 128) * 128 ^ k = x.toNat % 128 * 128 ^ k + d * 128 ^ (k + 1) := by
        rw [Nat.add_mul, Nat.pow_succ, Nat.mul_comm (128 ^ k) 128, Nat.mul_assoc]
      refine ⟨x.toNat % 128 + d * 128, ?_, ?_, ?_, ?_, by omega, ?_⟩
      · rw [hd1, he]; omega
      · rw [hnb, hd2, List.length_cons]; omega
      · rw [hnb]; simpa using hd3
      · rw [hnb]; simp [hd4]
      · rw [he]
        have h1' : x.toNat % 128 * 128 ^ k < 128 ^ (k + 1) := by
          rw [Nat.pow_succ, Nat.mul_comm]
          exact Nat.mul_lt_mul_of_pos_left (Nat.mod_lt _ (by decide)) (Nat.pow_pos (by decide))
        have h2' : 128 ^ (k + 1) * 128 ^ (8 - k) = 9223372036854775808 := by
          rw [← Nat.pow_add, show k + 1 + (8 - k) = 9 by omega]
        have h3' : d < 2 * 128 ^ (8 - k) := by
          apply Classical.byContradiction
          intro hc
          have := Nat.mul_le_mul_right (128 ^ (k + 1)) (Nat.le_of_not_lt hc)
          rw [Nat.mul_assoc, Nat.mul_comm (128 ^ (8 - k)), h2'] at this
          omega
        have h4' := Nat.mul_le_mul_right (128 ^ (k + 1)) (show d + 1 ≤ 2 * 128 ^ (8 - k) from h3')
        rw [Nat.mul_assoc, Nat.mul_comm (128 ^ (8 - k)), h2', Nat.add_mul] at h4'
        omega
theorem rdN_form {l : List UInt8} {n m : Nat} (h : rdN l 0 0 = .ok (n, m)) : m = (natB n).length ∧ m ≤ l.length ∧ l.take m = natB n ∧ n < 18446744073709551616 := by
  obtain ⟨d, h1, h2, h3, h4, _, h6⟩ := rdN_form_aux l 0 0 n m h (by omega)
  simp only [Nat.pow_zero, Nat.mul_one, Nat.zero_add] at h1 h2 h6
  subst h1; subst h2
  exact ⟨rfl, h3, h4, h6⟩
structure Rs where
  at_ : Nat
  e : Nat
def rsSmall (l : List UInt8) (most : Nat) (s : Rs) : Nat × Rs :=
  if s.e ≠ 0 then (0, s) else
  match rdN (l.drop s.at_) 0 0 with
  | .error e => (0, { s with e := e })
  | .ok (n, k) => if most < n then (0, { s with e := 5 }) else (n, { s with at_ := s.at_ + k })
def rsDone (l : List UInt8) (s : Rs) : Nat := if s.e = 0 ∧ s.at_ < l.length then 5 else s.e
theorem rsSmall_most {l : List UInt8} {most : Nat} {s : Rs} : (rsSmall l most s).1 ≤ most := by
  unfold rsSmall
  split
  · exact Nat.zero_le _
  · split
    · exact Nat.zero_le _
    · split
      · exact Nat.zero_le _
      · rename_i h; exact Nat.le_of_not_lt h
structure Tn where
  c : Nat
  q : Nat
  b : List UInt8
def Tn.May (o : Tn) : Prop := o.c < 64 ∧ o.q ≠ 0 ∧ o.b.length ≤ 2000
instance (o : Tn) : Decidable o.May := by unfold Tn.May; infer_instance
end Go.Vc
namespace Go.Proofs
open Go Go.Vc
theorem Tryz.noNum : NoNum Tryz.prog = true := by kernel_rfl
end Go.Proofs
set_option maxRecDepth 100000
namespace Go.Proofs
open Go Go.Vc
def F59 (a0 : Value) (w : World) (K : Kont) : Prop :=
 rv Tryz.prog (Instr.build 248 #[(0, a0)]) w fun v0 w1 =>
 rv Tryz.prog (Instr.box 248 v0) w1 fun v2 w3 =>
 K v2 w3
theorem F59_eq (a0 : Value) (w : World) (K : Kont) : vcFnJ Tryz.prog Tryz.f59 [a0] w K = F59 a0 w K := by kernel_rfl
theorem F59_ok : okF Tryz.prog Tryz.f59 1 = true := by kernel_rfl
theorem ca59{a0 : Value} {w : World} {K : Kont} (h : F59 a0 w K) : Ca Tryz.prog 59 #[a0] w K :=
  ca_of_vcJ Tryz.noNum Tryz.func59 F59_ok (by rw [F59_eq]; exact h)
def F148 (a0 : Value) (w : World) (K : Kont) : Prop :=
 rv Tryz.prog (bin .eql 136 true a0 (.pointer none)) w fun v0 w1 =>
 ifB v0
 (K (.bool true) w1)
 (nilK a0 fun v2 => rv Tryz.prog (Instr.fieldAt 248 v2 2) w1 fun v3 w4 =>
 rv Tryz.prog (Instr.loadAt 26 v3) w4 fun v5 w6 =>
 rv Tryz.prog (bin .neq 26 true v5 (.int .i64 0)) w6 fun v7 w8 =>
 K v7 w8)
theorem F148_eq (a0 : Value) (w : World) (K : Kont) : vcFnJ Tryz.prog Tryz.f148 [a0] w K = F148 a0 w K := by kernel_rfl
theorem F148_ok : okF Tryz.prog Tryz.f148 1 = true := by kernel_rfl
theorem ca148{a0 : Value} {w : World} {K : Kont} (h : F148 a0 w K) : Ca Tryz.prog 148 #[a0] w K :=
  ca_of_vcJ Tryz.noNum Tryz.func148 F148_ok (by rw [F148_eq]; exact h)
def J150_0 (K : Kont) (a0 : Value) (s8 : Value × Value × Value × Value × Unit) (v36 : Value) (s40 : Value × Unit) (w41 : World) : Prop :=
 ∀ _ : Nat → Value,
 ifB s40.1
 (K (.tuple #[(.int .u64 0), (.int .i64 0), (.int .i64 5)]) w41)
 (nilK a0 fun v47 => rdP Tryz.prog (Instr.fieldAt 248 v47 1) fun v48 =>
 rdW Tryz.prog (Instr.loadAt 3 v48) w41.drew fun v49 =>
 rdP Tryz.prog (bin .add 3 false v49 s8.2.2.2.1) fun v50 =>
 rdP Tryz.prog (bin .add 3 true v50 (.int .i64 1)) fun v51 =>
 Sem.run Tryz.prog (Instr.loadAt 3 v48) w41.drew = .ok v49 w41.drew ∧ 
 (K (.tuple #[v36, v51, (.int .i64 0)]) w41.drew))
def J150_1 (K : Kont) (v15 : Value) (s8 : Value × Value × Value × Value × Unit) (a0 : Value) (K10 : Value × Value × Value × Value × Unit → World → Prop) (s17 : Value × Unit) (w18 : World) : Prop :=
 ∀ _ : Nat → Value,
 ifB s17.1
 (K (.tuple #[(.int .u64 0), (.int .i64 0), (.int .i64 5)]) w18)
 (rv Tryz.prog (bin .and 5 true v15 (.int .u8 127)) w18 fun v28 w29 =>
 rv Tryz.prog (convert 5 27 v28) w29 fun v30 w31 =>
 rv Tryz.prog (bin .mul 3 true (.int .i64 7) s8.2.2.2.1) w31 fun v32 w33 =>
 rv Tryz.prog (bin .shl 27 false v30 v32) w33 fun v34 w35 =>
 rv Tryz.prog (bin .or 27 false s8.1 v34) w35 fun v36 w37 =>
 rv Tryz.prog (bin .lss 5 true v15 (.int .u8 128)) w37 fun v38 w39 =>
 ifB v38
 (JoinW (S := Value × Unit) (fun J42 =>
 rv Tryz.prog (bin .eql 5 true v15 (.int .u8 0)) w39 fun v43 w44 =>
 ifB v43
 (rv Tryz.prog (bin .gtr 3 true s8.2.2.2.1 (.int .i64 0)) w44 fun v45 w46 =>
 J42 (v45, ()) w46)
 (J42 ((.bool false), ()) w44))
 (J150_0 K a0 s8 v36))
 (rv Tryz.prog (bin .add 3 true s8.2.2.2.1 (.int .i64 1)) w39 fun v52 w53 =>
 K10 (v36, s8.2.1, s8.2.2.1, v52, ()) w53))
def L150_2 (v7 : Value) (v6 : Value) (K : Kont) (a0 : Value) (s8 : Value × Value × Value × Value × Unit) (w9 : World) (K10 : Value × Value × Value × Value × Unit → World → Prop) : Prop :=
 ∀ _ : Nat → Value,
 rv Tryz.prog (bin .lss 3 false s8.2.2.2.1 v7) w9 fun v11 w12 =>
 ifB v11
 (rv Tryz.prog (Instr.indexAt 54 v6 s8.2.2.2.1) w12 fun v13 w14 =>
 rv Tryz.prog (Instr.loadAt 5 v13) w14 fun v15 w16 =>
 JoinW (S := Value × Unit) (fun J19 =>
 rv Tryz.prog (bin .eql 3 true s8.2.2.2.1 (.int .i64 9)) w16 fun v20 w21 =>
 ifB v20
 (rv Tryz.prog (bin .gtr 5 true v15 (.int .u8 1)) w21 fun v22 w23 =>
 ifB v22
 (J19 ((.bool true), ()) w23)
 (rv Tryz.prog (bin .gtr 3 true s8.2.2.2.1 (.int .i64 9)) w23 fun v24 w25 =>
 J19 (v24, ()) w25))
 (rv Tryz.prog (bin .gtr 3 true s8.2.2.2.1 (.int .i64 9)) w21 fun v26 w27 =>
 J19 (v26, ()) w27))
 (J150_1 K v15 s8 a0 K10))
 (K (.tuple #[(.int .u64 0), (.int .i64 0), (.int .i64 4)]) w12)
def F150 (a0 : Value) (w : World) (K : Kont) : Prop :=
 nilK a0 fun v0 => rdP Tryz.prog (Instr.fieldAt 248 v0 0) fun v1 =>
 rdW Tryz.prog (Instr.loadAt 54 v1) w.drew fun v2 =>
 nilK a0 fun v3 => rdP Tryz.prog (Instr.fieldAt 248 v3 1) fun v4 =>
 rdW Tryz.prog (Instr.loadAt 3 v4) w.drew fun v5 =>
 rdP Tryz.prog (Instr.sliceAt 54 v2 (some v5) none none) fun v6 =>
 rdW Tryz.prog (Builtin.len_ #[54] 3 #[v6]) w.drew fun v7 =>
 LoopW (S := Value × Value × Value × Value × Unit) (L150_2 v7 v6 K a0) ((.int .u64 0), (.int .i64 0), (.int .i64 0), (.int .i64 0), ()) w.drew
theorem F150_eq (a0 : Value) (w : World) (K : Kont) : vcFnJ Tryz.prog Tryz.f150 [a0] w K = F150 a0 w K := by kernel_rfl
theorem F150_ok : okF Tryz.prog Tryz.f150 1 = true := by kernel_rfl
theorem ca150{a0 : Value} {w : World} {K : Kont} (h : F150 a0 w K) : Ca Tryz.prog 150 #[a0] w K :=
  ca_of_vcJ Tryz.noNum Tryz.func150 F150_ok (by rw [F150_eq]; exact h)
def F61 (a0 : Value) (w : World) (K : Kont) : Prop :=
 Ca Tryz.prog 69 #[a0, (.int .u64 18446744073709551615)] w fun v0 w1 =>
 K v0 w1
theorem F61_eq (a0 : Value) (w : World) (K : Kont) : vcFnJ Tryz.prog Tryz.f61 [a0] w K = F61 a0 w K := by kernel_rfl
theorem F61_ok : okF Tryz.prog Tryz.f61 1 = true := by kernel_rfl
theorem ca61{a0 : Value} {w : World} {K : Kont} (h : F61 a0 w K) : Ca Tryz.prog 61 #[a0] w K :=
  ca_of_vcJ Tryz.noNum Tryz.func61 F61_ok (by rw [F61_eq]; exact h)
def J69_0 (J12 : Value × Unit → World → Prop) (v8 : Value) (s13 : Value × Unit) (w14 : World) : Prop :=
 ∀ _ : Nat → Value,
 ifB s13.1
 (J12 ((.int .i64 5), ()) w14)
 (J12 (v8, ()) w14)
def J69_1 (a0 : Value) (K : Kont) (v6 : Value) (v4 : Value) (s10 : Value × Unit) (w11 : World) : Prop :=
 ∀ _ : Nat → Value,
 rv Tryz.prog (bin .neq 26 true s10.1 (.int .i64 0)) w11 fun v20 w21 =>
 ifB v20
 (nilK a0 fun v22 => rv Tryz.prog (Instr.fieldAt 248 v22 2) w21 fun v23 w24 =>
 ru Tryz.prog (Instr.storeAt 26 v23 s10.1) w24 fun w25 =>
 K (.int .u64 0) w25)
 (nilK a0 fun v26 => rv Tryz.prog (Instr.fieldAt 248 v26 1) w21 fun v27 w28 =>
 ru Tryz.prog (Instr.storeAt 3 v27 v6) w28 fun w29 =>
 K v4 w29)
def F69 (a0 a1 : Value) (w : World) (K : Kont) : Prop :=
 Ca Tryz.prog 148 #[a0] w fun v0 w1 =>
 ifB v0
 (K (.int .u64 0) w1)
 (Ca Tryz.prog 150 #[a0] w1 fun v2 w3 =>
 rv Tryz.prog (Instr.extract v2 0) w3 fun v4 w5 =>
 rv Tryz.prog (Instr.extract v2 1) w5 fun v6 w7 =>
 rv Tryz.prog (Instr.extract v2 2) w7 fun v8 w9 =>
 JoinW (S := Value × Unit) (fun J12 =>
 JoinW (S := Value × Unit) (fun J15 =>
 rv Tryz.prog (bin .eql 26 true v8 (.int .i64 0)) w9 fun v16 w17 =>
 ifB v16
 (rv Tryz.prog (bin .gtr 27 false v4 a1) w17 fun v18 w19 =>
 J15 (v18, ()) w19)
 (J15 ((.bool false), ()) w17))
 (J69_0 J12 v8))
 (J69_1 a0 K v6 v4))
theorem F69_eq (a0 a1 : Value) (w : World) (K : Kont) : vcFnJ Tryz.prog Tryz.f69 [a0, a1] w K = F69 a0 a1 w K := by kernel_rfl
theorem F69_ok : okF Tryz.prog Tryz.f69 2 = true := by kernel_rfl
theorem ca69{a0 a1 : Value} {w : World} {K : Kont} (h : F69 a0 a1 w K) : Ca Tryz.prog 69 #[a0, a1] w K :=
  ca_of_vcJ Tryz.noNum Tryz.func69 F69_ok (by rw [F69_eq]; exact h)
def F62 (a0 : Value) (w : World) (K : Kont) : Prop :=
 Ca Tryz.prog 61 #[a0] w fun v0 w1 =>
 rv Tryz.prog (bin .shr 27 true v0 (.int .u64 1)) w1 fun v2 w3 =>
 rv Tryz.prog (convert 27 2 v2) w3 fun v4 w5 =>
 rv Tryz.prog (bin .and 27 true v0 (.int .u64 1)) w5 fun v6 w7 =>
 rv Tryz.prog (convert 27 2 v6) w7 fun v8 w9 =>
 rv Tryz.prog (Op.unary .neg v8) w9 fun v10 w11 =>
 rv Tryz.prog (bin .xor 2 false v4 v10) w11 fun v12 w13 =>
 K v12 w13
theorem F62_eq (a0 : Value) (w : World) (K : Kont) : vcFnJ Tryz.prog Tryz.f62 [a0] w K = F62 a0 w K := by kernel_rfl
theorem F62_ok : okF Tryz.prog Tryz.f62 1 = true := by kernel_rfl
theorem ca62{a0 : Value} {w : World} {K : Kont} (h : F62 a0 w K) : Ca Tryz.prog 62 #[a0] w K :=
  ca_of_vcJ Tryz.noNum Tryz.func62 F62_ok (by rw [F62_eq]; exact h)
def F65 (a0 : Value) (w : World) (K : Kont) : Prop :=
 Ca Tryz.prog 148 #[a0] w fun v0 w1 =>
 ifB v0
 (K (.bool false) w1)
 (nilK a0 fun v2 => rdP Tryz.prog (Instr.fieldAt 248 v2 1) fun v3 =>
 rdW Tryz.prog (Instr.loadAt 3 v3) w1.drew fun v4 =>
 nilK a0 fun v5 => rdP Tryz.prog (Instr.fieldAt 248 v5 0) fun v6 =>
 rdW Tryz.prog (Instr.loadAt 54 v6) w1.drew fun v7 =>
 rdW Tryz.prog (Builtin.len_ #[54] 3 #[v7]) w1.drew fun v8 =>
 rdP Tryz.prog (bin .eql 3 false v4 v8) fun v9 =>
 ifB v9
 (nilK a0 fun v10 => rv Tryz.prog (Instr.fieldAt 248 v10 2) w1.drew fun v11 w12 =>
 ru Tryz.prog (Instr.storeAt 26 v11 (.int .i64 4)) w12 fun w13 =>
 K (.bool false) w13)
 (nilK a0 fun v14 => rdP Tryz.prog (Instr.fieldAt 248 v14 0) fun v15 =>
 rdW Tryz.prog (Instr.loadAt 54 v15) w1.drew.drew fun v16 =>
 nilK a0 fun v17 => rdP Tryz.prog (Instr.fieldAt 248 v17 1) fun v18 =>
 rdW Tryz.prog (Instr.loadAt 3 v18) w1.drew.drew fun v19 =>
 rdP Tryz.prog (Instr.indexAt 54 v16 v19) fun v20 =>
 rdW Tryz.prog (Instr.loadAt 5 v20) w1.drew.drew fun v21 =>
 rdP Tryz.prog (bin .gtr 5 true v21 (.int .u8 1)) fun v22 =>
 ifB v22
 (nilK a0 fun v23 => rv Tryz.prog (Instr.fieldAt 248 v23 2) w1.drew.drew fun v24 w25 =>
 ru Tryz.prog (Instr.storeAt 26 v24 (.int .i64 5)) w25 fun w26 =>
 K (.bool false) w26)
 (nilK a0 fun v27 => rv Tryz.prog (Instr.fieldAt 248 v27 1) w1.drew.drew fun v28 w29 =>
 rv Tryz.prog (Instr.loadAt 3 v28) w29 fun v30 w31 =>
 rv Tryz.prog (bin .add 3 true v30 (.int .i64 1)) w31 fun v32 w33 =>
 nilK a0 fun v34 => rv Tryz.prog (Instr.fieldAt 248 v34 1) w33 fun v35 w36 =>
 ru Tryz.prog (Instr.storeAt 3 v35 v32) w36 fun w37 =>
 nilK a0 fun v38 => rdP Tryz.prog (Instr.fieldAt 248 v38 0) fun v39 =>
 rdW Tryz.prog (Instr.loadAt 54 v39) w37.drew fun v40 =>
 nilK a0 fun v41 => rdP Tryz.prog (Instr.fieldAt 248 v41 1) fun v42 =>
 rdW Tryz.prog (Instr.loadAt 3 v42) w37.drew fun v43 =>
 rdP Tryz.prog (bin .sub 3 true v43 (.int .i64 1)) fun v44 =>
 rdP Tryz.prog (Instr.indexAt 54 v40 v44) fun v45 =>
 rdW Tryz.prog (Instr.loadAt 5 v45) w37.drew fun v46 =>
 rdP Tryz.prog (bin .eql 5 true v46 (.int .u8 1)) fun v47 =>
 K v47 w37.drew)))
theorem F65_eq (a0 : Value) (w : World) (K : Kont) : vcFnJ Tryz.prog Tryz.f65 [a0] w K = F65 a0 w K := by kernel_rfl
theorem F65_ok : okF Tryz.prog Tryz.f65 1 = true := by kernel_rfl
theorem ca65{a0 : Value} {w : World} {K : Kont} (h : F65 a0 w K) : Ca Tryz.prog 65 #[a0] w K :=
  ca_of_vcJ Tryz.noNum Tryz.func65 F65_ok (by rw [F65_eq]; exact h)
def F147 (a0 : Value) (w : World) (K : Kont) : Prop :=
 rv Tryz.prog (bin .eql 136 true a0 (.pointer none)) w fun v0 w1 =>
 ifB v0
 (K (.int .i64 0) w1)
 (nilK a0 fun v2 => rdP Tryz.prog (Instr.fieldAt 248 v2 0) fun v3 =>
 rdW Tryz.prog (Instr.loadAt 54 v3) w1.drew fun v4 =>
 rdW Tryz.prog (Builtin.len_ #[54] 3 #[v4]) w1.drew fun v5 =>
 nilK a0 fun v6 => rdP Tryz.prog (Instr.fieldAt 248 v6 1) fun v7 =>
 rdW Tryz.prog (Instr.loadAt 3 v7) w1.drew fun v8 =>
 rdP Tryz.prog (bin .sub 3 false v5 v8) fun v9 =>
 K v9 w1.drew)
theorem F147_eq (a0 : Value) (w : World) (K : Kont) : vcFnJ Tryz.prog Tryz.f147 [a0] w K = F147 a0 w K := by kernel_rfl
theorem F147_ok : okF Tryz.prog Tryz.f147 1 = true := by kernel_rfl
theorem ca147{a0 : Value} {w : World} {K : Kont} (h : F147 a0 w K) : Ca Tryz.prog 147 #[a0] w K :=
  ca_of_vcJ Tryz.noNum Tryz.func147 F147_ok (by rw [F147_eq]; exact h)
def F149 (a0 a1 : Value) (w : World) (K : Kont) : Prop :=
 Ca Tryz.prog 148 #[a0] w fun v0 w1 =>
 rv Tryz.prog (Op.unary .not v0) w1 fun v2 w3 =>
 ifB v2
 (nilK a0 fun v4 => rv Tryz.prog (Instr.fieldAt 248 v4 2) w3 fun v5 w6 =>
 ru Tryz.prog (Instr.storeAt 26 v5 a1) w6 fun w7 =>
 K (.tuple #[]) w7)
 (K (.tuple #[]) w3)
theorem F149_eq (a0 a1 : Value) (w : World) (K : Kont) : vcFnJ Tryz.prog Tryz.f149 [a0, a1] w K = F149 a0 a1 w K := by kernel_rfl
theorem F149_ok : okF Tryz.prog Tryz.f149 2 = true := by kernel_rfl
theorem ca149{a0 a1 : Value} {w : World} {K : Kont} (h : F149 a0 a1 w K) : Ca Tryz.prog 149 #[a0, a1] w K :=
  ca_of_vcJ Tryz.noNum Tryz.func149 F149_ok (by rw [F149_eq]; exact h)
def J74_0 (K : Kont) (a0 : Value) (s2 : Value × Unit) (w3 : World) : Prop :=
 ∀ _ : Nat → Value,
 ifB s2.1
 (K (.int .i64 5) w3)
 (nilK a0 fun v17 => rv Tryz.prog (Instr.fieldAt 248 v17 2) w3 fun v18 w19 =>
 rv Tryz.prog (Instr.loadAt 26 v18) w19 fun v20 w21 =>
 K v20 w21)
def F74 (a0 : Value) (w : World) (K : Kont) : Prop :=
 rv Tryz.prog (bin .eql 136 true a0 (.pointer none)) w fun v0 w1 =>
 ifB v0
 (K (.int .i64 1) w1)
 (JoinW (S := Value × Unit) (fun J4 =>
 nilK a0 fun v5 => rdP Tryz.prog (Instr.fieldAt 248 v5 2) fun v6 =>
 rdW Tryz.prog (Instr.loadAt 26 v6) w1.drew fun v7 =>
 rdP Tryz.prog (bin .eql 26 true v7 (.int .i64 0)) fun v8 =>
 ifB v8
 (nilK a0 fun v9 => rdP Tryz.prog (Instr.fieldAt 248 v9 1) fun v10 =>
 rdW Tryz.prog (Instr.loadAt 3 v10) w1.drew fun v11 =>
 nilK a0 fun v12 => rdP Tryz.prog (Instr.fieldAt 248 v12 0) fun v13 =>
 rdW Tryz.prog (Instr.loadAt 54 v13) w1.drew fun v14 =>
 rdW Tryz.prog (Builtin.len_ #[54] 3 #[v14]) w1.drew fun v15 =>
 rdP Tryz.prog (bin .lss 3 false v11 v15) fun v16 =>
 J4 (v16, ()) w1.drew)
 (J4 ((.bool false), ()) w1.drew))
 (J74_0 K a0))
theorem F74_eq (a0 : Value) (w : World) (K : Kont) : vcFnJ Tryz.prog Tryz.f74 [a0] w K = F74 a0 w K := by kernel_rfl
theorem F74_ok : okF Tryz.prog Tryz.f74 1 = true := by kernel_rfl
theorem ca74{a0 : Value} {w : World} {K : Kont} (h : F74 a0 w K) : Ca Tryz.prog 74 #[a0] w K :=
  ca_of_vcJ Tryz.noNum Tryz.func74 F74_ok (by rw [F74_eq]; exact h)
def L100_0 (K : Kont) (s0 : Value × Value × Unit) (w1 : World) (K2 : Value × Value × Unit → World → Prop) : Prop :=
 ∀ _ : Nat → Value,
 rv Tryz.prog (bin .geq 27 true s0.1 (.int .u64 128)) w1 fun v3 w4 =>
 ifB v3
 (rv Tryz.prog (convert 27 5 s0.1) w4 fun v5 w6 =>
 rv Tryz.prog (bin .or 5 true v5 (.int .u8 128)) w6 fun v7 w8 =>
 rx Tryz.prog (xLit 54 1 [(0, v7)]) w8 fun v9 w10 =>
 rx Tryz.prog (xAppend #[54, 54] 54 [s0.2.1, v9]) w10 fun v11 w12 =>
 rv Tryz.prog (bin .shr 27 true s0.1 (.int .u64 7)) w12 fun v13 w14 =>
 K2 (v13, v11, ()) w14)
 (rv Tryz.prog (convert 27 5 s0.1) w4 fun v15 w16 =>
 rx Tryz.prog (xLit 54 1 [(0, v15)]) w16 fun v17 w18 =>
 rx Tryz.prog (xAppend #[54, 54] 54 [s0.2.1, v17]) w18 fun v19 w20 =>
 K v19 w20)
def F100 (a0 a1 : Value) (w : World) (K : Kont) : Prop :=
 LoopW (S := Value × Value × Unit) (L100_0 K) (a1, a0, ()) w
theorem F100_eq (a0 a1 : Value) (w : World) (K : Kont) : vcFnJ Tryz.prog Tryz.f100 [a0, a1] w K = F100 a0 a1 w K := by kernel_rfl
theorem F100_ok : okF Tryz.prog Tryz.f100 2 = true := by kernel_rfl
theorem ca100{a0 a1 : Value} {w : World} {K : Kont} (h : F100 a0 a1 w K) : Ca Tryz.prog 100 #[a0, a1] w K :=
  ca_of_vcJ Tryz.noNum Tryz.func100 F100_ok (by rw [F100_eq]; exact h)
def F240 (a0 : Value) (w : World) (K : Kont) : Prop :=
 rv Tryz.prog (convert 2 27 a0) w fun v0 w1 =>
 rv Tryz.prog (bin .shl 27 true v0 (.int .u64 1)) w1 fun v2 w3 =>
 rv Tryz.prog (bin .shr 2 true a0 (.int .u64 63)) w3 fun v4 w5 =>
 rv Tryz.prog (convert 2 27 v4) w5 fun v6 w7 =>
 rv Tryz.prog (bin .xor 27 false v2 v6) w7 fun v8 w9 =>
 K v8 w9
theorem F240_eq (a0 : Value) (w : World) (K : Kont) : vcFnJ Tryz.prog Tryz.f240 [a0] w K = F240 a0 w K := by kernel_rfl
theorem F240_ok : okF Tryz.prog Tryz.f240 1 = true := by kernel_rfl
theorem ca240{a0 : Value} {w : World} {K : Kont} (h : F240 a0 w K) : Ca Tryz.prog 240 #[a0] w K :=
  ca_of_vcJ Tryz.noNum Tryz.func240 F240_ok (by rw [F240_eq]; exact h)
def F154 (a0 a1 : Value) (w : World) (K : Kont) : Prop :=
 Ca Tryz.prog 240 #[a1] w fun v0 w1 =>
 Ca Tryz.prog 100 #[a0, v0] w1 fun v2 w3 =>
 K v2 w3
theorem F154_eq (a0 a1 : Value) (w : World) (K : Kont) : vcFnJ Tryz.prog Tryz.f154 [a0, a1] w K = F154 a0 a1 w K := by kernel_rfl
theorem F154_ok : okF Tryz.prog Tryz.f154 2 = true := by kernel_rfl
theorem ca154{a0 a1 : Value} {w : World} {K : Kont} (h : F154 a0 a1 w K) : Ca Tryz.prog 154 #[a0, a1] w K :=
  ca_of_vcJ Tryz.noNum Tryz.func154 F154_ok (by rw [F154_eq]; exact h)
def L68_0 (a0 : Value) (v12 : Value) (v0 : Value) (K : Kont) (s44 : Value × Unit) (w45 : World) (K46 : Value × Unit → World → Prop) : Prop :=
 ∀ _ : Nat → Value,
 rv Tryz.prog (bin .lss 3 true s44.1 (.int .i64 16)) w45 fun v47 w48 =>
 ifB v47
 (Ca Tryz.prog 62 #[a0] w48 fun v49 w50 =>
 rv Tryz.prog (Instr.fieldAt 38 v12 6) w50 fun v51 w52 =>
 rv Tryz.prog (Instr.indexAt 36 v51 s44.1) w52 fun v53 w54 =>
 ru Tryz.prog (Instr.storeAt 2 v53 v49) w54 fun w55 =>
 rv Tryz.prog (bin .add 3 true s44.1 (.int .i64 1)) w55 fun v56 w57 =>
 K46 (v56, ()) w57)
 (Ca Tryz.prog 69 #[a0, (.int .u64 9223372036854775807)] w48 fun v58 w59 =>
 rv Tryz.prog (convert 27 2 v58) w59 fun v60 w61 =>
 rv Tryz.prog (Instr.fieldAt 38 v12 7) w61 fun v62 w63 =>
 ru Tryz.prog (Instr.storeAt 2 v62 v60) w63 fun w64 =>
 Ca Tryz.prog 69 #[a0, (.int .u64 4294967295)] w64 fun v65 w66 =>
 rv Tryz.prog (convert 27 35 v65) w66 fun v67 w68 =>
 rv Tryz.prog (Instr.fieldAt 38 v12 8) w68 fun v69 w70 =>
 ru Tryz.prog (Instr.storeAt 35 v69 v67) w70 fun w71 =>
 Ca Tryz.prog 69 #[a0, (.int .u64 9223372036854775807)] w71 fun v72 w73 =>
 rv Tryz.prog (convert 27 2 v72) w73 fun v74 w75 =>
 rv Tryz.prog (Instr.fieldAt 38 v12 9) w75 fun v76 w77 =>
 ru Tryz.prog (Instr.storeAt 2 v76 v74) w77 fun w78 =>
 rx Tryz.prog (bigS 38 v12) w78 fun v79 w80 =>
 Ca Tryz.prog 107 #[v79] w80 fun v81 w82 =>
 rv Tryz.prog (Op.unary .not v81) w82 fun v83 w84 =>
 ifB v83
 (Ca Tryz.prog 149 #[a0, (.int .i64 5)] w84 fun v85 w86 =>
 rx Tryz.prog (bigB 38 #[]) w86 fun v87 w88 =>
 rux Tryz.prog (bigU 38 v0 v87) w88 fun w89 =>
 rdX Tryz.prog (bigS 38 v0) w89 fun v90 =>
 K v90 w89)
 (rx Tryz.prog (bigS 38 v12) w84 fun v91 w92 =>
 rux Tryz.prog (bigU 38 v0 v91) w92 fun w93 =>
 rdX Tryz.prog (bigS 38 v0) w93 fun v94 =>
 K v94 w93))
def L68_1 (v25 : Value) (v23 : Value) (a0 : Value) (v12 : Value) (v0 : Value) (K : Kont) (s27 : Value × Unit) (w28 : World) (K29 : Value × Unit → World → Prop) : Prop :=
 ∀ _ : Nat → Value,
 rv Tryz.prog (bin .lss 3 false s27.1 v25) w28 fun v30 w31 =>
 ifB v30
 (rv Tryz.prog (Instr.indexAt 252 v23 s27.1) w31 fun v32 w33 =>
 rv Tryz.prog (Instr.loadAt 251 v32) w33 fun v34 w35 =>
 Ca Tryz.prog 69 #[a0, (.int .u64 9223372036854775807)] w35 fun v36 w37 =>
 rv Tryz.prog (convert 27 2 v36) w37 fun v38 w39 =>
 nilK v34 fun v40 => ru Tryz.prog (Instr.storeAt 2 v40 v38) w39 fun w41 =>
 rv Tryz.prog (bin .add 3 true s27.1 (.int .i64 1)) w41 fun v42 w43 =>
 K29 (v42, ()) w43)
 (LoopW (S := Value × Unit) (L68_0 a0 v12 v0 K) ((.int .i64 0), ()) w31)
def F68 (a0 : Value) (w : World) (K : Kont) : Prop :=
 rx Tryz.prog (bigA 38) w fun v0 w1 =>
 Ca Tryz.prog 69 #[a0, (.int .u64 4294967295)] w1 fun v2 w3 =>
 rv Tryz.prog (convert 27 35 v2) w3 fun v4 w5 =>
 Ca Tryz.prog 69 #[a0, (.int .u64 255)] w5 fun v6 w7 =>
 rv Tryz.prog (convert 27 5 v6) w7 fun v8 w9 =>
 rx Tryz.prog (bigB 38 #[(0, v4), (1, v8)]) w9 fun v10 w11 =>
 rx Tryz.prog (bigA 38) w11 fun v12 w13 =>
 rux Tryz.prog (bigU 38 v12 v10) w13 fun w14 =>
 rv Tryz.prog (Instr.fieldAt 38 v12 2) w14 fun v15 w16 =>
 rv Tryz.prog (Instr.fieldAt 38 v12 3) w16 fun v17 w18 =>
 rv Tryz.prog (Instr.fieldAt 38 v12 4) w18 fun v19 w20 =>
 rv Tryz.prog (Instr.fieldAt 38 v12 5) w20 fun v21 w22 =>
 rx Tryz.prog (xLit 252 4 [(0, v15), (1, v17), (2, v19), (3, v21)]) w22 fun v23 w24 =>
 rn Tryz.prog (builtin .len #[252] 3 #[false] #[v23]) w24 fun v25 w26 =>
 LoopW (S := Value × Unit) (L68_1 v25 v23 a0 v12 v0 K) ((.int .i64 0), ()) w26
theorem F68_eq (a0 : Value) (w : World) (K : Kont) : vcFnJ Tryz.prog Tryz.f68 [a0] w K = F68 a0 w K := by kernel_rfl
theorem F68_ok : okF Tryz.prog Tryz.f68 1 = true := by kernel_rfl
theorem ca68{a0 : Value} {w : World} {K : Kont} (h : F68 a0 w K) : Ca Tryz.prog 68 #[a0] w K :=
  ca_of_vcJ Tryz.noNum Tryz.func68 F68_ok (by rw [F68_eq]; exact h)
def F60 (a0 : Value) (w : World) (K : Kont) : Prop :=
 rv Tryz.prog (Instr.box 139 a0) w fun v0 w1 =>
 rv Tryz.prog (Instr.fieldAt 139 v0 0) w1 fun v2 w3 =>
 rv Tryz.prog (Instr.loadAt 136 v2) w3 fun v4 w5 =>
 Ca Tryz.prog 69 #[v4, (.int .u64 4294967295)] w5 fun v6 w7 =>
 rv Tryz.prog (convert 27 35 v6) w7 fun v8 w9 =>
 K v8 w9
theorem F60_eq (a0 : Value) (w : World) (K : Kont) : vcFnJ Tryz.prog Tryz.f60 [a0] w K = F60 a0 w K := by kernel_rfl
theorem F60_ok : okF Tryz.prog Tryz.f60 1 = true := by kernel_rfl
theorem ca60{a0 : Value} {w : World} {K : Kont} (h : F60 a0 w K) : Ca Tryz.prog 60 #[a0] w K :=
  ca_of_vcJ Tryz.noNum Tryz.func60 F60_ok (by rw [F60_eq]; exact h)
def F73 (a0 : Value) (w : World) (K : Kont) : Prop :=
 rv Tryz.prog (Instr.box 139 a0) w fun v0 w1 =>
 rv Tryz.prog (Instr.alloc 119 true (.tuple #[])) w1 fun v2 w3 =>
 rv Tryz.prog (Instr.loadAt 139 v0) w3 fun v4 w5 =>
 Ca Tryz.prog 60 #[v4] w5 fun v6 w7 =>
 rv Tryz.prog (Instr.fieldAt 119 v2 0) w7 fun v8 w9 =>
 ru Tryz.prog (Instr.storeAt 35 v8 v6) w9 fun w10 =>
 rv Tryz.prog (Instr.fieldAt 139 v0 0) w10 fun v11 w12 =>
 rv Tryz.prog (Instr.loadAt 136 v11) w12 fun v13 w14 =>
 Ca Tryz.prog 61 #[v13] w14 fun v15 w16 =>
 rv Tryz.prog (Instr.fieldAt 119 v2 1) w16 fun v17 w18 =>
 rv Tryz.prog (Instr.fieldAt 117 v17 0) w18 fun v19 w20 =>
 ru Tryz.prog (Instr.storeAt 27 v19 v15) w20 fun w21 =>
 rv Tryz.prog (Instr.loadAt 139 v0) w21 fun v22 w23 =>
 Ca Tryz.prog 60 #[v22] w23 fun v24 w25 =>
 rv Tryz.prog (Instr.fieldAt 119 v2 1) w25 fun v26 w27 =>
 rv Tryz.prog (Instr.fieldAt 117 v26 1) w27 fun v28 w29 =>
 ru Tryz.prog (Instr.storeAt 35 v28 v24) w29 fun w30 =>
 rv Tryz.prog (Instr.fieldAt 139 v0 0) w30 fun v31 w32 =>
 rv Tryz.prog (Instr.loadAt 136 v31) w32 fun v33 w34 =>
 Ca Tryz.prog 65 #[v33] w34 fun v35 w36 =>
 rv Tryz.prog (Instr.fieldAt 119 v2 1) w36 fun v37 w38 =>
 rv Tryz.prog (Instr.fieldAt 117 v37 2) w38 fun v39 w40 =>
 ru Tryz.prog (Instr.storeAt 4 v39 v35) w40 fun w41 =>
 rdP Tryz.prog (Instr.fieldAt 139 v0 0) fun v42 =>
 rdW Tryz.prog (Instr.loadAt 136 v42) w41.drew fun v43 =>
 rdP Tryz.prog (Instr.fieldAt 139 v0 0) fun v44 =>
 rdW Tryz.prog (Instr.loadAt 136 v44) w41.drew fun v45 =>
 Ca Tryz.prog 62 #[v43] w41.drew fun v46 w47 =>
 Sem.run Tryz.prog (Instr.loadAt 136 v44) w47 = .ok v45 w47 ∧ 
 (rdP Tryz.prog (Instr.fieldAt 119 v2 1) fun v48 =>
 rdP Tryz.prog (Instr.fieldAt 117 v48 3) fun v49 =>
 Ca Tryz.prog 62 #[v45] w47 fun v50 w51 =>
 ru Tryz.prog (Instr.storeAt 2 v49 v46) w51 fun w52 =>
 rdP Tryz.prog (Instr.fieldAt 119 v2 1) fun v53 =>
 rdP Tryz.prog (Instr.fieldAt 117 v53 4) fun v54 =>
 ru Tryz.prog (Instr.storeAt 2 v54 v50) w52 fun w55 =>
 rv Tryz.prog (Instr.loadAt 119 v2) w55 fun v56 w57 =>
 ru Tryz.prog (Instr.storeAt 119 v2 v56) w57 fun w58 =>
 rdW Tryz.prog (Instr.loadAt 119 v2) w58 fun v59 =>
 K v59 w58)
theorem F73_eq (a0 : Value) (w : World) (K : Kont) : vcFnJ Tryz.prog Tryz.f73 [a0] w K = F73 a0 w K := by kernel_rfl
theorem F73_ok : okF Tryz.prog Tryz.f73 1 = true := by kernel_rfl
theorem ca73{a0 : Value} {w : World} {K : Kont} (h : F73 a0 w K) : Ca Tryz.prog 73 #[a0] w K :=
  ca_of_vcJ Tryz.noNum Tryz.func73 F73_ok (by rw [F73_eq]; exact h)
def J63_0 (K : Kont) (v15 : Value) (s8 : Value × Value × Unit) (K10 : Value × Value × Unit → World → Prop) (s18 : Value × Unit) (w19 : World) : Prop :=
 ∀ _ : Nat → Value,
 ifB s18.1
 (K (.slice none 0 0) w19)
 (rv Tryz.prog (Instr.loadAt 92 v15) w19 fun v37 w38 =>
 rx Tryz.prog (xLit 44 1 [(0, v37)]) w38 fun v39 w40 =>
 rx Tryz.prog (xAppend #[44, 44] 44 [s8.1, v39]) w40 fun v41 w42 =>
 rv Tryz.prog (bin .add 27 true s8.2.1 (.int .u64 1)) w42 fun v43 w44 =>
 K10 (v41, v43, ()) w44)
def L63_1 (v6 : Value) (a2 : Value) (v0 : Value) (K : Kont) (s8 : Value × Value × Unit) (w9 : World) (K10 : Value × Value × Unit → World → Prop) : Prop :=
 ∀ _ : Nat → Value,
 rv Tryz.prog (bin .lss 27 false s8.2.1 v6) w9 fun v11 w12 =>
 ifB v11
 (callV Tryz.prog a2 [] w12 fun v13 w14 =>
 rv Tryz.prog (Instr.alloc 92 true (.tuple #[])) w14 fun v15 w16 =>
 ru Tryz.prog (Instr.storeAt 92 v15 v13) w16 fun w17 =>
 JoinW (S := Value × Unit) (fun J20 =>
 rv Tryz.prog (Instr.fieldAt 139 v0 0) w17 fun v21 w22 =>
 rv Tryz.prog (Instr.loadAt 136 v21) w22 fun v23 w24 =>
 Ca Tryz.prog 147 #[v23] w24 fun v25 w26 =>
 rv Tryz.prog (bin .eql 3 true v25 (.int .i64 0)) w26 fun v27 w28 =>
 ifB v27
 (rv Tryz.prog (Instr.fieldAt 139 v0 0) w28 fun v29 w30 =>
 rv Tryz.prog (Instr.loadAt 136 v29) w30 fun v31 w32 =>
 Ca Tryz.prog 74 #[v31] w32 fun v33 w34 =>
 rv Tryz.prog (bin .neq 26 true v33 (.int .i64 0)) w34 fun v35 w36 =>
 J20 (v35, ()) w36)
 (J20 ((.bool false), ()) w28))
 (J63_0 K v15 s8 K10))
 (K s8.1 w12)
def F63 (a0 a1 a2 : Value) (w : World) (K : Kont) : Prop :=
 rv Tryz.prog (Instr.box 139 a0) w fun v0 w1 =>
 rv Tryz.prog (Instr.fieldAt 139 v0 0) w1 fun v2 w3 =>
 rv Tryz.prog (Instr.loadAt 136 v2) w3 fun v4 w5 =>
 Ca Tryz.prog 69 #[v4, a1] w5 fun v6 w7 =>
 LoopW (S := Value × Value × Unit) (L63_1 v6 a2 v0 K) ((.slice none 0 0), (.int .u64 0), ()) w7
theorem F63_eq (a0 a1 a2 : Value) (w : World) (K : Kont) : vcFnJ Tryz.prog Tryz.f63 [a0, a1, a2] w K = F63 a0 a1 a2 w K := by kernel_rfl
theorem F63_ok : okF Tryz.prog Tryz.f63 3 = true := by kernel_rfl
theorem ca63{a0 a1 a2 : Value} {w : World} {K : Kont} (h : F63 a0 a1 a2 w K) : Ca Tryz.prog 63 #[a0, a1, a2] w K :=
  ca_of_vcJ Tryz.noNum Tryz.func63 F63_ok (by rw [F63_eq]; exact h)
def J66_0 (K : Kont) (v15 : Value) (s8 : Value × Value × Unit) (K10 : Value × Value × Unit → World → Prop) (s18 : Value × Unit) (w19 : World) : Prop :=
 ∀ _ : Nat → Value,
 ifB s18.1
 (K (.slice none 0 0) w19)
 (rx Tryz.prog (bigS 108 v15) w19 fun v37 w38 =>
 rx Tryz.prog (xLit 45 1 [(0, v37)]) w38 fun v39 w40 =>
 rx Tryz.prog (xAppend #[45, 45] 45 [s8.1, v39]) w40 fun v41 w42 =>
 rv Tryz.prog (bin .add 27 true s8.2.1 (.int .u64 1)) w42 fun v43 w44 =>
 K10 (v41, v43, ()) w44)
def L66_1 (v6 : Value) (a2 : Value) (v0 : Value) (K : Kont) (s8 : Value × Value × Unit) (w9 : World) (K10 : Value × Value × Unit → World → Prop) : Prop :=
 ∀ _ : Nat → Value,
 rv Tryz.prog (bin .lss 27 false s8.2.1 v6) w9 fun v11 w12 =>
 ifB v11
 (callV Tryz.prog a2 [] w12 fun v13 w14 =>
 rx Tryz.prog (bigA 108) w14 fun v15 w16 =>
 rux Tryz.prog (bigU 108 v15 v13) w16 fun w17 =>
 JoinW (S := Value × Unit) (fun J20 =>
 rv Tryz.prog (Instr.fieldAt 139 v0 0) w17 fun v21 w22 =>
 rv Tryz.prog (Instr.loadAt 136 v21) w22 fun v23 w24 =>
 Ca Tryz.prog 147 #[v23] w24 fun v25 w26 =>
 rv Tryz.prog (bin .eql 3 true v25 (.int .i64 0)) w26 fun v27 w28 =>
 ifB v27
 (rv Tryz.prog (Instr.fieldAt 139 v0 0) w28 fun v29 w30 =>
 rv Tryz.prog (Instr.loadAt 136 v29) w30 fun v31 w32 =>
 Ca Tryz.prog 74 #[v31] w32 fun v33 w34 =>
 rv Tryz.prog (bin .neq 26 true v33 (.int .i64 0)) w34 fun v35 w36 =>
 J20 (v35, ()) w36)
 (J20 ((.bool false), ()) w28))
 (J66_0 K v15 s8 K10))
 (K s8.1 w12)
def F66 (a0 a1 a2 : Value) (w : World) (K : Kont) : Prop :=
 rv Tryz.prog (Instr.box 139 a0) w fun v0 w1 =>
 rv Tryz.prog (Instr.fieldAt 139 v0 0) w1 fun v2 w3 =>
 rv Tryz.prog (Instr.loadAt 136 v2) w3 fun v4 w5 =>
 Ca Tryz.prog 69 #[v4, a1] w5 fun v6 w7 =>
 LoopW (S := Value × Value × Unit) (L66_1 v6 a2 v0 K) ((.slice none 0 0), (.int .u64 0), ()) w7
theorem F66_eq (a0 a1 a2 : Value) (w : World) (K : Kont) : vcFnJ Tryz.prog Tryz.f66 [a0, a1, a2] w K = F66 a0 a1 a2 w K := by kernel_rfl
theorem F66_ok : okF Tryz.prog Tryz.f66 3 = true := by kernel_rfl
theorem ca66{a0 a1 a2 : Value} {w : World} {K : Kont} (h : F66 a0 a1 a2 w K) : Ca Tryz.prog 66 #[a0, a1, a2] w K :=
  ca_of_vcJ Tryz.noNum Tryz.func66 F66_ok (by rw [F66_eq]; exact h)
def J70_0 (K : Kont) (v15 : Value) (s8 : Value × Value × Unit) (K10 : Value × Value × Unit → World → Prop) (s18 : Value × Unit) (w19 : World) : Prop :=
 ∀ _ : Nat → Value,
 ifB s18.1
 (K (.slice none 0 0) w19)
 (rv Tryz.prog (Instr.loadAt 112 v15) w19 fun v37 w38 =>
 rx Tryz.prog (xLit 46 1 [(0, v37)]) w38 fun v39 w40 =>
 rx Tryz.prog (xAppend #[46, 46] 46 [s8.1, v39]) w40 fun v41 w42 =>
 rv Tryz.prog (bin .add 27 true s8.2.1 (.int .u64 1)) w42 fun v43 w44 =>
 K10 (v41, v43, ()) w44)
def L70_1 (v6 : Value) (a2 : Value) (v0 : Value) (K : Kont) (s8 : Value × Value × Unit) (w9 : World) (K10 : Value × Value × Unit → World → Prop) : Prop :=
 ∀ _ : Nat → Value,
 rv Tryz.prog (bin .lss 27 false s8.2.1 v6) w9 fun v11 w12 =>
 ifB v11
 (callV Tryz.prog a2 [] w12 fun v13 w14 =>
 rv Tryz.prog (Instr.alloc 112 true (.tuple #[])) w14 fun v15 w16 =>
 ru Tryz.prog (Instr.storeAt 112 v15 v13) w16 fun w17 =>
 JoinW (S := Value × Unit) (fun J20 =>
 rv Tryz.prog (Instr.fieldAt 139 v0 0) w17 fun v21 w22 =>
 rv Tryz.prog (Instr.loadAt 136 v21) w22 fun v23 w24 =>
 Ca Tryz.prog 147 #[v23] w24 fun v25 w26 =>
 rv Tryz.prog (bin .eql 3 true v25 (.int .i64 0)) w26 fun v27 w28 =>
 ifB v27
 (rv Tryz.prog (Instr.fieldAt 139 v0 0) w28 fun v29 w30 =>
 rv Tryz.prog (Instr.loadAt 136 v29) w30 fun v31 w32 =>
 Ca Tryz.prog 74 #[v31] w32 fun v33 w34 =>
 rv Tryz.prog (bin .neq 26 true v33 (.int .i64 0)) w34 fun v35 w36 =>
 J20 (v35, ()) w36)
 (J20 ((.bool false), ()) w28))
 (J70_0 K v15 s8 K10))
 (K s8.1 w12)
def F70 (a0 a1 a2 : Value) (w : World) (K : Kont) : Prop :=
 rv Tryz.prog (Instr.box 139 a0) w fun v0 w1 =>
 rv Tryz.prog (Instr.fieldAt 139 v0 0) w1 fun v2 w3 =>
 rv Tryz.prog (Instr.loadAt 136 v2) w3 fun v4 w5 =>
 Ca Tryz.prog 69 #[v4, a1] w5 fun v6 w7 =>
 LoopW (S := Value × Value × Unit) (L70_1 v6 a2 v0 K) ((.slice none 0 0), (.int .u64 0), ()) w7
theorem F70_eq (a0 a1 a2 : Value) (w : World) (K : Kont) : vcFnJ Tryz.prog Tryz.f70 [a0, a1, a2] w K = F70 a0 a1 a2 w K := by kernel_rfl
theorem F70_ok : okF Tryz.prog Tryz.f70 3 = true := by kernel_rfl
theorem ca70{a0 a1 a2 : Value} {w : World} {K : Kont} (h : F70 a0 a1 a2 w K) : Ca Tryz.prog 70 #[a0, a1, a2] w K :=
  ca_of_vcJ Tryz.noNum Tryz.func70 F70_ok (by rw [F70_eq]; exact h)
def J72_0 (K : Kont) (v15 : Value) (s8 : Value × Value × Unit) (K10 : Value × Value × Unit → World → Prop) (s18 : Value × Unit) (w19 : World) : Prop :=
 ∀ _ : Nat → Value,
 ifB s18.1
 (K (.slice none 0 0) w19)
 (rv Tryz.prog (Instr.loadAt 119 v15) w19 fun v37 w38 =>
 rx Tryz.prog (xLit 47 1 [(0, v37)]) w38 fun v39 w40 =>
 rx Tryz.prog (xAppend #[47, 47] 47 [s8.1, v39]) w40 fun v41 w42 =>
 rv Tryz.prog (bin .add 27 true s8.2.1 (.int .u64 1)) w42 fun v43 w44 =>
 K10 (v41, v43, ()) w44)
def L72_1 (v6 : Value) (a2 : Value) (v0 : Value) (K : Kont) (s8 : Value × Value × Unit) (w9 : World) (K10 : Value × Value × Unit → World → Prop) : Prop :=
 ∀ _ : Nat → Value,
 rv Tryz.prog (bin .lss 27 false s8.2.1 v6) w9 fun v11 w12 =>
 ifB v11
 (callV Tryz.prog a2 [] w12 fun v13 w14 =>
 rv Tryz.prog (Instr.alloc 119 true (.tuple #[])) w14 fun v15 w16 =>
 ru Tryz.prog (Instr.storeAt 119 v15 v13) w16 fun w17 =>
 JoinW (S := Value × Unit) (fun J20 =>
 rv Tryz.prog (Instr.fieldAt 139 v0 0) w17 fun v21 w22 =>
 rv Tryz.prog (Instr.loadAt 136 v21) w22 fun v23 w24 =>
 Ca Tryz.prog 147 #[v23] w24 fun v25 w26 =>
 rv Tryz.prog (bin .eql 3 true v25 (.int .i64 0)) w26 fun v27 w28 =>
 ifB v27
 (rv Tryz.prog (Instr.fieldAt 139 v0 0) w28 fun v29 w30 =>
 rv Tryz.prog (Instr.loadAt 136 v29) w30 fun v31 w32 =>
 Ca Tryz.prog 74 #[v31] w32 fun v33 w34 =>
 rv Tryz.prog (bin .neq 26 true v33 (.int .i64 0)) w34 fun v35 w36 =>
 J20 (v35, ()) w36)
 (J20 ((.bool false), ()) w28))
 (J72_0 K v15 s8 K10))
 (K s8.1 w12)
def F72 (a0 a1 a2 : Value) (w : World) (K : Kont) : Prop :=
 rv Tryz.prog (Instr.box 139 a0) w fun v0 w1 =>
 rv Tryz.prog (Instr.fieldAt 139 v0 0) w1 fun v2 w3 =>
 rv Tryz.prog (Instr.loadAt 136 v2) w3 fun v4 w5 =>
 Ca Tryz.prog 69 #[v4, a1] w5 fun v6 w7 =>
 LoopW (S := Value × Value × Unit) (L72_1 v6 a2 v0 K) ((.slice none 0 0), (.int .u64 0), ()) w7
theorem F72_eq (a0 a1 a2 : Value) (w : World) (K : Kont) : vcFnJ Tryz.prog Tryz.f72 [a0, a1, a2] w K = F72 a0 a1 a2 w K := by kernel_rfl
theorem F72_ok : okF Tryz.prog Tryz.f72 3 = true := by kernel_rfl
theorem ca72{a0 a1 a2 : Value} {w : World} {K : Kont} (h : F72 a0 a1 a2 w K) : Ca Tryz.prog 72 #[a0, a1, a2] w K :=
  ca_of_vcJ Tryz.noNum Tryz.func72 F72_ok (by rw [F72_eq]; exact h)
def F64 (a0 : Value) (w : World) (K : Kont) : Prop :=
 rv Tryz.prog (Instr.alloc 92 true (.tuple #[])) w fun v0 w1 =>
 rdW Tryz.prog (Instr.loadAt 139 a0) w1.drew fun v2 =>
 rdP Tryz.prog (Instr.fieldAt 139 a0 0) fun v3 =>
 rdW Tryz.prog (Instr.loadAt 136 v3) w1.drew fun v4 =>
 Ca Tryz.prog 60 #[v2] w1.drew fun v5 w6 =>
 Sem.run Tryz.prog (Instr.loadAt 136 v3) w6 = .ok v4 w6 ∧ 
 (rdP Tryz.prog (Instr.fieldAt 92 v0 0) fun v7 =>
 Ca Tryz.prog 62 #[v4] w6 fun v8 w9 =>
 ru Tryz.prog (Instr.storeAt 35 v7 v5) w9 fun w10 =>
 rdP Tryz.prog (Instr.fieldAt 92 v0 1) fun v11 =>
 ru Tryz.prog (Instr.storeAt 2 v11 v8) w10 fun w12 =>
 rdP Tryz.prog (Instr.fieldAt 139 a0 0) fun v13 =>
 rdW Tryz.prog (Instr.loadAt 136 v13) w12.drew fun v14 =>
 rdP Tryz.prog (Instr.fieldAt 139 a0 0) fun v15 =>
 rdW Tryz.prog (Instr.loadAt 136 v15) w12.drew fun v16 =>
 Ca Tryz.prog 65 #[v14] w12.drew fun v17 w18 =>
 Sem.run Tryz.prog (Instr.loadAt 136 v15) w18 = .ok v16 w18 ∧ 
 (rdP Tryz.prog (Instr.fieldAt 92 v0 2) fun v19 =>
 Ca Tryz.prog 65 #[v16] w18 fun v20 w21 =>
 ru Tryz.prog (Instr.storeAt 4 v19 v17) w21 fun w22 =>
 rdP Tryz.prog (Instr.fieldAt 92 v0 3) fun v23 =>
 ru Tryz.prog (Instr.storeAt 4 v23 v20) w22 fun w24 =>
 rv Tryz.prog (Instr.loadAt 92 v0) w24 fun v25 w26 =>
 ru Tryz.prog (Instr.storeAt 92 v0 v25) w26 fun w27 =>
 rdW Tryz.prog (Instr.loadAt 92 v0) w27 fun v28 =>
 K v28 w27))
theorem F64_eq (a0 : Value) (w : World) (K : Kont) : vcFnJ Tryz.prog Tryz.f64 [a0] w K = F64 a0 w K := by kernel_rfl
theorem F64_ok : okF Tryz.prog Tryz.f64 1 = true := by kernel_rfl
theorem ca64{a0 : Value} {w : World} {K : Kont} (h : F64 a0 w K) : Ca Tryz.prog 64 #[a0] w K :=
  ca_of_vcJ Tryz.noNum Tryz.func64 F64_ok (by rw [F64_eq]; exact h)
def F67 (a0 : Value) (w : World) (K : Kont) : Prop :=
 rx Tryz.prog (bigA 108) w fun v0 w1 =>
 rv Tryz.prog (Instr.fieldAt 139 a0 0) w1 fun v2 w3 =>
 rv Tryz.prog (Instr.loadAt 136 v2) w3 fun v4 w5 =>
 Ca Tryz.prog 68 #[v4] w5 fun v6 w7 =>
 rv Tryz.prog (Instr.fieldAt 108 v0 0) w7 fun v8 w9 =>
 rux Tryz.prog (bigU 38 v8 v6) w9 fun w10 =>
 rv Tryz.prog (Instr.fieldAt 139 a0 0) w10 fun v11 w12 =>
 rv Tryz.prog (Instr.loadAt 136 v11) w12 fun v13 w14 =>
 Ca Tryz.prog 69 #[v13, (.int .u64 255)] w14 fun v15 w16 =>
 rv Tryz.prog (convert 27 106 v15) w16 fun v17 w18 =>
 rv Tryz.prog (Instr.fieldAt 108 v0 1) w18 fun v19 w20 =>
 ru Tryz.prog (Instr.storeAt 106 v19 v17) w20 fun w21 =>
 rv Tryz.prog (Instr.fieldAt 139 a0 0) w21 fun v22 w23 =>
 rv Tryz.prog (Instr.loadAt 136 v22) w23 fun v24 w25 =>
 Ca Tryz.prog 62 #[v24] w25 fun v26 w27 =>
 rv Tryz.prog (Instr.fieldAt 108 v0 2) w27 fun v28 w29 =>
 ru Tryz.prog (Instr.storeAt 2 v28 v26) w29 fun w30 =>
 rx Tryz.prog (bigS 108 v0) w30 fun v31 w32 =>
 rux Tryz.prog (bigU 108 v0 v31) w32 fun w33 =>
 rdX Tryz.prog (bigS 108 v0) w33 fun v34 =>
 K v34 w33
theorem F67_eq (a0 : Value) (w : World) (K : Kont) : vcFnJ Tryz.prog Tryz.f67 [a0] w K = F67 a0 w K := by kernel_rfl
theorem F67_ok : okF Tryz.prog Tryz.f67 1 = true := by kernel_rfl
theorem ca67{a0 : Value} {w : World} {K : Kont} (h : F67 a0 w K) : Ca Tryz.prog 67 #[a0] w K :=
  ca_of_vcJ Tryz.noNum Tryz.func67 F67_ok (by rw [F67_eq]; exact h)
def F71 (a0 : Value) (w : World) (K : Kont) : Prop :=
 rv Tryz.prog (Instr.alloc 112 true (.tuple #[])) w fun v0 w1 =>
 rdW Tryz.prog (Instr.loadAt 139 a0) w1.drew fun v2 =>
 rdW Tryz.prog (Instr.loadAt 139 a0) w1.drew fun v3 =>
 Ca Tryz.prog 60 #[v2] w1.drew fun v4 w5 =>
 Sem.run Tryz.prog (Instr.loadAt 139 a0) w5 = .ok v3 w5 ∧ 
 (rdP Tryz.prog (Instr.fieldAt 112 v0 0) fun v6 =>
 Ca Tryz.prog 60 #[v3] w5 fun v7 w8 =>
 ru Tryz.prog (Instr.storeAt 35 v6 v4) w8 fun w9 =>
 rdP Tryz.prog (Instr.fieldAt 112 v0 1) fun v10 =>
 ru Tryz.prog (Instr.storeAt 35 v10 v7) w9 fun w11 =>
 rdP Tryz.prog (Instr.fieldAt 139 a0 0) fun v12 =>
 rdW Tryz.prog (Instr.loadAt 136 v12) w11.drew fun v13 =>
 rdP Tryz.prog (Instr.fieldAt 139 a0 0) fun v14 =>
 rdW Tryz.prog (Instr.loadAt 136 v14) w11.drew fun v15 =>
 Ca Tryz.prog 62 #[v13] w11.drew fun v16 w17 =>
 Sem.run Tryz.prog (Instr.loadAt 136 v14) w17 = .ok v15 w17 ∧ 
 (rdP Tryz.prog (Instr.fieldAt 112 v0 2) fun v18 =>
 Ca Tryz.prog 62 #[v15] w17 fun v19 w20 =>
 ru Tryz.prog (Instr.storeAt 2 v18 v16) w20 fun w21 =>
 rdP Tryz.prog (Instr.fieldAt 112 v0 3) fun v22 =>
 ru Tryz.prog (Instr.storeAt 2 v22 v19) w21 fun w23 =>
 rv Tryz.prog (Instr.loadAt 112 v0) w23 fun v24 w25 =>
 ru Tryz.prog (Instr.storeAt 112 v0 v24) w25 fun w26 =>
 rdW Tryz.prog (Instr.loadAt 112 v0) w26 fun v27 =>
 K v27 w26))
theorem F71_eq (a0 : Value) (w : World) (K : Kont) : vcFnJ Tryz.prog Tryz.f71 [a0] w K = F71 a0 w K := by kernel_rfl
theorem F71_ok : okF Tryz.prog Tryz.f71 1 = true := by kernel_rfl
theorem ca71{a0 : Value} {w : World} {K : Kont} (h : F71 a0 w K) : Ca Tryz.prog 71 #[a0] w K :=
  ca_of_vcJ Tryz.noNum Tryz.func71 F71_ok (by rw [F71_eq]; exact h)
def F18 (a0 : Value) (w : World) (K : Kont) : Prop :=
 rv Tryz.prog (Instr.alloc 49 true (.tuple #[])) w fun v0 w1 =>
 Ca Tryz.prog 59 #[a0] w1 fun v2 w3 =>
 rv Tryz.prog (Instr.build 139 #[(0, v2)]) w3 fun v4 w5 =>
 rv Tryz.prog (Instr.alloc 139 true (.tuple #[])) w5 fun v6 w7 =>
 ru Tryz.prog (Instr.storeAt 139 v6 v4) w7 fun w8 =>
 rv Tryz.prog (Instr.alloc 49 true (.tuple #[])) w8 fun v9 w10 =>
 rdW Tryz.prog (Instr.loadAt 139 v6) w10.drew fun v11 =>
 rdP Tryz.prog (Instr.fieldAt 139 v6 0) fun v12 =>
 rdW Tryz.prog (Instr.loadAt 136 v12) w10.drew fun v13 =>
 rdP Tryz.prog (Instr.fieldAt 139 v6 0) fun v14 =>
 rdW Tryz.prog (Instr.loadAt 136 v14) w10.drew fun v15 =>
 Ca Tryz.prog 60 #[v11] w10.drew fun v16 w17 =>
 Sem.run Tryz.prog (Instr.loadAt 136 v14) w17 = .ok v15 w17 ∧ Sem.run Tryz.prog (Instr.loadAt 136 v12) w17 = .ok v13 w17 ∧ 
 (rdP Tryz.prog (Instr.fieldAt 49 v9 0) fun v18 =>
 Ca Tryz.prog 61 #[v13] w17 fun v19 w20 =>
 Sem.run Tryz.prog (Instr.loadAt 136 v14) w20 = .ok v15 w20 ∧ 
 (Ca Tryz.prog 62 #[v15] w20 fun v21 w22 =>
 ru Tryz.prog (Instr.storeAt 35 v18 v16) w22 fun w23 =>
 rdP Tryz.prog (Instr.fieldAt 49 v9 1) fun v24 =>
 ru Tryz.prog (Instr.storeAt 27 v24 v19) w23 fun w25 =>
 rdP Tryz.prog (Instr.fieldAt 49 v9 2) fun v26 =>
 ru Tryz.prog (Instr.storeAt 2 v26 v21) w25 fun w27 =>
 rv Tryz.prog (Instr.loadAt 139 v6) w27 fun v28 w29 =>
 Ca Tryz.prog 63 #[v28, (.int .u64 64), (.func (.func 64) #[] #[v6])] w29 fun v30 w31 =>
 rv Tryz.prog (Instr.fieldAt 49 v9 3) w31 fun v32 w33 =>
 ru Tryz.prog (Instr.storeAt 44 v32 v30) w33 fun w34 =>
 rv Tryz.prog (Instr.loadAt 139 v6) w34 fun v35 w36 =>
 Ca Tryz.prog 66 #[v35, (.int .u64 16), (.func (.func 67) #[] #[v6])] w36 fun v37 w38 =>
 rv Tryz.prog (Instr.fieldAt 49 v9 4) w38 fun v39 w40 =>
 ru Tryz.prog (Instr.storeAt 45 v39 v37) w40 fun w41 =>
 rv Tryz.prog (Instr.loadAt 139 v6) w41 fun v42 w43 =>
 Ca Tryz.prog 70 #[v42, (.int .u64 1024), (.func (.func 71) #[] #[v6])] w43 fun v44 w45 =>
 rv Tryz.prog (Instr.fieldAt 49 v9 5) w45 fun v46 w47 =>
 ru Tryz.prog (Instr.storeAt 46 v46 v44) w47 fun w48 =>
 rv Tryz.prog (Instr.loadAt 139 v6) w48 fun v49 w50 =>
 rv Tryz.prog (Instr.loadAt 139 v6) w50 fun v51 w52 =>
 Ca Tryz.prog 72 #[v49, (.int .u64 3200), (.func (.func 73) #[v51] #[])] w52 fun v53 w54 =>
 rv Tryz.prog (Instr.fieldAt 49 v9 6) w54 fun v55 w56 =>
 ru Tryz.prog (Instr.storeAt 47 v55 v53) w56 fun w57 =>
 rv Tryz.prog (Instr.loadAt 139 v6) w57 fun v58 w59 =>
 rv Tryz.prog (Instr.loadAt 139 v6) w59 fun v60 w61 =>
 Ca Tryz.prog 72 #[v58, (.int .u64 800), (.func (.func 73) #[v60] #[])] w61 fun v62 w63 =>
 rv Tryz.prog (Instr.fieldAt 49 v9 7) w63 fun v64 w65 =>
 ru Tryz.prog (Instr.storeAt 47 v64 v62) w65 fun w66 =>
 rv Tryz.prog (Instr.fieldAt 139 v6 0) w66 fun v67 w68 =>
 rv Tryz.prog (Instr.loadAt 136 v67) w68 fun v69 w70 =>
 Ca Tryz.prog 74 #[v69] w70 fun v71 w72 =>
 rv Tryz.prog (bin .neq 26 true v71 (.int .i64 0)) w72 fun v73 w74 =>
 ifB v73
 (rv Tryz.prog (Instr.build 49 #[]) w74 fun v75 w76 =>
 ru Tryz.prog (Instr.storeAt 49 v0 v75) w76 fun w77 =>
 rdW Tryz.prog (Instr.loadAt 49 v0) w77 fun v78 =>
 K (.tuple #[v78, (.int .i64 5)]) w77)
 (rv Tryz.prog (Instr.loadAt 49 v9) w74 fun v79 w80 =>
 Ca Tryz.prog 13 #[v79] w80 fun v81 w82 =>
 rv Tryz.prog (Instr.extract v81 0) w82 fun v83 w84 =>
 rv Tryz.prog (Instr.extract v81 1) w84 fun v85 w86 =>
 rv Tryz.prog (bin .neq 26 true v85 (.int .i64 0)) w86 fun v87 w88 =>
 ifB v87
 (rv Tryz.prog (Instr.build 49 #[]) w88 fun v89 w90 =>
 ru Tryz.prog (Instr.storeAt 49 v0 v89) w90 fun w91 =>
 rdW Tryz.prog (Instr.loadAt 49 v0) w91 fun v92 =>
 K (.tuple #[v92, (.int .i64 5)]) w91)
 (rv Tryz.prog (Instr.loadAt 49 v9) w88 fun v93 w94 =>
 ru Tryz.prog (Instr.storeAt 49 v0 v93) w94 fun w95 =>
 rdW Tryz.prog (Instr.loadAt 49 v0) w95 fun v96 =>
 K (.tuple #[v96, (.int .i64 0)]) w95))))
theorem F18_eq (a0 : Value) (w : World) (K : Kont) : vcFnJ Tryz.prog Tryz.f18 [a0] w K = F18 a0 w K := by kernel_rfl
theorem F18_ok : okF Tryz.prog Tryz.f18 1 = true := by kernel_rfl
theorem ca18{a0 : Value} {w : World} {K : Kont} (h : F18 a0 w K) : Ca Tryz.prog 18 #[a0] w K :=
  ca_of_vcJ Tryz.noNum Tryz.func18 F18_ok (by rw [F18_eq]; exact h)
def F20 (a0 : Value) (w : World) (K : Kont) : Prop :=
 Ca Tryz.prog 18 #[a0] w fun v0 w1 =>
 rv Tryz.prog (Instr.extract v0 0) w1 fun v2 w3 =>
 rv Tryz.prog (Instr.extract v0 1) w3 fun v4 w5 =>
 rv Tryz.prog (Instr.alloc 49 true (.tuple #[])) w5 fun v6 w7 =>
 ru Tryz.prog (Instr.storeAt 49 v6 v2) w7 fun w8 =>
 rv Tryz.prog (bin .neq 26 true v4 (.int .i64 0)) w8 fun v9 w10 =>
 ifB v9
 (K (.tuple #[(.pointer none), v4]) w10)
 (rv Tryz.prog (Instr.loadAt 49 v6) w10 fun v11 w12 =>
 Ca Tryz.prog 13 #[v11] w12 fun v13 w14 =>
 rv Tryz.prog (Instr.extract v13 0) w14 fun v15 w16 =>
 rv Tryz.prog (Instr.extract v13 1) w16 fun v17 w18 =>
 K (.tuple #[v15, v17]) w18)
theorem F20_eq (a0 : Value) (w : World) (K : Kont) : vcFnJ Tryz.prog Tryz.f20 [a0] w K = F20 a0 w K := by kernel_rfl
theorem F20_ok : okF Tryz.prog Tryz.f20 1 = true := by kernel_rfl
theorem ca20{a0 : Value} {w : World} {K : Kont} (h : F20 a0 w K) : Ca Tryz.prog 20 #[a0] w K :=
  ca_of_vcJ Tryz.noNum Tryz.func20 F20_ok (by rw [F20_eq]; exact h)
def F21 (a0 : Value) (w : World) (K : Kont) : Prop :=
 Ca Tryz.prog 43 #[a0] w fun v0 w1 =>
 rv Tryz.prog (bin .eql 23 true v0 (.pointer none)) w1 fun v2 w3 =>
 ifB v2
 (K (.tuple #[(.slice none 0 0), (.int .i64 1)]) w3)
 (Ca Tryz.prog 14 #[a0] w3 fun v4 w5 =>
 Ca Tryz.prog 82 #[v4] w5 fun v6 w7 =>
 K (.tuple #[v6, (.int .i64 0)]) w7)
theorem F21_eq (a0 : Value) (w : World) (K : Kont) : vcFnJ Tryz.prog Tryz.f21 [a0] w K = F21 a0 w K := by kernel_rfl
theorem F21_ok : okF Tryz.prog Tryz.f21 1 = true := by kernel_rfl
theorem ca21{a0 : Value} {w : World} {K : Kont} (h : F21 a0 w K) : Ca Tryz.prog 21 #[a0] w K :=
  ca_of_vcJ Tryz.noNum Tryz.func21 F21_ok (by rw [F21_eq]; exact h)
def F82 (a0 : Value) (w : World) (K : Kont) : Prop :=
 rv Tryz.prog (Instr.box 49 a0) w fun v0 w1 =>
 rdP Tryz.prog (Instr.fieldAt 49 v0 0) fun v2 =>
 rdW Tryz.prog (Instr.loadAt 35 v2) w1.drew fun v3 =>
 rdW Tryz.prog (convert 35 27 v3) w1.drew fun v4 =>
 rdP Tryz.prog (Instr.fieldAt 49 v0 1) fun v5 =>
 rdW Tryz.prog (Instr.loadAt 27 v5) w1.drew fun v6 =>
 rdP Tryz.prog (Instr.fieldAt 49 v0 2) fun v7 =>
 rdW Tryz.prog (Instr.loadAt 2 v7) w1.drew fun v8 =>
 Ca Tryz.prog 100 #[(.slice none 0 0), v4] w1.drew fun v9 w10 =>
 Sem.run Tryz.prog (Instr.loadAt 2 v7) w10 = .ok v8 w10 ∧ Sem.run Tryz.prog (Instr.loadAt 27 v5) w10 = .ok v6 w10 ∧ 
 (Ca Tryz.prog 100 #[v9, v6] w10 fun v11 w12 =>
 Sem.run Tryz.prog (Instr.loadAt 2 v7) w12 = .ok v8 w12 ∧ 
 (Ca Tryz.prog 154 #[v11, v8] w12 fun v13 w14 =>
 rv Tryz.prog (Instr.fieldAt 49 v0 3) w14 fun v15 w16 =>
 rv Tryz.prog (Instr.loadAt 44 v15) w16 fun v17 w18 =>
 Ca Tryz.prog 155 #[v13, v17, (.func (.func 156) #[] #[])] w18 fun v19 w20 =>
 rv Tryz.prog (Instr.fieldAt 49 v0 4) w20 fun v21 w22 =>
 rv Tryz.prog (Instr.loadAt 45 v21) w22 fun v23 w24 =>
 Ca Tryz.prog 158 #[v19, v23, (.func (.func 159) #[] #[])] w24 fun v25 w26 =>
 rv Tryz.prog (Instr.fieldAt 49 v0 5) w26 fun v27 w28 =>
 rv Tryz.prog (Instr.loadAt 46 v27) w28 fun v29 w30 =>
 Ca Tryz.prog 161 #[v25, v29, (.func (.func 162) #[] #[])] w30 fun v31 w32 =>
 rdP Tryz.prog (Instr.fieldAt 49 v0 6) fun v33 =>
 rdW Tryz.prog (Instr.loadAt 47 v33) w32.drew fun v34 =>
 rdP Tryz.prog (Instr.fieldAt 49 v0 7) fun v35 =>
 rdW Tryz.prog (Instr.loadAt 47 v35) w32.drew fun v36 =>
 Ca Tryz.prog 163 #[v31, v34, (.func (.func 164) #[] #[])] w32.drew fun v37 w38 =>
 Sem.run Tryz.prog (Instr.loadAt 47 v35) w38 = .ok v36 w38 ∧ 
 (Ca Tryz.prog 163 #[v37, v36, (.func (.func 164) #[] #[])] w38 fun v39 w40 =>
 K v39 w40)))
theorem F82_eq (a0 : Value) (w : World) (K : Kont) : vcFnJ Tryz.prog Tryz.f82 [a0] w K = F82 a0 w K := by kernel_rfl
theorem F82_ok : okF Tryz.prog Tryz.f82 1 = true := by kernel_rfl
theorem ca82{a0 : Value} {w : World} {K : Kont} (h : F82 a0 w K) : Ca Tryz.prog 82 #[a0] w K :=
  ca_of_vcJ Tryz.noNum Tryz.func82 F82_ok (by rw [F82_eq]; exact h)
def L155_0 (v6 : Value) (a1 : Value) (a2 : Value) (K : Kont) (s8 : Value × Value × Unit) (w9 : World) (K10 : Value × Value × Unit → World → Prop) : Prop :=
 ∀ _ : Nat → Value,
 rv Tryz.prog (bin .lss 3 false s8.2.1 v6) w9 fun v11 w12 =>
 ifB v11
 (rv Tryz.prog (Instr.indexAt 44 a1 s8.2.1) w12 fun v13 w14 =>
 rv Tryz.prog (Instr.loadAt 92 v13) w14 fun v15 w16 =>
 rv Tryz.prog (Instr.alloc 92 true (.tuple #[])) w16 fun v17 w18 =>
 ru Tryz.prog (Instr.storeAt 92 v17 v15) w18 fun w19 =>
 rv Tryz.prog (Instr.loadAt 92 v17) w19 fun v20 w21 =>
 callV Tryz.prog a2 [s8.1, v20] w21 fun v22 w23 =>
 rv Tryz.prog (bin .add 3 true s8.2.1 (.int .i64 1)) w23 fun v24 w25 =>
 K10 (v22, v24, ()) w25)
 (K s8.1 w12)
def F155 (a0 a1 a2 : Value) (w : World) (K : Kont) : Prop :=
 rn Tryz.prog (builtin .len #[44] 3 #[false] #[a1]) w fun v0 w1 =>
 rv Tryz.prog (convert 3 27 v0) w1 fun v2 w3 =>
 Ca Tryz.prog 100 #[a0, v2] w3 fun v4 w5 =>
 rn Tryz.prog (builtin .len #[44] 3 #[false] #[a1]) w5 fun v6 w7 =>
 LoopW (S := Value × Value × Unit) (L155_0 v6 a1 a2 K) (v4, (.int .i64 0), ()) w7
theorem F155_eq (a0 a1 a2 : Value) (w : World) (K : Kont) : vcFnJ Tryz.prog Tryz.f155 [a0, a1, a2] w K = F155 a0 a1 a2 w K := by kernel_rfl
theorem F155_ok : okF Tryz.prog Tryz.f155 3 = true := by kernel_rfl
theorem ca155{a0 a1 a2 : Value} {w : World} {K : Kont} (h : F155 a0 a1 a2 w K) : Ca Tryz.prog 155 #[a0, a1, a2] w K :=
  ca_of_vcJ Tryz.noNum Tryz.func155 F155_ok (by rw [F155_eq]; exact h)
def L158_0 (v6 : Value) (a1 : Value) (a2 : Value) (K : Kont) (s8 : Value × Value × Unit) (w9 : World) (K10 : Value × Value × Unit → World → Prop) : Prop :=
 ∀ _ : Nat → Value,
 rv Tryz.prog (bin .lss 3 false s8.2.1 v6) w9 fun v11 w12 =>
 ifB v11
 (rv Tryz.prog (Instr.indexAt 45 a1 s8.2.1) w12 fun v13 w14 =>
 rx Tryz.prog (bigS 108 v13) w14 fun v15 w16 =>
 rx Tryz.prog (bigA 108) w16 fun v17 w18 =>
 rux Tryz.prog (bigU 108 v17 v15) w18 fun w19 =>
 rx Tryz.prog (bigS 108 v17) w19 fun v20 w21 =>
 callV Tryz.prog a2 [s8.1, v20] w21 fun v22 w23 =>
 rv Tryz.prog (bin .add 3 true s8.2.1 (.int .i64 1)) w23 fun v24 w25 =>
 K10 (v22, v24, ()) w25)
 (K s8.1 w12)
def F158 (a0 a1 a2 : Value) (w : World) (K : Kont) : Prop :=
 rn Tryz.prog (builtin .len #[45] 3 #[false] #[a1]) w fun v0 w1 =>
 rv Tryz.prog (convert 3 27 v0) w1 fun v2 w3 =>
 Ca Tryz.prog 100 #[a0, v2] w3 fun v4 w5 =>
 rn Tryz.prog (builtin .len #[45] 3 #[false] #[a1]) w5 fun v6 w7 =>
 LoopW (S := Value × Value × Unit) (L158_0 v6 a1 a2 K) (v4, (.int .i64 0), ()) w7
theorem F158_eq (a0 a1 a2 : Value) (w : World) (K : Kont) : vcFnJ Tryz.prog Tryz.f158 [a0, a1, a2] w K = F158 a0 a1 a2 w K := by kernel_rfl
theorem F158_ok : okF Tryz.prog Tryz.f158 3 = true := by kernel_rfl
theorem ca158{a0 a1 a2 : Value} {w : World} {K : Kont} (h : F158 a0 a1 a2 w K) : Ca Tryz.prog 158 #[a0, a1, a2] w K :=
  ca_of_vcJ Tryz.noNum Tryz.func158 F158_ok (by rw [F158_eq]; exact h)
def L161_0 (v6 : Value) (a1 : Value) (a2 : Value) (K : Kont) (s8 : Value × Value × Unit) (w9 : World) (K10 : Value × Value × Unit → World → Prop) : Prop :=
 ∀ _ : Nat → Value,
 rv Tryz.prog (bin .lss 3 false s8.2.1 v6) w9 fun v11 w12 =>
 ifB v11
 (rv Tryz.prog (Instr.indexAt 46 a1 s8.2.1) w12 fun v13 w14 =>
 rv Tryz.prog (Instr.loadAt 112 v13) w14 fun v15 w16 =>
 rv Tryz.prog (Instr.alloc 112 true (.tuple #[])) w16 fun v17 w18 =>
 ru Tryz.prog (Instr.storeAt 112 v17 v15) w18 fun w19 =>
 rv Tryz.prog (Instr.loadAt 112 v17) w19 fun v20 w21 =>
 callV Tryz.prog a2 [s8.1, v20] w21 fun v22 w23 =>
 rv Tryz.prog (bin .add 3 true s8.2.1 (.int .i64 1)) w23 fun v24 w25 =>
 K10 (v22, v24, ()) w25)
 (K s8.1 w12)
def F161 (a0 a1 a2 : Value) (w : World) (K : Kont) : Prop :=
 rn Tryz.prog (builtin .len #[46] 3 #[false] #[a1]) w fun v0 w1 =>
 rv Tryz.prog (convert 3 27 v0) w1 fun v2 w3 =>
 Ca Tryz.prog 100 #[a0, v2] w3 fun v4 w5 =>
 rn Tryz.prog (builtin .len #[46] 3 #[false] #[a1]) w5 fun v6 w7 =>
 LoopW (S := Value × Value × Unit) (L161_0 v6 a1 a2 K) (v4, (.int .i64 0), ()) w7
theorem F161_eq (a0 a1 a2 : Value) (w : World) (K : Kont) : vcFnJ Tryz.prog Tryz.f161 [a0, a1, a2] w K = F161 a0 a1 a2 w K := by kernel_rfl
theorem F161_ok : okF Tryz.prog Tryz.f161 3 = true := by kernel_rfl
theorem ca161{a0 a1 a2 : Value} {w : World} {K : Kont} (h : F161 a0 a1 a2 w K) : Ca Tryz.prog 161 #[a0, a1, a2] w K :=
  ca_of_vcJ Tryz.noNum Tryz.func161 F161_ok (by rw [F161_eq]; exact h)
def L163_0 (v6 : Value) (a1 : Value) (a2 : Value) (K : Kont) (s8 : Value × Value × Unit) (w9 : World) (K10 : Value × Value × Unit → World → Prop) : Prop :=
 ∀ _ : Nat → Value,
 rv Tryz.prog (bin .lss 3 false s8.2.1 v6) w9 fun v11 w12 =>
 ifB v11
 (rv Tryz.prog (Instr.indexAt 47 a1 s8.2.1) w12 fun v13 w14 =>
 rv Tryz.prog (Instr.loadAt 119 v13) w14 fun v15 w16 =>
 rv Tryz.prog (Instr.alloc 119 true (.tuple #[])) w16 fun v17 w18 =>
 ru Tryz.prog (Instr.storeAt 119 v17 v15) w18 fun w19 =>
 rv Tryz.prog (Instr.loadAt 119 v17) w19 fun v20 w21 =>
 callV Tryz.prog a2 [s8.1, v20] w21 fun v22 w23 =>
 rv Tryz.prog (bin .add 3 true s8.2.1 (.int .i64 1)) w23 fun v24 w25 =>
 K10 (v22, v24, ()) w25)
 (K s8.1 w12)
def F163 (a0 a1 a2 : Value) (w : World) (K : Kont) : Prop :=
 rn Tryz.prog (builtin .len #[47] 3 #[false] #[a1]) w fun v0 w1 =>
 rv Tryz.prog (convert 3 27 v0) w1 fun v2 w3 =>
 Ca Tryz.prog 100 #[a0, v2] w3 fun v4 w5 =>
 rn Tryz.prog (builtin .len #[47] 3 #[false] #[a1]) w5 fun v6 w7 =>
 LoopW (S := Value × Value × Unit) (L163_0 v6 a1 a2 K) (v4, (.int .i64 0), ()) w7
theorem F163_eq (a0 a1 a2 : Value) (w : World) (K : Kont) : vcFnJ Tryz.prog Tryz.f163 [a0, a1, a2] w K = F163 a0 a1 a2 w K := by kernel_rfl
theorem F163_ok : okF Tryz.prog Tryz.f163 3 = true := by kernel_rfl
theorem ca163{a0 a1 a2 : Value} {w : World} {K : Kont} (h : F163 a0 a1 a2 w K) : Ca Tryz.prog 163 #[a0, a1, a2] w K :=
  ca_of_vcJ Tryz.noNum Tryz.func163 F163_ok (by rw [F163_eq]; exact h)
end Go.Proofs
