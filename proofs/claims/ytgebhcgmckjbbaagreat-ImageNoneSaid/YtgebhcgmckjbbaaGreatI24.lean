/- The statement ImageNone: for every input the law returns true; arguments stay. Conditions: none. -/
import Derived.Test.YtgebhcgmckjbbaaGreatI23
set_option linter.all false
namespace Go.Proofs
open Go Go.Vc
attribute [local congr] Ca_congV
def Ven.dep (S : Ven) (x : Cm) : Int × Rp × Ven := ((S.led.deposit x.acct x.amt).1, zRp, { S with led := (S.led.deposit x.acct x.amt).2 })
def Ven.depA (S : Ven) (x : Cm) : Rp × Ven := if x.may = false then (failR 160, S) else if (S.dep x).1 ≠ 0 then (failR (S.dep x).1, S) else ((S.dep x).2.1, (S.dep x).2.2)
set_option maxRecDepth 10000 in
set_option maxHeartbeats 8000000 in
theorem ca_vapplyD {w : World} {K : Kont} {v : Nat} {F : Nat → Prop} {S : Ven} {x : Cm} (h : VenQ w v F S) (hx : x.Fit) (k1 : x.kind = 1) (hK : Post w v F (S.dep x) K) : Ca Tryz.prog 44 #[vptr v, cmV x] w K := by
  have hQ := h
  obtain ⟨c, l, mb, md, A, D, fp, hr, hF⟩ := h
  apply ca44
  unfold F44
  obtain ⟨w1, e1, b1, m1⟩ := boxCm x w
  refine rvS e1 ?_
  obtain ⟨p, hp0⟩ : ∃ p, p = w.heap.size := ⟨_, rfl⟩
  rw [← hp0] at b1 ⊢
  obtain ⟨w3, e3, b3, m3⟩ := newRp w1
  refine rvS e3 ?_
  obtain ⟨q, hq0⟩ : ∃ q, q = w1.heap.size := ⟨_, rfl⟩
  rw [← hq0] at b3 ⊢
  have hpq : p < q := by have := lt_of_heap b1; omega
  have M3 := m1.trans m3
  have c3 : CmAt w3 p x := m3.hpk b1 id
  have h3 := hr.md0 M3
  have Q3 := hQ.md0 M3
  have hFl : ∀ y, F y → y < p := fun y hy => by obtain ⟨pt, hp⟩ := (hF y).1 hy; have := hr.lt hp; omega
  have hfpF : ∀ pt y, fp pt y → F y := fun pt y hy => (hF y).2 ⟨_, hy⟩
  have hallF : ∀ y, allP fp y ↔ F y := fun y => (hF y).symm
  have hq3 : q < w3.heap.size := lt_of_heap b3
  have hnq : ∀ {pt y}, fp pt y → y ≠ q ∧ y ≠ p := fun hy => by have := hFl _ (hfpF _ _ hy); omega
  obtain ⟨f1, f2, f3, f4, f5, f6, f7, f8, f9⟩ := id hx
  
  have tellZ : ∀ (e : Int) (T : Ven) (F' : Nat → Prop) (W : World), S.dep x = (e, zRp, T) → VenQ W v F' T → hp W q = some (.cells (rpC zRp nilV nilV nilV).toArray tRp (0, 0)) → Mod F w W → (∀ y, F' y → (F y ∨ w.heap.size ≤ y) ∧ y ≠ q) →
      ru Tryz.prog (Instr.storeAt tRp (.pointer (some ⟨q, 0, none⟩)) (rpV zRp nilV nilV nilV)) W fun w20 => rdW Tryz.prog (Instr.loadAt tRp (.pointer (some ⟨q, 0, none⟩))) w20 fun v21 => K (.tuple #[v21, .int .i64 e]) w20 := by
    intro e T F' W he a b m hn
    obtain ⟨W1, g1, x1, y1⟩ := stRp (r := zRp) b rfl ⟨nilSlV, nilSlV, nilSlV⟩
    refine ruS g1 (rdWS (ldRp x1) ?_)
    exact hK.nil he (a.mod y1 fun y hy e => (hn y hy).2 e) (m.on y1 fun y hy => .inr (by omega)) fun y hy => (hn y hy).1
  refine rvS (cm0F _) (rvS (cm0L c3) ?_)
  have kq : ∀ {W W' : World} {pt : Pt}, Mod (fp pt) W W' → hp W q = some (.cells (rpC zRp nilV nilV nilV).toArray tRp (0, 0)) → hp W' q = some (.cells (rpC zRp nilV nilV nilV).toArray tRp (0, 0)) := fun m hh => m.hpk hh fun hc => (hnq hc).1 rfl
  have mdr : Mod (fun _ => False) w3 w3.drew := (Mod.refl _ w3).drew
  have hd := h3.md0 mdr
  have cd : CmAt w3.drew p x := mdr.hpk c3 id
  have bd := mdr.hpk b3 id
  have Md := M3.trans mdr
  have hFQ : ∀ {W T}, VenR W v c l mb md A D fp T → VenQ W v F T := fun a => ⟨c, l, mb, md, A, D, fp, a, hF⟩
  have hsame : ∀ y, F y → (F y ∨ w.heap.size ≤ y) ∧ y ≠ q := fun y hy => ⟨.inl hy, by have := hFl y hy; omega⟩
  have MF : ∀ {W : World} {pt : Pt}, Mod (fp pt) w3.drew W → Mod F w W := fun m => (Md.mono fun _ _ h => h.elim).trans (m.mono fun y _ hy => hfpF _ y hy)
  refine rvS (v := .bool true) (w' := w3) (by simp [go_sem, k1]) ?_
  rw [ifB_bool, if_pos rfl]
  simp only [vptr, nilK_ptr]
  refine rdWS (ldRp bd) ?_
  refine rdPS (fldV 1 (by omega)) (rdWS (ld1 _ hd.blk) ?_)
  refine rdPS cmF1 (rdWS (cmL1 cd) ?_)
  refine rdPS cmF4 (rdWS (cmL4 cd) ?_)
  refine ca_deposit hd.led f2 fun w4 q4 m4 => ?_
  have b4 := kq m4 bd
  refine ⟨ldRp b4, ?_⟩
  exact tellZ _ { S with led := (S.led.deposit x.acct x.amt).2 } F w4 rfl (hFQ (hd.setLed m4 q4)) b4 (MF m4) hsame
set_option maxRecDepth 10000 in
set_option maxHeartbeats 2000000 in
theorem ca_vApplyD {w : World} {K : Kont} {v : Nat} {F : Nat → Prop} {S : Ven} {x : Cm} (h : VenQ w v F S) (hok : S.Ok) (hx : x.Fit) (hk1 : x.kind = 1)
    (hK : ∀ sT sG sA F' w', VenQ w' v F' (S.depA x).2 → RpQ w' sT sG sA (S.depA x).1 → Mod F w w' → (∀ y, F' y → F y ∨ w.heap.size ≤ y) → (∀ y, inSl sT y ∨ inSl sG y ∨ inSl sA y → w.heap.size ≤ y ∧ ¬ F' y) → K (rpV (S.depA x).1 sT sG sA) w') :
    Ca Tryz.prog 12 #[vptr v, cmV x] w K := by
  have hQ := h
  obtain ⟨c, l, mb, md, A, D, fp, hr, hF⟩ := h
  apply ca12
  unfold F12
  obtain ⟨w1, e1, b1, m1⟩ := boxCm x w
  refine rvS e1 ?_
  obtain ⟨p, hp0⟩ : ∃ p, p = w.heap.size := ⟨_, rfl⟩
  rw [← hp0] at b1 ⊢
  obtain ⟨w3, e3, b3, m3⟩ := newRp w1
  refine rvS e3 ?_
  obtain ⟨q, hq0⟩ : ∃ q, q = w1.heap.size := ⟨_, rfl⟩
  rw [← hq0] at b3 ⊢
  have hpq : p < q := by have := lt_of_heap b1; omega
  have M3 := m1.trans m3
  have c3 : CmAt w3 p x := m3.hpk b1 id
  have h3 := hr.md0 M3
  have hFl : ∀ y, F y → y < p := fun y hy => by obtain ⟨pt, hp⟩ := (hF y).1 hy; have := hr.lt hp; omega
  have hq3 : q < w3.heap.size := lt_of_heap b3
  
  have fail : ∀ (e : Int) (W : World), S.depA x = (failR e, S) → Mod (fun _ => False) w W → hp W q = some (.cells (rpC zRp nilV nilV nilV).toArray tRp (0, 0)) →
      Ca Tryz.prog 41 #[.int .i64 e] W fun v8 w9 => ru Tryz.prog (Instr.storeAt tRp (.pointer (some ⟨q, 0, none⟩)) v8) w9 fun w10 => rdW Tryz.prog (Instr.loadAt tRp (.pointer (some ⟨q, 0, none⟩))) w10 fun v11 => K v11 w10 := by
    intro e W he m b
    refine ca_failed fun W1 mW1 => ?_
    obtain ⟨W2, g2, x2, y2⟩ := stRp (r := failR e) (sT := nilV) (sG := nilV) (sA := nilV) (mW1.hpk b id) rfl ⟨nilSlV, nilSlV, nilSlV⟩
    refine ruS g2 (rdWS (ldRp x2) ?_)
    have hk := hK nilV nilV nilV F W2
    rw [he] at hk
    refine hk ((hQ.md0 (m.trans mW1)).mod y2 fun y hy e => by have := hFl y hy; omega) (RpQ.nil _ e) (((m.trans mW1).mono fun _ _ h => h.elim).on y2 fun y hy => .inr (by have := m1.size; omega)) (fun y hy => .inl hy) fun y hy => ?_
    rcases hy with hy | hy | hy <;> cases hy
  refine ca_vready h3.blk ?_
  refine rvS (v := .bool false) (w' := w3) (by simp [go_sem]) ?_
  rw [ifB_bool, if_neg Bool.false_ne_true]
  refine rx_of (cmLd c3) ?_
  refine ca_mayC hx fun w4 m4 => ?_
  have M4 := M3.trans m4
  have c4 : CmAt w4 p x := m4.hpk c3 id
  have b4 := m4.hpk b3 id
  refine rvS (v := .bool (!x.may)) (w' := w4) (by simp [go_sem]) ?_
  cases hmay : x.may with
  | false =>
    rw [show (!false) = true from rfl, ifB_bool, if_pos rfl]
    exact fail 160 w4 (by unfold Ven.depA; rw [if_pos hmay]) M4 b4
  | true =>
    rw [show (!true) = false from rfl, ifB_bool, if_neg Bool.false_ne_true]
    refine ca_vcopy (hr.md0 M4) hok fun u Fu w5 Q5 m5 n5 => ?_
    have M5 := M4.trans m5
    have c5 : CmAt w5 p x := m5.hpk c4 id
    have b5 := m5.hpk b4 id
    have v5 := m5.hpk (m4.hpk h3.blk id) id
    have hs5 := M4.size
    have hq4 : q < w4.heap.size := lt_of_heap b4
    have hs45 := m5.size
    refine rx_of (cmLd c5) ?_
    refine ca_vapplyD Q5 hx hk1 fun sT sG sA F6 w6 a1 a2 a3 a4 a5 => ?_
    obtain ⟨Y, hY⟩ : ∃ Y, Y = S.dep x := ⟨_, rfl⟩
    rw [← hY] at a1 a2 ⊢
    refine rvS (by simp [-Int.natCast_add, go_sem] <;> first | exact ⟨rfl, rfl⟩ | exact rfl) ?_
    refine rvS (by simp [-Int.natCast_add, go_sem] <;> first | exact ⟨rfl, rfl⟩ | exact rfl) ?_
    have hF6 : ∀ y, F6 y → w4.heap.size ≤ y := fun y hy => by
      rcases a4 y hy with h' | h'
      · exact n5 y h'
      · omega
    have hFu : ∀ {y}, y < w4.heap.size → ¬ Fu y := fun h1 h2 => by have := n5 _ h2; omega
    have b6 := a3.hpk b5 (hFu hq4)
    have hvw : v < w.heap.size := by have := hFl v hQ.self; omega
    have v6 := a3.hpk v5 (hFu (by omega))
    have M6 : Mod (fun _ => False) w w6 := M5.on a3 fun y hy => .inr (by have := n5 y hy; omega)
    obtain ⟨w7, e7, b7, m7⟩ := newRp w6
    refine rvS e7 ?_
    obtain ⟨z, hz⟩ : ∃ z, z = w6.heap.size := ⟨_, rfl⟩
    rw [← hz] at b7 ⊢
    obtain ⟨t1, t2, t3⟩ := a2.isSl
    obtain ⟨w8, e8, b8, m8⟩ := stRp (r := Y.2.1) b7 rfl ⟨t1, t2, t3⟩
    refine ruS e8 ?_
    have M8 : Mod (fun _ => False) w6 w8 := m7.on m8 fun y hy => .inr (by omega)
    have M08 := M6.trans M8
    have Q8 := a1.md0 M8
    have R8 := a2.mod M8 fun _ _ h => h
    have b8q := M8.hpk b6 id
    have v8 := M8.hpk v6 id
    have hap : S.depA x = if Y.1 ≠ 0 then (failR Y.1, S) else (Y.2.1, Y.2.2) := by unfold Ven.depA; rw [if_neg (by rw [hmay]; simp), hY]
    by_cases hYe : Y.1 ≠ 0
    · rw [if_pos hYe] at hap
      refine rvS (v := .bool true) (w' := w8) (by simp [go_sem, hYe]) ?_
      rw [ifB_bool, if_pos rfl]
      exact fail Y.1 w8 hap M08 b8q
    rw [if_neg hYe] at hap
    have hY0 : Y.1 = 0 := by simpa using hYe
    refine rvS (v := .bool false) (w' := w8) (by simp [go_sem, hY0]) ?_
    rw [ifB_bool, if_neg Bool.false_ne_true]
    obtain ⟨c6, l6, mb6, md6, A6, D6, fp6, hr6, hF6'⟩ := Q8
    simp only [vptr, nilK_ptr]
    refine rvS (ldVen hr6.blk) ?_
    obtain ⟨w9, e9, b9, m9⟩ := stVen (c' := c6) (l' := l6) (mb' := mb6) (md' := md6) (n' := Y.2.2.next) v8
    refine ruS e9 ?_
    have hv6 : ∀ pt, ¬ fp6 pt v := fun pt hc => by have := hF6 v ((hF6' v).2 ⟨pt, hc⟩); omega
    have h9 := hr6.move (fun pt _ => hv6 pt) b9 m9
    have R9 := R8.mod m9 fun y hy e => by have := (a5 y hy).1; omega
    have b9z := m9.hpk b8 (by have := M6.size; omega)
    have b9q := m9.hpk b8q (by omega)
    refine rvS (ldRp b9z) ?_
    obtain ⟨w10, e10, b10, m10⟩ := stRp (r := Y.2.1) b9q rfl ⟨t1, t2, t3⟩
    refine ruS e10 (rdWS (ldRp b10) ?_)
    have hsub : ∀ y, allP (updP fp6 .v fun y => y = v) y → y = v ∨ F6 y := fun y ⟨pt, hy⟩ => by
      by_cases hpt : pt = .v
      · subst hpt; rw [updP_self] at hy; exact .inl hy
      · rw [updP_ne hpt] at hy; exact .inr ((hF6' y).2 ⟨pt, hy⟩)
    have hk := hK sT sG sA (allP (updP fp6 .v fun y => y = v)) w10
    rw [hap] at hk
    refine hk (h9.mod m10 fun pt y hy e => ?_).q (R9.mod m10 fun y hy e => ?_) (((M08.mono (G := F) fun _ _ h => h.elim).trans (m9.mono fun y _ hy => by rw [hy]; exact hQ.self)).on m10 fun y hy => .inr (by omega)) (fun y hy => ?_) fun y hy => ⟨?_, fun hc => ?_⟩
    · rcases hsub y ⟨pt, hy⟩ with h' | h'
      · omega
      · have := hF6 y h'; omega
    · have := (a5 y hy).1; omega
    · rcases hsub y hy with h' | h'
      · exact .inl (h' ▸ hQ.self)
      · exact .inr (by have := hF6 y h'; omega)
    · have := (a5 y hy).1; omega
    · rcases hsub y hc with h' | h'
      · have := (a5 y hy).1; omega
      · exact (a5 y hy).2 h'
end Go.Proofs
set_option maxRecDepth 100000
namespace Go.Proofs
open Go Go.Vc
def F17 (w : World) (K : Kont) : Prop :=
 Ca Tryz.prog 10 #[] w fun v0 w1 =>
 Ca Tryz.prog 21 #[v0] w1 fun v2 w3 =>
 rv Tryz.prog (Instr.extract v2 0) w3 fun v4 w5 =>
 rv Tryz.prog (Instr.extract v2 1) w5 fun v6 w7 =>
 Ca Tryz.prog 20 #[v4] w7 fun v8 w9 =>
 rv Tryz.prog (Instr.extract v8 0) w9 fun v10 w11 =>
 rv Tryz.prog (Instr.extract v8 1) w11 fun v12 w13 =>
 rv Tryz.prog (bin .eql 26 true v6 (.int .i64 0)) w13 fun v14 w15 =>
 ifB v14
 (rx Tryz.prog (xConv 54 9 v4) w15 fun v16 w17 =>
 rv Tryz.prog (bin .eql 9 true v16 (.string ⟨#[0, 1, 0, 0, 0, 0, 0, 0]⟩)) w17 fun v18 w19 =>
 ifB v18
 (rv Tryz.prog (bin .eql 26 true v12 (.int .i64 0)) w19 fun v20 w21 =>
 ifB v20
 (rv Tryz.prog (bin .neq 23 true v10 (.pointer none)) w21 fun v22 w23 =>
 ifB v22
 (rx Tryz.prog (bigB 41 #[(0, (.int .u8 1)), (1, (.int .u32 1)), (4, (.int .i64 5))]) w23 fun v24 w25 =>
 Ca Tryz.prog 12 #[v10, v24] w25 fun v26 w27 =>
 rv Tryz.prog (Instr.field 32 v26 0) w27 fun v28 w29 =>
 rv Tryz.prog (bin .eql 26 true v28 (.int .i64 0)) w29 fun v30 w31 =>
 K v30 w31)
 (K (.bool false) w23))
 (K (.bool false) w21))
 (K (.bool false) w19))
 (K (.bool false) w15)
theorem F17_eq (w : World) (K : Kont) : vcFnJ Tryz.prog Tryz.f17 [] w K = F17  w K := by kernel_rfl
theorem F17_ok : okF Tryz.prog Tryz.f17 0 = true := by kernel_rfl
theorem ca17 {w : World} {K : Kont} (h : F17  w K) : Ca Tryz.prog 17 #[] w K :=
  ca_of_vcJ Tryz.noNum Tryz.func17 F17_ok (by rw [F17_eq]; exact h)
def F6 (a0 : Value) (w : World) (K : Kont) : Prop :=
 rn Tryz.prog (builtin .len #[54] 3 #[false] #[a0]) w fun v0 w1 =>
 rv Tryz.prog (bin .gtr 3 true v0 (.int .i64 30000)) w1 fun v2 w3 =>
 ifB v2
 (Ca Tryz.prog 17 #[] w3 fun v4 w5 =>
 K v4 w5)
 (rv Tryz.prog (Instr.alloc 66 true (.tuple #[])) w3 fun v6 w7 =>
 Ca Tryz.prog 21 #[(.pointer none)] w7 fun v8 w9 =>
 rv Tryz.prog (Instr.extract v8 0) w9 fun v10 w11 =>
 rv Tryz.prog (Instr.extract v8 1) w11 fun v12 w13 =>
 Ca Tryz.prog 21 #[v6] w13 fun v14 w15 =>
 rv Tryz.prog (Instr.extract v14 0) w15 fun v16 w17 =>
 rv Tryz.prog (Instr.extract v14 1) w17 fun v18 w19 =>
 Ca Tryz.prog 20 #[a0] w19 fun v20 w21 =>
 rv Tryz.prog (Instr.extract v20 0) w21 fun v22 w23 =>
 rv Tryz.prog (Instr.extract v20 1) w23 fun v24 w25 =>
 rn Tryz.prog (builtin .len #[54] 3 #[false] #[v10]) w25 fun v26 w27 =>
 rn Tryz.prog (builtin .len #[54] 3 #[false] #[v16]) w27 fun v28 w29 =>
 rv Tryz.prog (bin .add 3 false v26 v28) w29 fun v30 w31 =>
 rv Tryz.prog (bin .eql 3 true v30 (.int .i64 0)) w31 fun v32 w33 =>
 ifB v32
 (rv Tryz.prog (bin .eql 26 true v12 (.int .i64 1)) w33 fun v34 w35 =>
 ifB v34
 (rv Tryz.prog (bin .eql 26 true v18 (.int .i64 1)) w35 fun v36 w37 =>
 ifB v36
 (rv Tryz.prog (bin .neq 23 true v22 (.pointer none)) w37 fun v38 w39 =>
 rv Tryz.prog (bin .eql 26 true v24 (.int .i64 0)) w39 fun v40 w41 =>
 rv Tryz.prog (bin .eql 4 false v38 v40) w41 fun v42 w43 =>
 ifB v42
 (Ca Tryz.prog 17 #[] w43 fun v44 w45 =>
 K v44 w45)
 (K (.bool false) w43))
 (K (.bool false) w37))
 (K (.bool false) w35))
 (K (.bool false) w33))
theorem F6_eq (a0 : Value) (w : World) (K : Kont) : vcFnJ Tryz.prog Tryz.f6 [a0] w K = F6 a0 w K := by kernel_rfl
theorem F6_ok : okF Tryz.prog Tryz.f6 1 = true := by kernel_rfl
theorem ca6{a0 : Value} {w : World} {K : Kont} (h : F6 a0 w K) : Ca Tryz.prog 6 #[a0] w K :=
  ca_of_vcJ Tryz.noNum Tryz.func6 F6_ok (by rw [F6_eq]; exact h)
end Go.Proofs
namespace Go.Proofs
open Go Go.Vc
attribute [local congr] Ca_congV
def NoVI (w : World) (p : Value) : Prop := p = .pointer none ∨ ∃ z, p = .pointer (some ⟨z, 0, none⟩) ∧ hp w z = some (.cells #[.pointer none, .pointer none, .map none, .map none, .int .u64 0] tVen (0, 0))
theorem ca_nreadyI {w : World} {K : Kont} {p : Value} (h : NoVI w p) (hK : K (.bool false) w) : Ca Tryz.prog 40 #[p] w K := by
  apply ca40
  unfold F40
  rcases h with rfl | ⟨z, rfl, hz⟩
  · refine rvS (v := .bool false) (w' := w) (by simp [go_sem]) ?_
    rw [ifB_bool, if_neg Bool.false_ne_true]
    exact hK
  · refine rvS (v := .bool true) (w' := w) (by simp [go_sem]) ?_
    rw [ifB_bool, if_pos rfl]
    simp only [nilK_ptr]
    refine rvS (fldV 1 (by omega) _) ?_
    refine rvS (v := .pointer none) (w' := w) (by simp [go_sem, hz]) ?_
    refine rvS (v := .bool false) (w' := w) (by simp [go_sem]) ?_
    exact hK
theorem ca_saveN {w : World} {K : Kont} {p : Value} (h : NoVI w p) (hK : K (.tuple #[nilV, .int .i64 1]) w) : Ca Tryz.prog 21 #[p] w K := by
  apply ca21
  unfold F21
  apply ca43
  unfold F43
  refine ca_nreadyI h ?_
  refine rvS (v := .bool true) (w' := w) (by simp [go_sem]) ?_
  rw [ifB_bool, if_pos rfl]
  refine rvS (v := .bool true) (w' := w) (by simp [go_sem]) ?_
  rw [ifB_bool, if_pos rfl]
  exact hK
theorem natB0 : natB 0 = [0] := by unfold natB; rfl
theorem natB1 : natB 1 = [1] := by unfold natB; rfl
theorem intB0 : intB 0 = [0] := by unfold intB; exact natB0
section
variable {w : World} {K : Kont} {s sl fv : Value} {l : List UInt8}
theorem ca_list0Ac (h : OwnB w s l) (hR : Rd w 4 sl 0 []) (hl : l.length ≤ 1000) (hK : ∀ s' w', OwnB w' s' (l ++ [0]) → Mod (inSl s) w w' → (∀ b, inSl s' b → inSl s b ∨ w.heap.size ≤ b) → K s' w') : Ca Tryz.prog 155 #[s, sl, fv] w K := by
  apply ca155
  unfold F155
  obtain ⟨a, c, rfl⟩ := hR.isSl
  refine rnS (v := .int .i64 0) (w' := w) (by simp [go_sem]) (rvS (v := .int .u64 0) (w' := w) (by simp [go_sem]; decide) ?_)
  refine ca_wnatB (n := 0) h (by omega) (by omega) fun s' w' o m n => ?_
  rw [natB0] at o
  refine rnS (v := .int .i64 0) (w' := w') (by simp [go_sem]) ?_
  refine loopV (fun st W => st = (s', .int .i64 0, ()) ∧ w' = W) (fun _ _ => 0) ⟨rfl, rfl⟩ ?_
  rintro _ _ ⟨rfl, rfl⟩ KN hKN
  unfold L155_0
  intro _
  refine rvS (v := .bool false) (w' := w') (by simp [go_sem]) ?_
  rw [ifB_bool, if_neg Bool.false_ne_true]
  exact hK _ _ o m n
theorem ca_list0Ct (h : OwnB w s l) (hR : Rd w 27 sl 0 []) (hl : l.length ≤ 1000) (hK : ∀ s' w', OwnB w' s' (l ++ [0]) → Mod (inSl s) w w' → (∀ b, inSl s' b → inSl s b ∨ w.heap.size ≤ b) → K s' w') : Ca Tryz.prog 158 #[s, sl, fv] w K := by
  apply ca158
  unfold F158
  obtain ⟨a, c, rfl⟩ := hR.isSl
  refine rnS (v := .int .i64 0) (w' := w) (by simp [go_sem]) (rvS (v := .int .u64 0) (w' := w) (by simp [go_sem]; decide) ?_)
  refine ca_wnatB (n := 0) h (by omega) (by omega) fun s' w' o m n => ?_
  rw [natB0] at o
  refine rnS (v := .int .i64 0) (w' := w') (by simp [go_sem]) ?_
  refine loopV (fun st W => st = (s', .int .i64 0, ()) ∧ w' = W) (fun _ _ => 0) ⟨rfl, rfl⟩ ?_
  rintro _ _ ⟨rfl, rfl⟩ KN hKN
  unfold L158_0
  intro _
  refine rvS (v := .bool false) (w' := w') (by simp [go_sem]) ?_
  rw [ifB_bool, if_neg Bool.false_ne_true]
  exact hK _ _ o m n
theorem ca_list0Po (h : OwnB w s l) (hR : Rd w 4 sl 0 []) (hl : l.length ≤ 1000) (hK : ∀ s' w', OwnB w' s' (l ++ [0]) → Mod (inSl s) w w' → (∀ b, inSl s' b → inSl s b ∨ w.heap.size ≤ b) → K s' w') : Ca Tryz.prog 161 #[s, sl, fv] w K := by
  apply ca161
  unfold F161
  obtain ⟨a, c, rfl⟩ := hR.isSl
  refine rnS (v := .int .i64 0) (w' := w) (by simp [go_sem]) (rvS (v := .int .u64 0) (w' := w) (by simp [go_sem]; decide) ?_)
  refine ca_wnatB (n := 0) h (by omega) (by omega) fun s' w' o m n => ?_
  rw [natB0] at o
  refine rnS (v := .int .i64 0) (w' := w') (by simp [go_sem]) ?_
  refine loopV (fun st W => st = (s', .int .i64 0, ()) ∧ w' = W) (fun _ _ => 0) ⟨rfl, rfl⟩ ?_
  rintro _ _ ⟨rfl, rfl⟩ KN hKN
  unfold L161_0
  intro _
  refine rvS (v := .bool false) (w' := w') (by simp [go_sem]) ?_
  rw [ifB_bool, if_neg Bool.false_ne_true]
  exact hK _ _ o m n
theorem ca_list0Sd (h : OwnB w s l) (hR : Rd w 6 sl 0 []) (hl : l.length ≤ 1000) (hK : ∀ s' w', OwnB w' s' (l ++ [0]) → Mod (inSl s) w w' → (∀ b, inSl s' b → inSl s b ∨ w.heap.size ≤ b) → K s' w') : Ca Tryz.prog 163 #[s, sl, fv] w K := by
  apply ca163
  unfold F163
  obtain ⟨a, c, rfl⟩ := hR.isSl
  refine rnS (v := .int .i64 0) (w' := w) (by simp [go_sem]) (rvS (v := .int .u64 0) (w' := w) (by simp [go_sem]; decide) ?_)
  refine ca_wnatB (n := 0) h (by omega) (by omega) fun s' w' o m n => ?_
  rw [natB0] at o
  refine rnS (v := .int .i64 0) (w' := w') (by simp [go_sem]) ?_
  refine loopV (fun st W => st = (s', .int .i64 0, ()) ∧ w' = W) (fun _ _ => 0) ⟨rfl, rfl⟩ ?_
  rintro _ _ ⟨rfl, rfl⟩ KN hKN
  unfold L163_0
  intro _
  refine rvS (v := .bool false) (w' := w') (by simp [go_sem]) ?_
  rw [ifB_bool, if_neg Bool.false_ne_true]
  exact hK _ _ o m n
end
def b8 : List UInt8 := [0, 1, 0, 0, 0, 0, 0, 0]
set_option maxRecDepth 10000 in
theorem ca_form0 {w : World} {K : Kont} {ss : Nat → Value} (h : StaR w ss sta0) (hK : ∀ s' w', OwnB w' s' b8 → Mod (fun _ => False) w w' → (∀ b, inSl s' b → w.heap.size ≤ b) → K s' w') : Ca Tryz.prog 82 #[stV 0 1 0 ss] w K := by
  have hssl := h.sl
  apply ca82
  unfold F82
  obtain ⟨w1, e1, b1, m1⟩ := boxStI 0 1 0 ss w
  obtain ⟨sb, hsb⟩ : ∃ p, p = w.heap.size := ⟨_, rfl⟩
  rw [← hsb] at e1 b1
  refine rvS e1 ?_
  have md := (Mod.refl (fun _ => False) w1).drew
  have b2 : StBlk w1.drew sb 0 1 0 ss := md.hpk b1 id
  have M2 := m1.trans md
  generalize w1.drew = w2 at md b2 M2 ⊢
  refine rdPS (fun W => stFl sb 0 (by omega) W) (rdWS (stLdN b2).1 ?_)
  refine rdWS (v := .int .u64 0) (by simp [go_sem]; decide) ?_
  refine rdPS (fun W => stFl sb 1 (by omega) W) (rdWS (stLdN b2).2.1 ?_)
  refine rdPS (fun W => stFl sb 2 (by omega) W) (rdWS (stLdN b2).2.2 ?_)
  refine ca_wnatB (n := 0) (s := nilV) (l := []) (Own.nil _ _ _) (by omega) (by decide) fun s3 w3 o3 m3 n3 => ?_
  rw [natB0] at o3
  have k3 : ∀ {W W' : World} {s : Value} {z : Nat}, StBlk W sb 0 1 0 ss → Mod (inSl s) W W' → (∀ b, inSl s b → w1.heap.size ≤ b) → StBlk W' sb 0 1 0 ss := fun hb m hn => m.hpk hb fun hc => by have := hn sb hc; have := lt_of_heap b1; omega
  have hsz2 : w1.heap.size ≤ w2.heap.size := md.size
  have hw1 : w.heap.size ≤ w1.heap.size := m1.size
  have b3 : StBlk w3 sb 0 1 0 ss := m3.hpk b2 fun hc => by cases hc
  have N3 : ∀ b, inSl s3 b → w1.heap.size ≤ b := fun b hb => by rcases n3 b hb with h' | h'; cases h'; omega
  refine ⟨(stLdN b3).2.2, (stLdN b3).2.1, ?_⟩
  refine ca_wnatB (n := 1) o3 (by omega) (by decide) fun s4 w4 o4 m4 n4 => ?_
  rw [natB1] at o4
  have z3 := m3.size
  have b4 : StBlk w4 sb 0 1 0 ss := k3 (z := 0) b3 m4 N3
  have N4 : ∀ b, inSl s4 b → w1.heap.size ≤ b := fun b hb => by rcases n4 b hb with h' | h'; exact N3 b h'; omega
  refine ⟨(stLdN b4).2.2, ?_⟩
  refine ca_wint (x := 0) o4 ⟨by decide, by decide⟩ (by decide) fun s5 w5 o5 m5 n5 => ?_
  rw [intB0] at o5
  have z4 := m4.size
  have b5 : StBlk w5 sb 0 1 0 ss := k3 (z := 0) b4 m5 N4
  have N5 : ∀ b, inSl s5 b → w1.heap.size ≤ b := fun b hb => by rcases n5 b hb with h' | h'; exact N4 b h'; omega
  have big : ∀ {F : Nat → Prop} {W : World}, Mod (fun _ => False) w W → ∀ {W' : World}, Mod F W W' → (∀ b, F b → w1.heap.size ≤ b) → Mod (fun _ => False) w W' := fun a _ b hn => a.on b fun y hy => .inr (by have := hn y hy; omega)
  have M5 := big (big (M2.on m3 fun y hy => by cases hy) m4 N3) m5 N4
  have z5 := m5.size
  refine rvS (stFl sb 3 (by omega) _) (rvS (stLd345 b5 hssl).1 ?_)
  refine ca_list0Ac o5 ((h.md0 M5).accts) (by decide) fun s6 w6 o6 m6 n6 => ?_
  have b6 : StBlk w6 sb 0 1 0 ss := k3 (z := 0) b5 m6 N5
  have N6 : ∀ b, inSl s6 b → w1.heap.size ≤ b := fun b hb => by rcases n6 b hb with h' | h'; exact N5 b h'; omega
  have M6 := big M5 m6 N5
  have z6 := m6.size
  refine rvS (stFl sb 4 (by omega) _) (rvS (stLd345 b6 hssl).2.1 ?_)
  refine ca_list0Ct o6 ((h.md0 M6).cts) (by decide) fun s7 w7 o7 m7 n7 => ?_
  have b7 : StBlk w7 sb 0 1 0 ss := k3 (z := 0) b6 m7 N6
  have N7 : ∀ b, inSl s7 b → w1.heap.size ≤ b := fun b hb => by rcases n7 b hb with h' | h'; exact N6 b h'; omega
  have M7 := big M6 m7 N6
  have z7 := m7.size
  refine rvS (stFl sb 5 (by omega) _) (rvS (stLd345 b7 hssl).2.2 ?_)
  refine ca_list0Po o7 ((h.md0 M7).poss) (by decide) fun s8 w8 o8 m8 n8 => ?_
  have b8 : StBlk w8 sb 0 1 0 ss := k3 (z := 0) b7 m8 N7
  have N8 : ∀ b, inSl s8 b → w1.heap.size ≤ b := fun b hb => by rcases n8 b hb with h' | h'; exact N7 b h'; omega
  have M8 := big M7 m8 N7
  have z8 := m8.size
  have mdr := (Mod.refl (fun _ => False) w8).drew
  have b9 : StBlk w8.drew sb 0 1 0 ss := mdr.hpk b8 id
  have o9 : OwnB w8.drew s8 _ := o8.mod mdr fun _ _ h => h
  have M9 := M8.trans mdr
  have z9 := mdr.size
  generalize w8.drew = w9 at mdr b9 o9 M9 z9 ⊢
  refine rdPS (fun W => stFl sb 6 (by omega) W) (rdWS (stLd6 b9 hssl).1 ?_)
  refine rdPS (fun W => stFl sb 7 (by omega) W) (rdWS (stLd6 b9 hssl).2 ?_)
  refine ca_list0Sd o9 ((h.md0 M9).ords) (by decide) fun sa wa oa ma na => ?_
  have ba : StBlk wa sb 0 1 0 ss := k3 (z := 0) b9 ma N8
  have Na : ∀ b, inSl sa b → w1.heap.size ≤ b := fun b hb => by rcases na b hb with h' | h'; exact N8 b h'; omega
  have Ma := big M9 ma N8
  have za := ma.size
  refine ⟨(stLd6 ba hssl).2, ?_⟩
  refine ca_list0Sd oa ((h.md0 Ma).bids) (by decide) fun sc wc oc mc nc => ?_
  refine hK sc wc oc (big Ma mc Na) fun b hb => ?_
  rcases nc b hb with h' | h'
  · have := Na b h'; omega
  · omega
theorem ca_save0 {w : World} {K : Kont} {v : Nat} {F : Nat → Prop} (h : VenQ w v F Ven.empty) (hK : ∀ s' w', OwnB w' s' b8 → Mod (fun _ => False) w w' → K (.tuple #[s', .int .i64 0]) w') : Ca Tryz.prog 21 #[vptr v] w K := by
  obtain ⟨c, l, mb, md, A, D, fp, hr, hF⟩ := h
  apply ca21
  unfold F21
  refine ca_vcopy hr empty_ok fun v' F' w1 q1 m1 n1 => ?_
  refine rvS (v := .bool false) (w' := w1) (by simp [go_sem, vptr]) ?_
  rw [ifB_bool, if_neg Bool.false_ne_true]
  refine ca_vstate (hr.md0 m1) empty_ok fun ss b lo w2 sT hlo m2 hb => ?_
  have hst : StaR w2 ss sta0 := fun i h1 h2 => (sT.own i h1 h2).rd
  refine ca_form0 hst fun s' w3 o3 m3 n3 => ?_
  exact hK s' w3 o3 ((m1.trans m2).trans m3)
theorem ca_load {w : World} {K : Kont} {v : Value} {l : List UInt8} (h : Rd w 1 v l.length (bv l)) (hl : l.length ≤ 1000000000)
    (hok : ∀ x s S F w', readR l = some (s, S) → VenQ w' x F S → (∀ y, F y → w.heap.size ≤ y) → Mod (fun _ => False) w w' → K (.tuple #[vptr x, .int .i64 0]) w')
    (hno : ∀ w', readR l = none → Mod (fun _ => False) w w' → K (.tuple #[.pointer none, .int .i64 5]) w') : Ca Tryz.prog 20 #[v] w K := by
  apply ca20
  unfold F20
  refine ca_iread h hl (fun s S ss w1 hr hst m1 => ?_) fun w1 hr m1 => ?_
  · have hssl := hst.sl
    have hfr : fromR s = some S ∧ s = (rsSta l).1 := by
      unfold readR at hr
      by_cases hd : rsDone l (rsSta l).2 = 0
      · rw [if_pos hd] at hr
        cases hf : fromR (rsSta l).1 with
        | none => rw [hf] at hr; cases hr
        | some T => rw [hf] at hr; cases hr; exact ⟨hf, rfl⟩
      · rw [if_neg hd] at hr; cases hr
    have hfit : s.Fit := by rw [hfr.2]; exact rsSta_fit l
    have hlen := rsSta_len l
    rw [← hfr.2] at hlen
    refine rvS (v := staV s ss) (w' := w1) (by simp [go_sem]) (rvS (v := .int .i64 0) (w' := w1) (by simp [go_sem]) ?_)
    obtain ⟨w2, e2, b2, m2⟩ := newSt w1
    obtain ⟨p, hp0⟩ : ∃ p, p = w1.heap.size := ⟨_, rfl⟩
    rw [← hp0] at e2 b2
    obtain ⟨w3, e3, b3, m3⟩ := stSt (d := s.day) (n := s.next) (f := s.fund) (ss := ss) b2 rfl hssl
    refine rvS e2 (ruS e3 ?_)
    have M3 : Mod (fun _ => False) w1 w3 := m2.on m3 fun y hy => .inr (by omega)
    refine rvS (v := .bool false) (w' := w3) (by simp [go_sem]) ?_
    rw [ifB_bool, if_neg Bool.false_ne_true]
    have b3' : StBlk w3 p s.day s.next s.fund ss := b3
    refine rvS (stLdW b3' hssl) ?_
    refine ca_vfrom (s := s) (hst.md0 M3) hfit ⟨by omega, by omega, by omega, by omega, by omega⟩ fun x e w4 m4 hx => ?_
    rw [hfr.1] at hx
    obtain ⟨rfl, v', F, rfl, q4, hF⟩ := hx
    refine rvS (v := vptr v') (w' := w4) (by simp [go_sem]) (rvS (v := .int .i64 0) (w' := w4) (by simp [go_sem]) ?_)
    have hz := m1.size
    have hz3 := M3.size
    exact hok v' s S F w4 hr q4 (fun y hy => by have := hF y hy; omega) ((m1.trans M3).trans m4)
  · refine rvS (v := stV 0 0 0 (ss0 nilV)) (w' := w1) (by simp [go_sem]) (rvS (v := .int .i64 5) (w' := w1) (by simp [go_sem]) ?_)
    obtain ⟨w2, e2, b2, m2⟩ := newSt w1
    obtain ⟨p, hp0⟩ : ∃ p, p = w1.heap.size := ⟨_, rfl⟩
    rw [← hp0] at e2 b2
    obtain ⟨w3, e3, b3, m3⟩ := stSt (d := 0) (n := 0) (f := 0) (ss := ss0 nilV) b2 rfl ss0_sl
    refine rvS e2 (ruS e3 ?_)
    have M3 : Mod (fun _ => False) w1 w3 := m2.on m3 fun y hy => .inr (by omega)
    refine rvS (v := .bool true) (w' := w3) (by simp [go_sem]) ?_
    rw [ifB_bool, if_pos rfl]
    exact hno _ hr (m1.trans M3)
theorem read_b8 : readR b8 = some (sta0, Ven.empty) := by
  have h1 : rsSta b8 = (sta0, ⟨8, 0⟩) := by kernel_rfl
  unfold readR
  rw [h1]
  have h2 : rsDone b8 ⟨8, 0⟩ = 0 := by kernel_rfl
  rw [if_pos h2, fromR_sta0]
  rfl
def cDep : Cm := { zCm with kind := 1, acct := 1, amt := 5 }
theorem cDep_fit : cDep.Fit := ⟨⟨by decide, by decide⟩, ⟨by decide, by decide⟩, ⟨by decide, by decide⟩, ⟨by decide, by decide⟩, ⟨by decide, by decide⟩, zSp_fit, ⟨by decide, by decide⟩, ⟨by decide, by decide⟩, ⟨by decide, by decide⟩⟩
theorem dep_ok : (Ven.empty.depA cDep).1.err = 0 := by rfl
theorem bkDep : Tryz.prog.built tCm [(0, .int .u8 1), (1, .int .u32 1), (4, .int .i64 5)] = some (cmC cDep).toArray := by kernel_rfl
theorem bldDep {w : World} {K : Kont} (hK : K (cmV cDep) w) : rx Tryz.prog (bigB tCm #[(0, .int .u8 1), (1, .int .u32 1), (4, .int .i64 5)]) w K := rx_bigB bkDep hK
theorem fldRpI (r : Rp) (sT sG sA : Value) (W : World) : (Instr.field 32 (rpV r sT sG sA) 0).run Tryz.prog W = .ok (.int .i64 r.err) W := by
  simp [Instr.field, go_sem, part, isAgg, asAgg, rpV]
theorem ca_known17 {w : World} {K : Kont} (hK : ∀ w', Mod (fun _ => False) w w' → K (.bool true) w') : Ca Tryz.prog 17 #[] w K := by
  apply ca17
  unfold F17
  refine ca_vnew fun v F w1 q1 m1 n1 => ?_
  refine ca_save0 q1 fun s w2 o2 m2 => ?_
  refine rvS (v := s) (w' := w2) (by simp [go_sem]) (rvS (v := .int .i64 0) (w' := w2) (by simp [go_sem]) ?_)
  refine ca_load o2.rd (by decide) (fun x s' S F' w3 hr q3 n3 m3 => ?_) fun w3 hr m3 => ?_
  rotate_left
  · rw [read_b8] at hr; cases hr
  rw [read_b8] at hr
  cases hr
  refine rvS (v := vptr x) (w' := w3) (by simp [go_sem]) (rvS (v := .int .i64 0) (w' := w3) (by simp [go_sem]) ?_)
  refine rvS (v := .bool true) (w' := w3) (by simp [go_sem]) ?_
  rw [ifB_bool, if_pos rfl]
  refine rx_toStr (l := b8) uBs (by kernel_rfl) (by kernel_rfl) (o2.rd.mod m3 fun _ _ h => h) ?_
  refine rvS (v := .bool true) (w' := w3) (by simp [go_sem, b8, strOf]) ?_
  rw [ifB_bool, if_pos rfl]
  refine rvS (v := .bool true) (w' := w3) (by simp [go_sem]) ?_
  rw [ifB_bool, if_pos rfl]
  refine rvS (v := .bool true) (w' := w3) (by simp [go_sem, vptr]) ?_
  rw [ifB_bool, if_pos rfl]
  refine bldDep ?_
  refine ca_vApplyD q3 empty_ok cDep_fit rfl fun sT sG sA F4 w4 q4 r4 m4 n4 s4 => ?_
  refine rvS (v := .int .i64 (Ven.empty.depA cDep).1.err) (w' := w4) (fldRpI _ _ _ _ _) ?_
  rw [dep_ok]
  refine rvS (v := .bool true) (w' := w4) (by simp [go_sem]) ?_
  refine hK w4 (((m1.trans m2).trans m3).on m4 fun y hy => .inr ?_)
  have := n3 y hy
  have := m1.size
  have := m2.size
  omega
set_option maxRecDepth 10000 in
theorem ca_imageNone {w : World} {K : Kont} {v : Value} {l : List UInt8} (h : Rd w 1 v l.length (bv l)) (hK : ∀ w', Mod (fun _ => False) w w' → K (.bool true) w') : Ca Tryz.prog 6 #[v] w K := by
  apply ca6
  unfold F6
  obtain ⟨a, c, hv⟩ := h.isSl
  refine rnS (v := .int .i64 (l.length : Int)) (w' := w) (by rw [hv]; simp [go_sem]) ?_
  refine rvS (v := .bool (decide (30000 < l.length))) (w' := w) (by simp [go_sem]; omega) ?_
  by_cases h3 : 30000 < l.length
  · rw [ifB_bool, if_pos (by simpa using h3)]
    exact ca_known17 fun w' m => hK w' m
  rw [ifB_bool, if_neg (by simpa using h3)]
  obtain ⟨z, hz⟩ : ∃ z, z = w.heap.size := ⟨_, rfl⟩
  have m1 : Mod (fun _ => False) w (w.alloc (.cells #[.pointer none, .pointer none, .map none, .map none, .int .u64 0] tVen)) := (Mod.refl _ w).alloc _
  have b1 : hp (w.alloc (.cells #[.pointer none, .pointer none, .map none, .map none, .int .u64 0] tVen)) z = some (.cells #[.pointer none, .pointer none, .map none, .map none, .int .u64 0] tVen (0, 0)) := by rw [hz]; simp [go_sem]
  refine rvS (v := .pointer (some ⟨z, 0, none⟩)) (w' := w.alloc (.cells #[.pointer none, .pointer none, .map none, .map none, .int .u64 0] tVen)) (by rw [hz]; simp [go_sem]) ?_
  generalize w.alloc (.cells #[.pointer none, .pointer none, .map none, .map none, .int .u64 0] tVen) = w1 at m1 b1 ⊢
  refine ca_saveN (.inl rfl) ?_
  refine rvS (v := nilV) (w' := w1) (by simp [go_sem, nilV]) (rvS (v := .int .i64 1) (w' := w1) (by simp [go_sem, nilV]) ?_)
  refine ca_saveN (.inr ⟨z, rfl, b1⟩) ?_
  refine rvS (v := nilV) (w' := w1) (by simp [go_sem, nilV]) (rvS (v := .int .i64 1) (w' := w1) (by simp [go_sem, nilV]) ?_)
  have tail : ∀ (x e : Value) (w2 : World), Mod (fun _ => False) w w2 → ((∃ y, x = vptr y) ∧ e = .int .i64 0 ∨ x = .pointer none ∧ e = .int .i64 5) →
      (rv Tryz.prog (bin .neq 23 true x (.pointer none)) w2 fun v38 w39 => rv Tryz.prog (bin .eql 26 true e (.int .i64 0)) w39 fun v40 w41 => rv Tryz.prog (bin .eql 4 false v38 v40) w41 fun v42 w43 =>
        ifB v42 (Ca Tryz.prog 17 #[] w43 fun v44 w45 => K v44 w45) (K (.bool false) w43)) := by
    rintro x e w2 m (⟨⟨y, rfl⟩, rfl⟩ | ⟨rfl, rfl⟩)
    · refine rvS (v := .bool true) (w' := w2) (by simp [go_sem, vptr]) (rvS (v := .bool true) (w' := w2) (by simp [go_sem]) (rvS (v := .bool true) (w' := w2) (by simp [go_sem]) ?_))
      rw [ifB_bool, if_pos rfl]
      exact ca_known17 fun w' m' => hK w' (m.trans m')
    · refine rvS (v := .bool false) (w' := w2) (by simp [go_sem]) (rvS (v := .bool false) (w' := w2) (by simp [go_sem]) (rvS (v := .bool true) (w' := w2) (by simp [go_sem]) ?_))
      rw [ifB_bool, if_pos rfl]
      exact ca_known17 fun w' m' => hK w' (m.trans m')
  have mid : ∀ (t x e : Value) (w2 : World), (∀ W, (Instr.extract t 0).run Tryz.prog W = .ok x W) → (∀ W, (Instr.extract t 1).run Tryz.prog W = .ok e W) → Mod (fun _ => False) w w2 → ((∃ y, x = vptr y) ∧ e = .int .i64 0 ∨ x = .pointer none ∧ e = .int .i64 5) →
      (rv Tryz.prog (Instr.extract t 0) w2 fun v22 w23 => rv Tryz.prog (Instr.extract t 1) w23 fun v24 w25 => rn Tryz.prog (builtin .len #[54] 3 #[false] #[nilV]) w25 fun v26 w27 => rn Tryz.prog (builtin .len #[54] 3 #[false] #[nilV]) w27 fun v28 w29 =>
        rv Tryz.prog (bin .add 3 false v26 v28) w29 fun v30 w31 => rv Tryz.prog (bin .eql 3 true v30 (.int .i64 0)) w31 fun v32 w33 => ifB v32 (rv Tryz.prog (bin .eql 26 true (.int .i64 1) (.int .i64 1)) w33 fun v34 w35 => ifB v34 (rv Tryz.prog (bin .eql 26 true (.int .i64 1) (.int .i64 1)) w35 fun v36 w37 =>
          ifB v36 (rv Tryz.prog (bin .neq 23 true v22 (.pointer none)) w37 fun v38 w39 => rv Tryz.prog (bin .eql 26 true v24 (.int .i64 0)) w39 fun v40 w41 => rv Tryz.prog (bin .eql 4 false v38 v40) w41 fun v42 w43 =>
            ifB v42 (Ca Tryz.prog 17 #[] w43 fun v44 w45 => K v44 w45) (K (.bool false) w43)) (K (.bool false) w37)) (K (.bool false) w35)) (K (.bool false) w33)) := by
    intro t x e w2 h1 h2 m hx
    refine rvS (h1 _) (rvS (h2 _) ?_)
    refine rnS (v := .int .i64 0) (w' := w2) (by simp [go_sem, nilV]) (rnS (v := .int .i64 0) (w' := w2) (by simp [go_sem, nilV]) ?_)
    refine rvS (v := .int .i64 0) (w' := w2) (by simp [go_sem]; decide) (rvS (v := .bool true) (w' := w2) (by simp [go_sem]) ?_)
    rw [ifB_bool, if_pos rfl]
    refine rvS (v := .bool true) (w' := w2) (by simp [go_sem]) ?_
    rw [ifB_bool, if_pos rfl]
    refine rvS (v := .bool true) (w' := w2) (by simp [go_sem]) ?_
    rw [ifB_bool, if_pos rfl]
    exact tail x e w2 m hx
  refine ca_load (h.mod m1 fun _ _ h => h) (by omega) (fun x s S F w2 hr q2 n2 m2 => ?_) fun w2 hr m2 => ?_
  · exact mid _ (vptr x) (.int .i64 0) w2 (fun W => by simp [go_sem]) (fun W => by simp [go_sem]) (m1.trans m2) (.inl ⟨⟨x, rfl⟩, rfl⟩)
  · exact mid _ (.pointer none) (.int .i64 5) w2 (fun W => by simp [go_sem]) (fun W => by simp [go_sem]) (m1.trans m2) (.inr ⟨rfl, rfl⟩)
end Go.Proofs
namespace Go.Proofs.YtgebhcgmckjbbaaGreat.imageNone
open Go Go.Vc Go.Proofs Go.ChangeShapes Go.WideShapes Go.ChangeAt Go.RowKit
set_option maxRecDepth 100000 in
theorem lifted (os : Os) (started : os.Started) (H : Type) (enc : TypeId × Value → H) :
    ReturnsInHanded {} Tryz.checked os 6 .any (Rows.imageNoneSpec.pre6 enc Tryz.prog Tryz.f6 Rows.imageNoneRow.domain false) (Rows.imageNoneSpec.post enc Tryz.prog Tryz.f6 false true false false) := by
  refine returnsInHanded_of_change_sized (C := Tryz.checked) own started (by kernel_rfl) Tryz.func6
    (ChangeSpec.witness6 (enc := enc) (C := Tryz.checked) false ⟨#[], #[.slice none 0 0], []⟩ 8 (by kernel_rfl) (by kernel_rfl) (by kernel_rfl) (by kernel_rfl)) ?_
  intro W base args ds gs before hval0 hW hcnd hwt0 _
  have hval : ∀ (j : Nat) t v, Tryz.f6.params[j]? = some t → args[j]? = some v → Value.okWide Tryz.prog W .any base t v := hval0
  have hwt : (DataW.weightsEach Tryz.prog (Tryz.f6.params.toList ++ []) (ds ++ gs)).all (· ≤ reachBytes) = true := hwt0
  have hW' := hW
  obtain ⟨p, q, hA0, hV, rfl, hfz, hnd⟩ := hW
  have hA : DataW.TrodAll enc Tryz.prog W 0 (fun _ => true) true Tryz.f6.params.toList args.toList ds p := hA0
  rw [Tryz.params6] at hA hval hwt
  obtain ⟨v0, vs0, d0, ds0, p0, q0, hargs, rfl, rfl, h0, r0⟩ := trodAll_cons hA
  obtain ⟨rfl, rfl, rfl⟩ := trodAll_nil r0
  obtain rfl : args = #[v0] := by cases args; simp_all
  obtain ⟨rfl, rfl⟩ := trodVars_none hV
  obtain ⟨b0, hb0⟩ := open_bs Tryz.underlying54 Tryz.underlying5 (by kernel_rfl) (hval 0 54 v0 rfl rfl) h0
  clear hA0 hval0
  refine Calls.mono (ca_imageNone (K := fun v w' => v = .bool true ∧ Mod (fun _ => False) W w') hb0 fun w' hm => ⟨rfl, hm⟩).out ?_
  rintro e W' ⟨v, rfl, rfl, hm⟩
  exact ⟨_, rfl, post_of_mod laidOut (by kernel_rfl) rfl hW' hm (by kernel_rfl) Tryz.underlying4 rfl⟩
abbrev zRw := Rows.imageNoneRow
abbrev zSp := Rows.imageNoneSpec
noncomputable abbrev zVt := Tryz.f6.params.toList ++ zSp.plain.varTypes Tryz.prog
theorem k0 : zRw.wf (OpenSpec.ofChange zSp) := by kernel_rfl
theorem k1 : laidOutB Tryz.prog := by kernel_rfl
theorem k2 : mapsRowed Tryz.prog := by kernel_rfl
theorem k3 : Tryz.f6.params.all (Tryz.prog.readableRec ·) := by kernel_rfl
theorem k4 : namedTie Tryz.prog zRw.named zSp.vars := by kernel_rfl
theorem k5 : zRw.stops == [] := by kernel_rfl
theorem k6 : Tryz.prog.stops == [] := by kernel_rfl
theorem k7 : zRw.knobs == [] := by kernel_rfl
theorem k8 : Tryz.prog.stopKnobs == [] := by kernel_rfl
theorem k9 : zRw.inPlace == Tryz.prog.inPlace 6 := by kernel_rfl
theorem k10 : zRw.unfollowed == Tryz.prog.unfollowed 6 := by kernel_rfl
theorem k11 : zRw.recurses == Tryz.prog.recurses 6 := by kernel_rfl
theorem k12 : zRw.named == Tryz.prog.varsNamed 6 := by kernel_rfl
theorem k13 : zRw.maps == zVt.any (Tryz.prog.mapsRec ·) := by kernel_rfl
theorem k14 : zRw.ifaces == zVt.any (Tryz.prog.ifacesRec ·) := by kernel_rfl
theorem k15 : zRw.mapsOut == Tryz.prog.mapsAmong Tryz.f6.resultTypes.toList := by kernel_rfl
theorem k16 : zRw.loops == zVt.any (Tryz.prog.loopsFrom ·) := by kernel_rfl
theorem k17 : zRw.wideKeys == (zVt ++ Tryz.f6.resultTypes.toList).any (Tryz.prog.wideKeysFrom ·) := by kernel_rfl
theorem k18 : zSp.vars.all (Tryz.prog.varReadable ·) := by kernel_rfl
theorem k19 : Tryz.f6.resultTypes.all (fun t => Tryz.prog.readableRec t && decide (t < Tryz.prog.types.size)) := by kernel_rfl
theorem k20 : zRw.ifacesOut == Tryz.f6.resultTypes.toList.any (Tryz.prog.ifacesRec ·) := by kernel_rfl
theorem k21 : zRw.loopsOut == Tryz.f6.resultTypes.toList.any (Tryz.prog.loopsFrom ·) := by kernel_rfl
theorem k22 : zRw.plainKeys == Tryz.prog.plainKeys := by kernel_rfl
theorem k23 : zRw.shortTexts.isNone := by kernel_rfl
theorem k24 : Tryz.prog.stopsHeard := by kernel_rfl
theorem k25 : Tryz.prog.mayEnter := by kernel_rfl
theorem k26 : zRw.lifted == Tryz.prog.liftsFinal := by kernel_rfl
theorem k27 : Tryz.prog.make == some zRw.make := by kernel_rfl
theorem k28 : zRw.kinds == (if zRw.domain.isEmpty then [] else Tryz.f6.params.toList.map fun t => match Tryz.prog.underlying t with | some (.int k) => some k | _ => none) := by kernel_rfl
theorem k29 : zRw.pinned == zRw.pinnedBy := by kernel_rfl
theorem k30 : zRw.veiled == (zVt ++ Tryz.f6.resultTypes.toList).any (Tryz.prog.veiledRec ·) := by kernel_rfl
theorem k31 : zRw.veiledFits Tryz.prog Tryz.f6.params.toList (zVt ++ Tryz.f6.resultTypes.toList) := by kernel_rfl
set_option maxRecDepth 100000 in
theorem closed : joinedFacts Tryz.prog 6 Tryz.f6 Rows.imageNoneSpec Rows.imageNoneRow = true := by
  unfold joinedFacts
  simp only [Bool.and_eq_true]
  exact ⟨⟨⟨⟨⟨⟨⟨⟨⟨⟨⟨⟨⟨⟨⟨⟨⟨⟨⟨⟨⟨⟨⟨⟨⟨⟨⟨⟨⟨⟨⟨k0, k1⟩, k2⟩, k3⟩, k4⟩, k5⟩, k6⟩, k7⟩, k8⟩, k9⟩, k10⟩, k11⟩, k12⟩, k13⟩, k14⟩, k15⟩, k16⟩, k17⟩, k18⟩, k19⟩, k20⟩, k21⟩, k22⟩, k23⟩, k24⟩, k25⟩, k26⟩, k27⟩, k28⟩, k29⟩, k30⟩, k31⟩
theorem holds : Rows.ImageNoneSaid :=
  OpenClaim.holds_of_wide 6 Tryz.f6 rfl rfl rfl rfl rfl rfl rfl ⟨rfl, rfl, rfl, rfl, rfl⟩ rfl rfl rfl rfl rfl (by kernel_rfl) Tryz.func6 closed
    (of_decide_eq_true (by kernel_rfl)) (by unfold Func.isWrapper; first | (rw [if_pos (by decide +kernel)]; kernel_rfl) | (rw [if_neg (by decide +kernel)]; exact ⟨rfl, rfl⟩))
    (fun os started H enc _ => lifted os started H enc)
end Go.Proofs.YtgebhcgmckjbbaaGreat.imageNone
