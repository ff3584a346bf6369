/- Part of a proof. -/
import Derived.Lib.Overlaps
import Derived.Test.YtgebhcgmckjbbaaGreatI7
set_option linter.all false
namespace Go.Proofs
open Go Go.Vc
attribute [local congr] Ca_congV
abbrev R64' (n : Int) : Prop := -9223372036854775808 ≤ n ∧ n < 9223372036854775808
abbrev U32' (n : Int) : Prop := 0 ≤ n ∧ n < 4294967296
abbrev U64' (n : Int) : Prop := 0 ≤ n ∧ n < 18446744073709551616
structure Sp where
  num : Int
  route : Int
  tick : Int
  lot : Int
  band : Int
  limit : Int
  shifts : Vector Int 16
  credit : Int
  last : Int
  first : Int
deriving DecidableEq
def Sp.Fit (s : Sp) : Prop := U32' s.num ∧ (0 ≤ s.route ∧ s.route < 256) ∧ R64' s.tick ∧ R64' s.lot ∧ R64' s.band ∧ R64' s.limit ∧ (∀ x ∈ s.shifts.toList, R64' x) ∧ R64' s.credit ∧ U32' s.last ∧ R64' s.first
def shC (s : Vector Int 16) : List Value := s.toList.map fun n => .int .i64 n
def spC (s : Sp) : List Value := [.int .u32 s.num, .int .u8 s.route, .int .i64 s.tick, .int .i64 s.lot, .int .i64 s.band, .int .i64 s.limit] ++ (shC s.shifts ++ [.int .i64 s.credit, .int .u32 s.last, .int .i64 s.first])
theorem shC_len (s : Vector Int 16) : (shC s).length = 16 := by simp [shC]
theorem spC_len (s : Sp) : (spC s).length = 25 := by simp [spC, shC_len]
theorem spC_one (s : Sp) : (spC s).all (·.oneCell') = true := by simp [spC, shC, Value.oneCell']
theorem spC_shift (s : Sp) : ((spC s).drop 6).take 16 = shC s.shifts := by
  simp only [spC]
  rw [List.drop_append_of_le_length (by simp)]
  simp only [List.drop_succ_cons, List.drop_nil, List.drop_zero, List.nil_append]
  rw [List.take_append_of_le_length (by rw [shC_len]; omega), List.take_of_length_le (by rw [shC_len]; omega)]
theorem spG {s : Sp} {post : List Value} {i : Nat} (hi : i < 3) : (spC s ++ post)[22 + i]? = ([.int .i64 s.credit, .int .u32 s.last, .int .i64 s.first] : List Value)[i]? := by
  rw [List.getElem?_append_left (by rw [spC_len]; omega)]
  simp only [spC]
  rw [List.getElem?_append_right (by simp; omega)]
  rw [List.getElem?_append_right (by rw [shC_len]; simp; omega)]
  congr 1
  rw [shC_len]; simp; omega
theorem spG0 (s : Sp) (post : List Value) : (spC s ++ post)[0]? = some (.int .u32 s.num) := rfl
theorem spG1 (s : Sp) (post : List Value) : (spC s ++ post)[1]? = some (.int .u8 s.route) := rfl
theorem spG2 (s : Sp) (post : List Value) : (spC s ++ post)[2]? = some (.int .i64 s.tick) := rfl
theorem spG3 (s : Sp) (post : List Value) : (spC s ++ post)[3]? = some (.int .i64 s.lot) := rfl
theorem spG4 (s : Sp) (post : List Value) : (spC s ++ post)[4]? = some (.int .i64 s.band) := rfl
theorem spG5 (s : Sp) (post : List Value) : (spC s ++ post)[5]? = some (.int .i64 s.limit) := rfl
theorem spG22 (s : Sp) (post : List Value) : (spC s ++ post)[22]? = some (.int .i64 s.credit) := spG (i := 0) (by omega)
theorem spG24 (s : Sp) (post : List Value) : (spC s ++ post)[24]? = some (.int .i64 s.first) := spG (i := 2) (by omega)
def priceB (tick n : Int) : Bool := amongB n 1 MP && decide (n.tmod tick = 0)
def shiftsB (l : List Int) : Bool := l.all fun x => amongB x (-MP) MP
def Sp.may (s : Sp) : Bool :=
  shiftsB s.shifts.toList && s.shifts.toList.any (fun x => decide (0 < x)) && s.shifts.toList.any (fun x => decide (x < 0)) && decide (s.num ≠ 0) && amongB s.route 1 8 && amongB s.tick 1 MP && amongB s.lot 1 1000000 && amongB s.band 0 MP && amongB s.limit 1 MP && amongB s.credit 0 MP && priceB s.tick s.first
def Sp.isPrice (s : Sp) (n : Int) : Bool := s.may && priceB s.tick n
def Sp.isQty (s : Sp) (n : Int) : Bool := s.may && (amongB n 1 1000000 && decide (n.tmod s.lot = 0))
theorem ca_swithin {n lo hi : Int} {w : World} {K : Kont} (hK : K (.bool (amongB n lo hi)) w) : Ca Tryz.prog 191 #[.int .i64 n, .int .i64 lo, .int .i64 hi] w K := by
  apply ca191
  unfold F191
  unfold amongB at hK
  by_cases h : lo ≤ n
  · simp [go_sem, h] at hK ⊢
    exact hK
  · simp [go_sem, h] at hK ⊢
    exact hK
theorem ca_sprice {tick n : Int} {w : World} {K : Kont} (h0 : 0 < tick) (hK : K (.bool (priceB tick n)) w) : Ca Tryz.prog 192 #[.int .i64 tick, .int .i64 n] w K := by
  apply ca192
  unfold F192
  refine ca_swithin ?_
  unfold priceB MP at hK
  have h0' : ¬ tick = 0 := by omega
  cases h : amongB n 1 10000000 with
  | false =>
    rw [h] at hK
    simpa using hK
  | true =>
    rw [h] at hK
    have hn := of_decide_eq_true h
    simp [go_sem, h0'] at hK ⊢
    have e : IntKind.i64.wrap (n.tmod tick) = n.tmod tick := by
      have h1 := Int.emod_nonneg n h0'
      have h2 := Int.emod_lt_of_pos n h0
      have h3 : n.tmod tick = n % tick := Int.tmod_eq_emod_of_nonneg (by omega)
      have h4 : n % tick ≤ n := by
        by_cases hl : n < tick
        · rw [Int.emod_eq_of_lt (by omega) hl]; omega
        · omega
      rw [h3, wrapI (by omega) (by omega)]
    first
      | exact hK
      | (rw [e]; exact hK)
      | (simpa [e] using hK)
theorem uSh : Tryz.prog.underlying 36 = some (.array 16 2) := by kernel_rfl
theorem aSh : isAggT Tryz.prog 36 = true := by kernel_rfl
theorem nSh : Tryz.prog.cellsOf 36 = 15 + 1 := by kernel_rfl
theorem aI64 : isAggT Tryz.prog 2 = false := by kernel_rfl
theorem sI64 : (Tryz.prog.underlying 2).isSome = true := by kernel_rfl
theorem nI64 : Tryz.prog.cellsOf 2 = 0 + 1 := by kernel_rfl
theorem aSp : isAggT Tryz.prog 38 = true := by kernel_rfl
theorem nSp : Tryz.prog.cellsOf 38 = 24 + 1 := by kernel_rfl
theorem shC_get (s : Vector Int 16) (i : Nat) (h : i < 16) : (shC s).toArray[i]? = some (.int .i64 s.toList[i]!) := by
  have hl : s.toList.length = 16 := by simp
  simp [shC, List.getElem?_eq_getElem, hl, h]
theorem all_take {l : List Int} {p : Int → Bool} {i : Nat} (h : i < l.length) : (l.take (i + 1)).all p = ((l.take i).all p && p l[i]!) := by
  rw [List.take_add_one, List.getElem?_eq_getElem h, List.all_append]
  simp [h]
theorem any_take {l : List Int} {p : Int → Bool} {i : Nat} (h : i < l.length) : (l.take (i + 1)).any p = ((l.take i).any p || p l[i]!) := by
  rw [List.take_add_one, List.getElem?_eq_getElem h, List.any_append]
  simp [h]
set_option maxRecDepth 10000 in
theorem ca_smayS {s : Sp} {w : World} {K : Kont} (hf : s.Fit) (hK : ∀ w', Mod (fun _ => False) w w' → K (.bool s.may) w') : Ca Tryz.prog 107 #[.agg (spC s).toArray] w K := by
  apply ca107
  unfold F107
  obtain ⟨p, hp0⟩ : ∃ p, p = w.heap.size := ⟨_, rfl⟩
  have m1 : Mod (fun _ => False) w (w.alloc (.cells (spC s).toArray 38)) := (Mod.refl _ w).alloc _
  refine rvS (v := .pointer (some ⟨p, 0, none⟩)) (w' := w.alloc (.cells (spC s).toArray 38)) (by rw [hp0]; rfl) ?_
  have b1 : hp (w.alloc (.cells (spC s).toArray 38)) p = some (.cells (spC s).toArray 38 (0, 0)) := by rw [hp0]; simp [go_sem]
  generalize w.alloc (.cells (spC s).toArray 38) = w1 at m1 b1 ⊢
  refine rvS (v := .pointer (some ⟨p, 6, none⟩)) (w' := w1) (by simp [go_sem]) ?_
  have hA : At w1 p 6 (shC s.shifts) := by
    have hA0 : At w1 p 0 (spC s) := ⟨_, _, _, b1, by simp, by simp⟩
    have := hA0.sub 6 16 (by rw [spC_len]; omega)
    rw [spC_shift] at this
    simpa using this
  refine rx_bigS (shC s.shifts) 15 aSh nSh (shC_len _) hA ?_
  have hl : s.shifts.toList.length = 16 := by simp
  obtain ⟨f1, f2, f3, f4, f5, f6, f7, f8, f9, f10⟩ := hf
  have hcell : ∀ i : Nat, (spC s)[i]? = (spC s ++ [])[i]? := fun i => by rw [List.append_nil]
  refine loopV (fun st W => ∃ (i : Nat) (x : Value), i ≤ 16 ∧ st = (x, .bool ((s.shifts.toList.take i).any fun x => decide (0 < x)), .bool ((s.shifts.toList.take i).any fun x => decide (x < 0)), .int .i64 i, ()) ∧ W = w1 ∧ shiftsB (s.shifts.toList.take i) = true)
    (fun st _ => match st.2.2.2.1 with | .int _ i => 16 - i.toNat | _ => 0) ⟨0, .bool false, by omega, rfl, rfl, rfl⟩ ?_
  rintro ⟨_, _⟩ W ⟨i, x, hi, ⟨⟩, rfl, hall⟩ KN hKN
  unfold L107_0
  intro _
  by_cases hlt : i < 16
  · have hlt' : (i : Int) < 16 := by omega
    have hil : i < s.shifts.toList.length := by omega
    have hx : R64' s.shifts.toList[i]! := by
      rw [getElem!_pos s.shifts.toList i hil]
      exact f7 _ (List.getElem_mem hil)
    refine rvS (v := .bool true) (by simp [go_sem, hlt'] <;> first | exact ⟨rfl, rfl⟩ | exact rfl) ?_
    rw [ifB_bool, if_pos rfl]
    refine rvS (v := .int .i64 s.shifts.toList[i]!) (w' := W) (run_index_one uSh aI64 sI64 nI64 hlt (shC_get _ i hlt)) ?_
    generalize hy : s.shifts.toList[i]! = y at *
    refine ca_Within hx (by omega) ?_
    have hw : IntKind.i64.wrap ((i : Int) + 1) = ((i + 1 : Nat) : Int) := by rw [wrapI (by omega) (by omega)]; omega
    refine rvS (v := .bool (!amongB y (-10000000) 10000000)) (w' := W) (by simp [go_sem]) ?_
    cases hb : amongB y (-10000000) 10000000 with
    | false =>
      rw [ifB_bool, if_pos (show (!false) = true from rfl)]
      have : s.may = false := by
        have h1 : shiftsB s.shifts.toList = false := by
          rw [Bool.eq_false_iff]
          intro hc
          have := (List.all_eq_true.1 hc) y (by rw [← hy, getElem!_pos s.shifts.toList i hil]; exact List.getElem_mem hil)
          unfold MP at this
          rw [hb] at this
          cases this
        unfold Sp.may
        rw [h1]; simp
      rw [← this]
      exact hK _ m1
    | true =>
      rw [ifB_bool, if_neg (by simp)]
      have hall' : shiftsB (s.shifts.toList.take (i + 1)) = true := by
        unfold shiftsB
        rw [all_take hil, hy]
        show (shiftsB _ && _) = true
        rw [hall]
        simpa [MP] using hb
      have nxt : ∀ (z : Value), KN (z, .bool ((s.shifts.toList.take (i + 1)).any fun x => decide (0 < x)), .bool ((s.shifts.toList.take (i + 1)).any fun x => decide (x < 0)), .int .i64 ((i + 1 : Nat) : Int), ()) W := fun z =>
        hKN _ _ ⟨i + 1, z, by omega, rfl, rfl, hall'⟩ (by show 16 - (((i + 1 : Nat) : Int)).toNat < 16 - ((i : Int)).toNat; omega)
      rw [any_take hil, any_take hil, hy] at nxt
      cases hu : (s.shifts.toList.take i).any fun x => decide (0 < x) <;> cases hd : (s.shifts.toList.take i).any fun x => decide (x < 0)
      all_goals
        rw [hu, hd] at nxt
        simp only [ifB_bool, Bool.false_eq_true, if_false, if_true]
        simp [-Int.natCast_add, go_sem, hw]
        simpa using nxt _
  · obtain rfl : i = 16 := by omega
    rw [List.take_of_length_le (by omega)] at hall
    rw [List.take_of_length_le (by omega)]
    refine rvS (v := .bool false) (by simp [go_sem] <;> first | exact ⟨rfl, rfl⟩ | exact rfl) ?_
    rw [ifB_bool, if_neg Bool.false_ne_true]
    have hm : ∀ b : Bool, b = s.may → K (.bool b) W := fun b h => by rw [h]; exact hK _ m1
    unfold Sp.may at hm
    rw [hall] at hm
    cases hu : s.shifts.toList.any fun x => decide (0 < x) with
    | false =>
      rw [ifB_bool, if_neg Bool.false_ne_true]
      refine hm _ ?_
      rw [hu]; simp
    | true =>
      rw [hu] at hm
      rw [ifB_bool, if_pos rfl]
      cases hd : s.shifts.toList.any fun x => decide (x < 0) with
      | false =>
        rw [ifB_bool, if_neg Bool.false_ne_true]
        refine hm _ ?_
        rw [hd]; simp
      | true =>
        rw [hd] at hm
        rw [ifB_bool, if_pos rfl]
        have g0 : (spC s).toArray[0]? = some (.int .u32 s.num) := by rw [List.getElem?_toArray, hcell]; exact spG0 s []
        have g1 : (spC s).toArray[1]? = some (.int .u8 s.route) := by rw [List.getElem?_toArray, hcell]; exact spG1 s []
        have g2 : (spC s).toArray[2]? = some (.int .i64 s.tick) := by rw [List.getElem?_toArray, hcell]; exact spG2 s []
        have g3 : (spC s).toArray[3]? = some (.int .i64 s.lot) := by rw [List.getElem?_toArray, hcell]; exact spG3 s []
        have g4 : (spC s).toArray[4]? = some (.int .i64 s.band) := by rw [List.getElem?_toArray, hcell]; exact spG4 s []
        have g5 : (spC s).toArray[5]? = some (.int .i64 s.limit) := by rw [List.getElem?_toArray, hcell]; exact spG5 s []
        have g22 : (spC s).toArray[22]? = some (.int .i64 s.credit) := by rw [List.getElem?_toArray, hcell]; exact spG22 s []
        have g24 : (spC s).toArray[24]? = some (.int .i64 s.first) := by rw [List.getElem?_toArray, hcell]; exact spG24 s []
        refine rvS (by simp [-Int.natCast_add, go_sem, b1, g0] <;> first | exact ⟨rfl, rfl⟩ | exact rfl) ?_
        refine rvS (by simp [-Int.natCast_add, go_sem, b1, g0] <;> first | exact ⟨rfl, rfl⟩ | exact rfl) ?_
        by_cases hn : s.num = 0
        · refine rvS (v := .bool false) (by simp [go_sem, hn] <;> first | exact ⟨rfl, rfl⟩ | exact rfl) ?_
          rw [ifB_bool, if_neg Bool.false_ne_true]
          refine hm _ (by simp [hn])
        have hn' : decide (s.num ≠ 0) = true := by simpa using hn
        rw [hn'] at hm
        refine rvS (v := .bool true) (by simp [go_sem, hn] <;> first | exact ⟨rfl, rfl⟩ | exact rfl) ?_
        rw [ifB_bool, if_pos rfl]
        refine rvS (by simp [-Int.natCast_add, go_sem, b1, g1] <;> first | exact ⟨rfl, rfl⟩ | exact rfl) ?_
        refine rvS (by simp [-Int.natCast_add, go_sem, b1, g1] <;> first | exact ⟨rfl, rfl⟩ | exact rfl) ?_
        refine rvS (v := .int .i64 s.route) (w' := W) (by simp [go_sem, wrapI (n := s.route) (by omega) (by omega)]) ?_
        refine ca_swithin ?_
        cases h1 : amongB s.route 1 8 with
        | false => rw [ifB_bool, if_neg Bool.false_ne_true]; exact hm _ (by rw [h1]; simp)
        | true =>
        rw [h1] at hm
        rw [ifB_bool, if_pos rfl]
        refine rvS (by simp [-Int.natCast_add, go_sem, b1, g2] <;> first | exact ⟨rfl, rfl⟩ | exact rfl) ?_
        refine rvS (by simp [-Int.natCast_add, go_sem, b1, g2] <;> first | exact ⟨rfl, rfl⟩ | exact rfl) ?_
        refine ca_swithin ?_
        unfold MP at hm
        cases h2 : amongB s.tick 1 10000000 with
        | false => rw [ifB_bool, if_neg Bool.false_ne_true]; exact hm _ (by rw [h2]; simp)
        | true =>
        rw [h2] at hm
        rw [ifB_bool, if_pos rfl]
        refine rvS (by simp [-Int.natCast_add, go_sem, b1, g3] <;> first | exact ⟨rfl, rfl⟩ | exact rfl) ?_
        refine rvS (by simp [-Int.natCast_add, go_sem, b1, g3] <;> first | exact ⟨rfl, rfl⟩ | exact rfl) ?_
        refine ca_swithin ?_
        cases h3 : amongB s.lot 1 1000000 with
        | false => rw [ifB_bool, if_neg Bool.false_ne_true]; exact hm _ (by rw [h3]; simp)
        | true =>
        rw [h3] at hm
        rw [ifB_bool, if_pos rfl]
        refine rvS (by simp [-Int.natCast_add, go_sem, b1, g4] <;> first | exact ⟨rfl, rfl⟩ | exact rfl) ?_
        refine rvS (by simp [-Int.natCast_add, go_sem, b1, g4] <;> first | exact ⟨rfl, rfl⟩ | exact rfl) ?_
        refine ca_swithin ?_
        cases h4 : amongB s.band 0 10000000 with
        | false => rw [ifB_bool, if_neg Bool.false_ne_true]; exact hm _ (by rw [h4]; simp)
        | true =>
        rw [h4] at hm
        rw [ifB_bool, if_pos rfl]
        refine rvS (by simp [-Int.natCast_add, go_sem, b1, g5] <;> first | exact ⟨rfl, rfl⟩ | exact rfl) ?_
        refine rvS (by simp [-Int.natCast_add, go_sem, b1, g5] <;> first | exact ⟨rfl, rfl⟩ | exact rfl) ?_
        refine ca_swithin ?_
        cases h5 : amongB s.limit 1 10000000 with
        | false => rw [ifB_bool, if_neg Bool.false_ne_true]; exact hm _ (by rw [h5]; simp)
        | true =>
        rw [h5] at hm
        rw [ifB_bool, if_pos rfl]
        refine rvS (by simp [-Int.natCast_add, go_sem, b1, g22] <;> first | exact ⟨rfl, rfl⟩ | exact rfl) ?_
        refine rvS (by simp [-Int.natCast_add, go_sem, b1, g22] <;> first | exact ⟨rfl, rfl⟩ | exact rfl) ?_
        refine ca_swithin ?_
        cases h6 : amongB s.credit 0 10000000 with
        | false => rw [ifB_bool, if_neg Bool.false_ne_true]; exact hm _ (by rw [h6]; simp)
        | true =>
        rw [h6] at hm
        rw [ifB_bool, if_pos rfl]
        refine rvS (by simp [-Int.natCast_add, go_sem, b1, g2] <;> first | exact ⟨rfl, rfl⟩ | exact rfl) ?_
        refine rvS (by simp [-Int.natCast_add, go_sem, b1, g2] <;> first | exact ⟨rfl, rfl⟩ | exact rfl) ?_
        refine rvS (by simp [-Int.natCast_add, go_sem, b1, g24] <;> first | exact ⟨rfl, rfl⟩ | exact rfl) ?_
        refine rvS (by simp [-Int.natCast_add, go_sem, b1, g24] <;> first | exact ⟨rfl, rfl⟩ | exact rfl) ?_
        have ht := of_decide_eq_true h2
        refine ca_sprice (by omega) ?_
        exact hm _ (by simp)
end Go.Proofs
namespace Go.Proofs
open Go Go.Vc
attribute [local congr] Ca_congV
theorem spT2 (s : Sp) : (spC s)[2]? = some (.int .i64 s.tick) := rfl
theorem spT3 (s : Sp) : (spC s)[3]? = some (.int .i64 s.lot) := rfl
theorem boxSp (s : Sp) (w : World) : ∃ w1, (Instr.box 38 (.agg (spC s).toArray)).run Tryz.prog w = .ok (.pointer (some ⟨w.heap.size, 0, none⟩)) w1 ∧ hp w1 w.heap.size = some (.cells (spC s).toArray 38 (0, 0)) ∧ Mod (fun _ => False) w w1 :=
  ⟨w.alloc (.cells (spC s).toArray 38), rfl, by simp [go_sem], (Mod.refl _ w).alloc _⟩
theorem At.all {w : World} {b : Nat} {l : List Value} {T : TypeId} {fz : Nat × Nat} (h : hp w b = some (.cells l.toArray T fz)) : At w b 0 l := ⟨_, _, _, h, by simp, by simp⟩
theorem Sp.may_tick {s : Sp} (h : s.may = true) : 1 ≤ s.tick ∧ 1 ≤ s.lot ∧ 0 ≤ s.band ∧ 1 ≤ s.limit ∧ s.limit ≤ 10000000 ∧ s.band ≤ 10000000 ∧ s.lot ≤ 1000000 ∧ s.tick ≤ 10000000 := by
  unfold Sp.may amongB MP at h
  simp only [Bool.and_eq_true, decide_eq_true_eq] at h
  omega
theorem ca_isPrice {s : Sp} {n : Int} {w : World} {K : Kont} (hf : s.Fit) (hK : ∀ w', Mod (fun _ => False) w w' → K (.bool (s.isPrice n)) w') : Ca Tryz.prog 127 #[.agg (spC s).toArray, .int .i64 n] w K := by
  apply ca127
  unfold F127
  obtain ⟨w1, e1, b1, m1⟩ := boxSp s w
  refine rvS e1 ?_
  refine rx_bigS (spC s) 24 aSp nSp (spC_len s) (At.all b1) ?_
  refine ca_smayS hf fun w2 m2 => ?_
  have b2 := m2.hpk b1 id
  unfold Sp.isPrice at hK
  cases hm : s.may with
  | false =>
    rw [hm] at hK
    rw [ifB_bool, if_neg Bool.false_ne_true]
    exact hK _ (m1.trans m2)
  | true =>
    rw [hm] at hK
    rw [ifB_bool, if_pos rfl]
    refine rvS (by simp [-Int.natCast_add, go_sem, b2] <;> first | exact ⟨rfl, rfl⟩ | exact rfl) ?_
    refine rvS (by simp [-Int.natCast_add, go_sem, b2, spT2] <;> first | exact ⟨rfl, rfl⟩ | exact rfl) ?_
    refine ca_sprice (by have := Sp.may_tick hm; omega) ?_
    exact hK _ (m1.trans m2)
theorem ca_isQty {s : Sp} {n : Int} {w : World} {K : Kont} (hf : s.Fit) (hK : ∀ w', Mod (fun _ => False) w w' → K (.bool (s.isQty n)) w') : Ca Tryz.prog 223 #[.agg (spC s).toArray, .int .i64 n] w K := by
  apply ca223
  unfold F223
  obtain ⟨w1, e1, b1, m1⟩ := boxSp s w
  refine rvS e1 ?_
  refine rx_bigS (spC s) 24 aSp nSp (spC_len s) (At.all b1) ?_
  refine ca_smayS hf fun w2 m2 => ?_
  have b2 := m2.hpk b1 id
  unfold Sp.isQty at hK
  cases hm : s.may with
  | false =>
    rw [hm] at hK
    rw [ifB_bool, if_neg Bool.false_ne_true]
    exact hK _ (m1.trans m2)
  | true =>
    rw [hm] at hK
    rw [ifB_bool, if_pos rfl]
    refine ca_swithin ?_
    have hlot := Sp.may_tick hm
    have h0 : ¬ s.lot = 0 := by omega
    cases hn : amongB n 1 1000000 with
    | false =>
      rw [hn] at hK
      rw [ifB_bool, if_neg Bool.false_ne_true]
      exact hK _ (m1.trans m2)
    | true =>
      rw [hn] at hK
      have hnb := of_decide_eq_true hn
      rw [ifB_bool, if_pos rfl]
      refine rvS (by simp [-Int.natCast_add, go_sem, b2] <;> first | exact ⟨rfl, rfl⟩ | exact rfl) ?_
      refine rvS (by simp [-Int.natCast_add, go_sem, b2, spT3] <;> first | exact ⟨rfl, rfl⟩ | exact rfl) ?_
      have e : IntKind.i64.wrap (n.tmod s.lot) = n.tmod s.lot := by
        have h1 := Int.emod_nonneg n h0
        have h2 := Int.emod_lt_of_pos n (show 0 < s.lot by omega)
        have h3 : n.tmod s.lot = n % s.lot := Int.tmod_eq_emod_of_nonneg (by omega)
        rw [h3, wrapI (by omega) (by omega)]
      refine rvS (v := .int .i64 (n.tmod s.lot)) (w' := w2) (by simp [go_sem, h0, e]) ?_
      refine rvS (v := .bool (decide (n.tmod s.lot = 0))) (w' := w2) (by simp [go_sem]; rw [Bool.eq_iff_iff]; simp) ?_
      have := hK _ (m1.trans m2)
      simpa using this
structure Ct where
  spec : Sp
  st : Int
  price : Int
deriving DecidableEq
def Ct.Fit (k : Ct) : Prop := k.spec.Fit ∧ (0 ≤ k.st ∧ k.st < 256) ∧ R64' k.price
def ctC (k : Ct) : List Value := spC k.spec ++ [.int .u8 k.st, .int .i64 k.price]
theorem ctC_len (k : Ct) : (ctC k).length = 27 := by simp [ctC, spC_len]
theorem ctC_one (k : Ct) : (ctC k).all (·.oneCell') = true := by
  rw [ctC, List.all_append, spC_one]; rfl
theorem ctG25 (k : Ct) (post : List Value) : (ctC k ++ post)[25]? = some (.int .u8 k.st) := by
  rw [List.getElem?_append_left (by rw [ctC_len]; omega), ctC, List.getElem?_append_right (by rw [spC_len]; omega), spC_len]; rfl
theorem ctG26 (k : Ct) (post : List Value) : (ctC k ++ post)[26]? = some (.int .i64 k.price) := by
  rw [List.getElem?_append_left (by rw [ctC_len]; omega), ctC, List.getElem?_append_right (by rw [spC_len]; omega), spC_len]; rfl
end Go.Proofs
namespace Go.Vc
open Go
theorem rx_appendInK {P : Program} {t u ty e e' : TypeId} {sz : Nat} {w : World} {K : Kont} {b off n m cap : Nat} {C : Array Value} {T : TypeId} {x : Value} {news : List Value}
    (ht : P.underlying t = some (.slice e)) (hu : P.underlying u = some (.slice e')) (hc : P.cellsOf e = sz + 1) (hb : w.heap[b]? = some (.cells C T (0, 0))) (hroom : n + m ≤ cap)
    (hx : Rd w (sz + 1) x m news) (h1 : news.all (·.oneCell') = true) (hfit : off + (n + m) * (sz + 1) ≤ C.size)
    (hK : K (.slice (some ⟨b, off, none⟩) (n + m) cap) (w.setRow b (lay C.toList (off + n * (sz + 1)) news).toArray)) : rx P (xAppend #[t, u] ty [.slice (some ⟨b, off, none⟩) n cap, x]) w K := by
  obtain ⟨i, hi, hsz⟩ := info_of_cells (n := sz) hc
  have hlen : news.length = m * (sz + 1) := hx.1
  have hfx := hx.first (P := P) (Nat.succ_pos _)
  have hst := run_storeCells_at P b (off + n * (sz + 1)) T news 0 C w hb (by simp only [hlen]; rw [Nat.add_mul] at hfit; omega) (oneAll_mem h1)
  simp only [Nat.add_zero] at hst
  refine rx_of (v := .slice (some ⟨b, off, none⟩) (n + m) cap) (w' := w.setRow b (lay C.toList (off + n * (sz + 1)) news).toArray) ?_ hK
  have e0 : (⟨b, off, none⟩ : Addr).add (n * (sz + 1)) = ⟨b, off + n * (sz + 1), none⟩ := by rw [addr_add]
  unfold lay
  simp [xAppend, Builtin.append_, run_underlying ht, sizeOf, typeInfo, hi, hsz, run_underlying hu, hx.lenOf, Result.andThen, hfx, hroom]
  rw [e0, hst]
  simp [List.append_assoc]
theorem rx_copyK {P : Program} {dT sT ty e : TypeId} {sz : Nat} {w : World} {K : Kont} {g o dLen dCap sLen k : Nat} {src : Value} {all : List Value} {cur : Array Value} {t : TypeId}
    (hu : P.underlying dT = some (.slice e)) (hs : P.cellsOf e = sz + 1) (hg : w.heap[g]? = some (.cells cur t (0, 0))) (hsrc : Rd w (sz + 1) src sLen all) (hk : k = Nat.min sLen dLen)
    (hfit : o + k * (sz + 1) ≤ cur.size) (h1 : all.all (·.oneCell') = true) (hK : K (.int .i64 k) (w.setRow g (lay cur.toList o (all.take (k * (sz + 1)))).toArray)) :
    rx P (xCopy #[dT, sT] ty [.slice (some ⟨g, o, none⟩) dLen dCap, src]) w K := by
  obtain ⟨i, hi, hsz⟩ := info_of_cells (n := sz) hs
  have hl : all.length = sLen * (sz + 1) := hsrc.1
  have hks : k ≤ sLen := by rw [hk]; exact Nat.min_le_left _ _
  have hkm : k * (sz + 1) ≤ sLen * (sz + 1) := Nat.mul_le_mul_right _ hks
  have hkl : (all.take (k * (sz + 1))).length = k * (sz + 1) := by rw [List.length_take, hl]; omega
  have h1' : ∀ v ∈ all.take (k * (sz + 1)), v.oneCell' = true := fun v hv => oneAll_mem h1 v (List.mem_of_mem_take hv)
  have hst := run_storeCells_at P g o t (all.take (k * (sz + 1))) 0 cur w hg (by rw [hkl]; simpa using hfit) h1'
  simp only [Nat.add_zero] at hst
  have hload : (Builtin.firstCells (sz + 1) k src).run P w = .ok (all.take (k * (sz + 1))).toArray w := by
    obtain ⟨_, ⟨h0, a, c, rfl⟩ | ⟨b, off, cap, rfl, hc, hh⟩⟩ := hsrc
    · have hk0 : k = 0 := by omega
      subst hk0
      cases a <;> simp [Builtin.firstCells, loadCells, loadCellsFrom]
    · have := (hh.sub 0 (k * (sz + 1)) (by omega)).loads (P := P)
      simp only [List.drop_zero, Nat.add_zero, hkl] at this
      simpa [Builtin.firstCells] using this
  refine rx_of (v := goInt (Nat.min sLen dLen)) (w' := w.setRow g (lay cur.toList o (all.take (k * (sz + 1)))).toArray) ?_ (by rw [← hk]; exact hK)
  rw [hk] at hload hst ⊢
  simp [xCopy, Builtin.copy_, run_underlying hu, hsrc.lenOf, sizeOf, typeInfo, hi, hsz, Result.andThen, hload, hst, lay]
theorem rx_clearK {P : Program} {t ty e : TypeId} {sz : Nat} {w : World} {K : Kont} {g o n c : Nat} {cur : Array Value} {T : TypeId} {by_ : Nat} (ht : P.underlying t = some (.slice e)) (hE : ElemT P e (sz + 1) by_)
    (hg : w.heap[g]? = some (.cells cur T (0, 0))) (hfit : o + n * (sz + 1) ≤ cur.size)
    (hK : ∀ z : List Value, z.length = n * (sz + 1) → z.all (·.oneCell') = true → K (.tuple #[]) (w.setRow g (lay cur.toList o z).toArray)) :
    rx P (xClear #[t] ty [.slice (some ⟨g, o, none⟩) n c]) w K := by
  obtain ⟨⟨i, z, hi, hz, hsz, hby, hzs, hz1⟩, hpos, hbpos⟩ := hE
  have hl : (Builtin.zeroCells z.cells n).toList.length = n * (sz + 1) := by rw [zeroCells_len, hzs]
  have h1 := zeroCells_all hz1 (by rw [hzs]; exact hpos) n
  have hK := hK _ hl h1
  have hst := run_storeCells_at P g o T (Builtin.zeroCells z.cells n).toList 0 cur w hg (by rw [hl]; simpa using hfit) (oneAll_mem h1)
  simp only [Nat.add_zero] at hst
  refine rx_of (v := .tuple #[]) (w' := w.setRow g (lay cur.toList o (Builtin.zeroCells z.cells n).toList).toArray) ?_ hK
  cases n with
  | zero =>
    have e : (Builtin.zeroCells z.cells 0).toList = [] := List.eq_nil_of_length_eq_zero (by rw [hl]; simp)
    rw [e]
    have hs := setRow_self w g cur T (0, 0) hg
    simp [xClear, Builtin.clear_, run_underlying ht, Result.andThen, lay, hs]
  | succ m => simp [xClear, Builtin.clear_, run_underlying ht, zeroValue, typeInfo, hi, hz, Result.andThen, hst, lay]
theorem rx_appendZK {P : Program} {t u ty e : TypeId} {ku : IntKind} {sz by_ : Nat} {w : World} {K : Kont} {s : Value} {n m : Nat} {cs : List Value}
    (ht : P.underlying t = some (.slice e)) (hu : P.underlying u = some (.int ku)) (hE : ElemT P e (sz + 1) by_)
    (hs : Own w e (sz + 1) s n cs) (hb : (n + m) * by_ ≤ 140737488355328)
    (hK : ∀ s' w' z, z.length = m * (sz + 1) → z.all (·.oneCell') = true → Own w' e (sz + 1) s' (n + m) (cs ++ z) → Mod (inSl s) w w' → (∀ b, inSl s' b → inSl s b ∨ w.heap.size ≤ b) → (∀ a c, s = .slice a n c → c < n + m → Mod (fun _ => False) w w' ∧ ∀ b, inSl s' b → w.heap.size ≤ b) → K s' w') :
    rx P (xAppend #[t, u] ty [s, .int .i64 (m : Int)]) w K := by
  obtain ⟨⟨i, z, hi, hz, hsz, hby, hzs, hz1⟩, hpos, hbpos⟩ := hE
  have hneed : n + m ≤ 140737488355328 := Nat.le_trans (Nat.le_mul_of_pos_right _ hbpos) hb
  have hmb : m * by_ ≤ 140737488355328 := Nat.le_trans (Nat.mul_le_mul_right _ (by omega)) hb
  have hlen : cs.length = n * (sz + 1) := hs.1
  have hl : (Builtin.zeroCells z.cells m).toList.length = m * (sz + 1) := by rw [zeroCells_len, hzs]
  have h1 := zeroCells_all hz1 (by rw [hzs]; exact hpos) m
  have hwr : IntKind.i64.wrap (m : Int) = (m : Int) := by rw [IntKind.wrap_i64]; omega
  have hneg : ¬ (m : Int) < 0 := by omega
  have h48' : ¬ (281474976710656 : Int) < (m : Int) * (i.bytes : Int) := by
    rw [hby, ← Int.natCast_mul]
    omega
  obtain ⟨base, cap, hsv, hcap, hrow⟩ : ∃ base cap, s = .slice base n cap ∧ n ≤ cap ∧ ((base = none ∧ n = 0 ∧ cap = 0 ∧ cs = []) ∨ ∃ b rest, base = some ⟨b, 0, none⟩ ∧ w.heap[b]? = some (.cells (cs ++ rest).toArray e (0, 0)) ∧ rest.length = (cap - n) * (sz + 1) ∧ rest.all (·.oneCell') = true) := by
    rcases hs.2 with ⟨rfl, rfl⟩ | ⟨b, cap, rest, rfl, hc, hh, hr⟩
    · exact ⟨none, 0, rfl, Nat.le_refl _, .inl ⟨rfl, rfl, rfl, by simpa using hlen⟩⟩
    · exact ⟨_, cap, rfl, hc, .inr ⟨b, rest, rfl, hh, hr⟩⟩
  subst hsv
  obtain ⟨L, hL⟩ : ∃ L : Int, (m : Int) = L := ⟨_, rfl⟩
  rw [hL]
  rw [hL] at hwr
  have hwr : IntKind.i64.wrap L = (m : Int) := hwr.trans hL.symm
  clear hL
  generalize hZ : Builtin.zeroCells z.cells m = Z at hl h1
  by_cases h0 : m = 0
  · subst h0
    have hZ0 : Z = #[] := Array.eq_empty_of_size_eq_zero (by rw [← Array.length_toList, hl]; simp)
    refine rx_of (v := .slice base n cap) (w' := w) ?_ (hK _ _ [] (by simp) rfl (by simpa using hs) (Mod.refl _ _) (fun b hb => .inl hb) fun a c he hlt => by injection he with e1 e2 e3; omega)
    rcases hrow with ⟨rfl, rfl, rfl, rfl⟩ | ⟨b, rest, rfl, hh, hrl, hr1⟩
    · simp [xAppend, Builtin.append_, run_underlying ht, sizeOf, typeInfo, hi, hsz, run_underlying hu, Result.andThen, asInt, asIntOf, hwr]
    · have hst := run_storeCells_at P b (n * (sz + 1)) e [] 0 (cs ++ rest).toArray w hh (by simp [hlen]) (by simp)
      simp only [Nat.add_zero] at hst
      have hself := setRow_self w b (cs ++ rest).toArray e (0, 0) hh
      have e0 : (⟨b, 0, none⟩ : Addr).add (n * (sz + 1)) = ⟨b, n * (sz + 1), none⟩ := by rw [addr_add]; simp
      have hnc : ¬ cap < n := by omega
      simp at hst
      simp [xAppend, Builtin.append_, run_underlying ht, sizeOf, typeInfo, hi, hsz, run_underlying hu, Result.andThen, asInt, asIntOf, hwr, hcap, e0, hst]
      simpa using hself
  have h0' : ¬ m * (sz + 1) = 0 := by
    rw [Nat.mul_eq_zero]; omega
  by_cases hroom : n + m ≤ cap
  · rcases hrow with ⟨rfl, rfl, rfl, rfl⟩ | ⟨b, rest, rfl, hh, hrl, hr1⟩
    · omega
    · have hst := run_storeCells_at P b (n * (sz + 1)) e Z.toList 0 (cs ++ rest).toArray w hh (by
        simp only [List.size_toArray, List.length_append, hlen, hrl, hl]
        have := Nat.mul_le_mul_right (sz + 1) hroom
        rw [Nat.add_mul] at this
        rw [Nat.sub_mul]
        omega) (oneAll_mem h1)
      simp only [Nat.add_zero] at hst
      have hrow2 : (cs ++ rest).take (n * (sz + 1)) ++ Z.toList ++ (cs ++ rest).drop (n * (sz + 1) + Z.toList.length) = (cs ++ Z.toList) ++ rest.drop Z.toList.length := by
        rw [← hlen]
        simp [List.append_assoc]
      refine rx_of (v := .slice (some ⟨b, 0, none⟩) (n + m) cap) (w' := w.setRow b ((cs ++ Z.toList) ++ rest.drop Z.toList.length).toArray) ?_ (hK _ _ Z.toList hl h1 ⟨?_, .inr ⟨b, cap, rest.drop Z.toList.length, rfl, hroom, ?_, ?_, ?_⟩⟩ ?_ ?_ fun a c he hlt => by injection he with e1 e2 e3; omega)
      · simp only [hrow2] at hst
        have e0 : (⟨b, 0, none⟩ : Addr).add (n * (sz + 1)) = ⟨b, n * (sz + 1), none⟩ := by rw [addr_add]; simp
        simp [xAppend, Builtin.append_, run_underlying ht, sizeOf, typeInfo, zeroValue, hz, hi, hsz, run_underlying hu, Result.andThen, asInt, asIntOf, hwr, hroom, e0, hneg, h48', h0, hZ, hst]
        have hst' := hst
        simp at hst'
        rw [if_neg h0']
        simp only
        rw [hst']
      · rw [List.length_append, hlen, hl, Nat.add_mul]
      · rw [heap_setRow, if_pos rfl, hh]
      · rw [List.length_drop, hrl, hl, ← Nat.sub_mul]; congr 1; omega
      · exact List.all_eq_true.2 fun v hv => List.all_eq_true.1 hr1 v (List.mem_of_mem_drop hv)
      · exact (Mod.refl (inSl (.slice (some ⟨b, 0, none⟩) n cap)) w).setRow (.inl (show inSl _ b from rfl)) _
      · intro b' hb'; exact .inl hb'
  · have hfit := growslice_fits (old := cap) (need := n + m) (bytes := by_) (by omega) hb
    have h48 : ¬ (281474976710656 < Builtin.nextslicecap (n + m) cap * i.bytes) := by rw [hby]; omega
    have h63 : ¬ (9223372036854775807 < ((n : Int) + (m : Int))) := by omega
    have hcapge : n + m ≤ grownCap w (n + m) cap e := by simp [grownCap, Question.cut]
    have hrs : Rd w.drew (sz + 1) (.slice base n cap) n cs := hs.rd.keep fun _ _ => rfl
    have hf1 := hrs.first (P := P) hpos
    refine rx_of (v := .slice (some ⟨w.heap.size, 0, none⟩) (n + m) (grownCap w (n + m) cap e))
      (w' := w.drew.alloc (.cells (cs.toArray ++ Z ++ Builtin.zeroCells z.cells (grownCap w (n + m) cap e - (n + m))) e)) ?_ (hK _ _ Z.toList hl h1 ⟨?_, .inr ⟨w.heap.size, _, (Builtin.zeroCells z.cells (grownCap w (n + m) cap e - (n + m))).toList, rfl, hcapge, ?_, ?_, ?_⟩⟩ ?_ ?_ fun a c he hlt => ⟨((Mod.refl _ w).drew).alloc _, fun b hb => by cases hb; exact Nat.le_refl _⟩)
    · simp [xAppend, Builtin.append_, run_underlying ht, sizeOf, typeInfo, zeroValue, hi, hz, hsz, run_underlying hu, Result.andThen, asInt, asIntOf, hwr, hneg, h48', h0, hroom, h63, h48, Question.forced, hf1, newRow, grownCap, hZ]
      rw [if_neg h0']
      rfl
    · rw [List.length_append, hlen, hl, Nat.add_mul]
    · rw [heap_alloc, if_pos (show w.heap.size = w.drew.heap.size from rfl)]
      simp
    · rw [zeroCells_len, hzs]
    · exact zeroCells_all hz1 (by rw [hzs]; exact hpos) _
    · exact ((Mod.refl _ w).drew).alloc _
    · rintro b' hb'
      cases hb'
      exact .inr (Nat.le_refl _)
section
variable {α : Type} {f : α → List Value} {S : Nat}
theorem flT (hf : ∀ x, (f x).length = S) : ∀ (l : List α) (i : Nat), (l.flatMap f).take (i * S) = (l.take i).flatMap f
  | [], i => by simp
  | x :: l, 0 => by simp
  | x :: l, i + 1 => by
    have e : (i + 1) * S = (f x).length + i * S := by rw [hf x, Nat.add_mul]; omega
    rw [List.flatMap_cons, List.take_succ_cons, List.flatMap_cons, e, List.take_length_add_append, flT hf l i]
theorem flD (hf : ∀ x, (f x).length = S) : ∀ (l : List α) (i : Nat), (l.flatMap f).drop (i * S) = (l.drop i).flatMap f
  | [], i => by simp
  | x :: l, 0 => by simp
  | x :: l, i + 1 => by
    have e : (i + 1) * S = (f x).length + i * S := by rw [hf x, Nat.add_mul]; omega
    rw [List.flatMap_cons, List.drop_succ_cons, e, ← List.drop_drop, List.drop_left, flD hf l i]
theorem flL (hf : ∀ x, (f x).length = S) (l : List α) : (l.flatMap f).length = l.length * S := flat_len f S l fun x _ => hf x
theorem flO (hf : ∀ x, (f x).all (·.oneCell') = true) (l : List α) : (l.flatMap f).all (·.oneCell') = true := by
  rw [List.all_flatMap, List.all_eq_true]
  exact fun x _ => hf x
theorem Rd.item {w : World} {v : Value} {n : Nat} {l : List α} (hf : ∀ x, (f x).length = S) (h : Rd w S v n (l.flatMap f)) {i : Nat} (hi : i < l.length) (hn : n = l.length) :
    ∃ b off cap, v = .slice (some ⟨b, off, none⟩) n cap ∧ n ≤ cap ∧ At w b (off + i * S) (f l[i]) := by
  obtain ⟨hl, ⟨h0, _⟩ | ⟨b, off, cap, rfl, hc, hA⟩⟩ := h
  · omega
  · refine ⟨b, off, cap, rfl, hc, ?_⟩
    have hm : (i + 1) * S ≤ l.length * S := Nat.mul_le_mul_right S hi
    rw [Nat.add_mul] at hm
    have := hA.sub (i * S) S (by rw [flL hf]; omega)
    rwa [flat_get f S l i (fun x _ => hf x) hi] at this
end
theorem Own.pos {w : World} {e : TypeId} {sz : Nat} {v : Value} {n : Nat} {cs : List Value} (h : Own w e sz v n cs) (hn : 0 < n) :
    ∃ b cap rest, v = .slice (some ⟨b, 0, none⟩) n cap ∧ n ≤ cap ∧ w.heap[b]? = some (.cells (cs ++ rest).toArray e (0, 0)) ∧ rest.length = (cap - n) * sz ∧ (rest.all (·.oneCell') = true) := by
  obtain ⟨hl, ⟨rfl, rfl⟩ | h⟩ := h
  · omega
  · exact h
theorem slHi {P : Program} {t e : TypeId} {b n cap hi : Nat} {sz : Nat} {kh : IntKind} (hu : P.underlying t = some (.slice e)) (hc : P.cellsOf e = sz + 1) (h : hi ≤ cap) (h0 : 0 < cap) (W : World) :
    (Instr.sliceAt t (.slice (some ⟨b, 0, none⟩) n cap) none (some (.int kh (hi : Int))) none).run P W = .ok (.slice (some ⟨b, 0, none⟩) hi cap) W := by
  obtain ⟨hE, he⟩ := elem_slice hu
  rw [run_sliceAt_slice W t _ _ _ _ hE, run_slice_h W t _ n cap hE kh hi (by omega) (by omega), he, run_sizeOf hc]
  simp only [Result.andThen, sliced, Int.toNat_natCast, Nat.zero_mul, Nat.sub_zero]
  rw [if_neg (by omega), Option.map_some, addr_add]
theorem slLoHi {P : Program} {t e : TypeId} {b n cap lo hi : Nat} {sz : Nat} {kl kh : IntKind} (hu : P.underlying t = some (.slice e)) (hc : P.cellsOf e = sz + 1) (h1 : lo ≤ hi) (h2 : hi ≤ cap) (h3 : lo < cap) (W : World) :
    (Instr.sliceAt t (.slice (some ⟨b, 0, none⟩) n cap) (some (.int kl (lo : Int))) (some (.int kh (hi : Int))) none).run P W = .ok (.slice (some ⟨b, lo * (sz + 1), none⟩) (hi - lo) (cap - lo)) W := by
  obtain ⟨hE, he⟩ := elem_slice hu
  rw [run_sliceAt_slice W t _ _ _ _ hE, run_slice_lh W t _ n cap hE kl kh lo hi (by omega) (by omega) (by omega), he, run_sizeOf hc]
  simp only [Result.andThen, sliced, Int.toNat_natCast]
  rw [if_neg (by omega), Option.map_some, addr_add, Nat.zero_add]
theorem slLo {P : Program} {t e : TypeId} {b n cap lo : Nat} {sz : Nat} {kl : IntKind} (hu : P.underlying t = some (.slice e)) (hc : P.cellsOf e = sz + 1) (h1 : lo ≤ n) (h2 : n ≤ cap) (h3 : lo < cap) (W : World) :
    (Instr.sliceAt t (.slice (some ⟨b, 0, none⟩) n cap) (some (.int kl (lo : Int))) none none).run P W = .ok (.slice (some ⟨b, lo * (sz + 1), none⟩) (n - lo) (cap - lo)) W := by
  obtain ⟨hE, he⟩ := elem_slice hu
  rw [run_sliceAt_slice W t _ _ _ _ hE, run_slice_l W t _ n cap hE kl lo (by omega) (by omega), he, run_sizeOf hc]
  simp only [Result.andThen, sliced, Int.toNat_natCast]
  rw [if_neg (by omega), Option.map_some, addr_add, Nat.zero_add]
theorem slAny3 {P : Program} {t e : TypeId} {a : Option Addr} {n cap lo hi mx : Nat} {sz : Nat} {kl kh km : IntKind} (hu : P.underlying t = some (.slice e)) (hc : P.cellsOf e = sz + 1) (h1 : lo ≤ hi) (h2 : hi ≤ mx) (h3 : mx ≤ cap) (W : World) :
    ∃ v, (Instr.sliceAt t (.slice a n cap) (some (.int kl (lo : Int))) (some (.int kh (hi : Int))) (some (.int km (mx : Int)))).run P W = .ok v W := by
  obtain ⟨hE, he⟩ := elem_slice hu
  have e1 := run_slice_lhm W t a n cap hE kl kh km lo hi mx (by omega) (by omega) (by omega) (by omega)
  rw [he, run_sizeOf hc] at e1
  exact ⟨_, (run_sliceAt_slice W t _ _ _ _ hE).trans e1⟩
end Go.Vc
namespace Go.Proofs
open Go Go.Vc
attribute [local congr] Ca_congV
structure Od where
  num : Int
  acct : Int
  buy : Bool
  price : Int
  left : Int
deriving DecidableEq
def odC (o : Od) : List Value := [.int .u64 o.num, .int .u32 o.acct, .bool o.buy, .int .i64 o.price, .int .i64 o.left]
theorem odC_len (o : Od) : (odC o).length = 5 := rfl
theorem odC_one (o : Od) : (odC o).all (·.oneCell') = true := rfl
def Od.Fit (o : Od) : Prop := U64' o.num ∧ U32' o.acct ∧ R64' o.price ∧ R64' o.left
abbrev tOd : TypeId := 117
abbrev tOds : TypeId := 133
theorem uOds : Tryz.prog.underlying tOds = some (.slice tOd) := by kernel_rfl
theorem nOd : Tryz.prog.cellsOf tOd = 4 + 1 := by kernel_rfl
theorem eOd : elemOk Tryz.prog tOd 5 32 = true := by kernel_rfl
abbrev OdS (w : World) (s : Value) (l : List Od) : Prop := Own w tOd 5 s l.length (l.flatMap odC)
theorem ca_cloneOd {w : World} {K : Kont} {s : Value} {l : List Od} (h : Rd w 5 s l.length (l.flatMap odC)) (hn : l.length ≤ 1000000)
    (hK : ∀ s' w', OdS w' s' l → Mod (fun _ => False) w w' → (∀ b, inSl s' b → w.heap.size ≤ b) → K s' w') : Ca Tryz.prog 111 #[s] w K := by
  apply ca111
  unfold F111
  obtain ⟨a, c, hs⟩ := h.isSl
  by_cases h0 : a = none
  · subst h0
    refine rvS (v := .bool true) (w' := w) (by rw [hs]; simp [go_sem]) ?_
    rw [ifB_bool, if_pos rfl]
    have hl : l = [] := by
      obtain ⟨-, ⟨hn0, _⟩ | ⟨b, off, cap, he, _⟩⟩ := h
      · exact List.eq_nil_of_length_eq_zero hn0
      · rw [hs] at he; cases he
    subst hl
    exact hK _ _ (Own.nil _ _ _) (Mod.refl _ _) fun b hb => by cases hb
  · refine rvS (v := .bool false) (w' := w) (by rw [hs]; cases a; exact absurd rfl h0; simp [go_sem]) ?_
    rw [ifB_bool, if_neg Bool.false_ne_true]
    exact dupV uOds (elemT_of eOd) h (flO odC_one l) (by omega) hK
set_option maxRecDepth 10000 in
theorem ca_deleteOd {w : World} {K : Kont} {s : Value} {l : List Od} {i j : Nat} (h : OdS w s l) (hij : i < j) (hj : j ≤ l.length) (hn : l.length ≤ 1000000)
    (hK : ∀ s' w', OdS w' s' (l.take i ++ l.drop j) → Mod (inSl s) w w' → (∀ b, inSl s' b → inSl s b) → K s' w') : Ca Tryz.prog 212 #[s, .int .i64 (i : Int), .int .i64 (j : Int)] w K := by
  obtain ⟨b, cap, rest, rfl, hc, hb, hrl, hr1⟩ := h.pos (by omega)
  have hl := h.1
  apply ca212
  unfold F212
  refine rnS (v := .int .i64 (l.length : Int)) (w' := w) (by simp [go_sem]) ?_
  obtain ⟨v2, hv2⟩ := slAny3 (P := Tryz.prog) (t := tOds) (a := some ⟨b, 0, none⟩) (n := l.length) (cap := cap) (lo := i) (hi := j) (mx := l.length) (kl := .i64) (kh := .i64) (km := .i64) uOds nOd (by omega) hj hc w
  refine rvS hv2 ?_
  have hne : ¬ (i : Int) = (j : Int) := by omega
  refine rvS (v := .bool false) (by simp [go_sem, hne] <;> first | exact ⟨rfl, rfl⟩ | exact rfl) ?_
  rw [ifB_bool, if_neg Bool.false_ne_true]
  refine rnS (v := .int .i64 (l.length : Int)) (w' := w) (by simp [go_sem]) ?_
  refine rdPS (fun W => slHi uOds nOd (show i ≤ cap by omega) (by omega) W) ?_
  have hrd : Rd w 5 (.slice (some ⟨b, 0, none⟩) l.length cap) l.length (l.flatMap odC) := h.rd
  obtain ⟨v9, hv9, hd9, -⟩ := Rd.from_ (P := Tryz.prog) (kl := .i64) (lo := j) uOds nOd hrd hj
  refine rdPS (fun W => hv9 W) ?_
  simp only [Nat.reduceAdd] at hd9
  rw [flD odC_len] at hd9
  have hD : ((l.drop j).flatMap odC).length = (l.length - j) * 5 := by rw [flL odC_len, List.length_drop]
  have hbd : w.drew.heap[b]? = some (.cells (l.flatMap odC ++ rest).toArray tOd (0, 0)) := hb
  have hsz : (l.flatMap odC ++ rest).length = cap * 5 := by rw [List.length_append, hl, hrl]; omega
  refine rx_appendInK (m := l.length - j) uOds uOds nOd hbd (by omega) (hd9.keep fun _ _ => rfl) (flO odC_one _) (by rw [List.size_toArray, hsz]; omega) ?_
  have mW : Mod (inSl (.slice (some ⟨b, 0, none⟩) l.length cap)) w (w.drew.setRow b (lay (l.flatMap odC ++ rest) (0 + i * 5) ((l.drop j).flatMap odC)).toArray) := ((Mod.refl _ w).drew).setRow (.inl (show inSl (.slice (some ⟨b, 0, none⟩) l.length cap) b from rfl)) _
  have hrow : lay (l.flatMap odC ++ rest) (0 + i * 5) ((l.drop j).flatMap odC) = (l.take i ++ l.drop j).flatMap odC ++ (l.flatMap odC ++ rest).drop ((i + (l.length - j)) * 5) := by
    unfold lay
    rw [hD, Nat.zero_add, List.take_append_of_le_length (by rw [hl]; omega), flT odC_len, List.flatMap_append, List.append_assoc, List.append_assoc, ← Nat.add_mul]
  have hbW : (w.drew.setRow b (lay (l.flatMap odC ++ rest) (0 + i * 5) ((l.drop j).flatMap odC)).toArray).heap[b]? = some (.cells ((l.take i ++ l.drop j).flatMap odC ++ (l.flatMap odC ++ rest).drop ((i + (l.length - j)) * 5)).toArray tOd (0, 0)) := by
    rw [heap_setRow, if_pos rfl, hbd, hrow]
  rw [show (l.flatMap odC ++ rest).toArray.toList = l.flatMap odC ++ rest from rfl]
  generalize w.drew.setRow b (lay (l.flatMap odC ++ rest) (0 + i * 5) ((l.drop j).flatMap odC)).toArray = W at mW hbW ⊢
  refine rnS (v := .int .i64 ((i + (l.length - j) : Nat) : Int)) (w' := W) (by simp [go_sem]) ?_
  refine rvS (slLoHi uOds nOd (show i + (l.length - j) ≤ l.length by omega) hc (by omega) W) ?_
  have hA : ((l.take i ++ l.drop j).flatMap odC).length = (i + (l.length - j)) * 5 := by
    rw [flL odC_len, List.length_append, List.length_take, List.length_drop, Nat.min_eq_left (by omega)]
  refine rx_clearK uOds (elemT_of eOd) hbW (by rw [List.size_toArray, List.length_append, List.length_drop, hA, hsz]; omega) fun z hz hz1 => ?_
  have hrow2 : lay ((l.take i ++ l.drop j).flatMap odC ++ (l.flatMap odC ++ rest).drop ((i + (l.length - j)) * 5)) ((i + (l.length - j)) * 5) z = (l.take i ++ l.drop j).flatMap odC ++ (z ++ rest) := by
    unfold lay
    rw [hz, List.take_append_of_le_length (by rw [hA]; exact Nat.le_refl _), List.take_of_length_le (by rw [hA]; exact Nat.le_refl _), ← List.drop_drop, ← hA, List.drop_left, List.append_assoc, List.drop_drop, hA]
    congr 2
    rw [show (i + (l.length - j)) * 5 + (l.length - (i + (l.length - j))) * 5 = (l.flatMap odC).length by rw [hl]; omega, List.drop_left]
  have hlen : (l.take i ++ l.drop j).length = i + (l.length - j) := by rw [List.length_append, List.length_take, List.length_drop, Nat.min_eq_left (by omega)]
  refine hK _ _ ⟨by rw [hA, hlen], .inr ⟨b, cap, z ++ rest, by rw [hlen], by omega, ?_, ?_, ?_⟩⟩ (mW.setRow (.inl (show inSl (.slice (some ⟨b, 0, none⟩) l.length cap) b from rfl)) _) fun b' hb' => hb'
  · show (W.setRow b (lay ((l.take i ++ l.drop j).flatMap odC ++ (l.flatMap odC ++ rest).drop ((i + (l.length - j)) * 5)) ((i + (l.length - j)) * 5) z).toArray).heap[b]? = _
    rw [heap_setRow, if_pos rfl, hbW, hrow2]
  · rw [List.length_append, hz, hrl, hlen]; omega
  · rw [List.all_append, hz1, hr1]; rfl
theorem shp {w : World} {b : Nat} {C : Array Value} {T : TypeId} {fz : Nat × Nat} (h : w.heap[b]? = some (.cells C T fz)) : w.shape? b = some (T, C.size) := by simp [World.shape?, h]
theorem notFz {w : World} {b : Nat} {C : Array Value} {T : TypeId} (h : w.heap[b]? = some (.cells C T (0, 0))) (i : Nat) : w.frozen? ⟨b, i, none⟩ = false := by simp [go_sem, hp_of h]
theorem sOd (w : World) : (Go.sizeOf tOd).run Tryz.prog w = .ok 5 w := Go.Vc.run_sizeOf nOd w
theorem ovFind : Extern.find Tryz.f351 = some (Extern.SlicesOverlaps.overlaps #[tOds, tOds] #[4]) := by kernel_rfl
set_option maxRecDepth 10000 in
theorem ca_insertOd {w : World} {K : Kont} {s v : Value} {l : List Od} {o : Od} {i : Nat} (h : OdS w s l) (hv : OdS w v [o]) (hd : ∀ b, inSl s b → ¬ inSl v b) (hi : i ≤ l.length) (hn : l.length ≤ 1000000)
    (hK : ∀ s' w', OdS w' s' (l.take i ++ o :: l.drop i) → Mod (inSl s) w w' → (∀ b, inSl s' b → inSl s b ∨ w.heap.size ≤ b) → K s' w') : Ca Tryz.prog 312 #[s, .int .i64 (i : Int), v] w K := by
  obtain ⟨vb, vcap, vrest, rfl, hvc, hvb, hvl, hv1⟩ := hv.pos (by simp)
  simp only [List.length_singleton] at hvc hvl
  have hlr : (l.take i ++ o :: l.drop i).length = l.length + 1 := by
    rw [List.length_append, List.length_take, List.length_cons, List.length_drop, Nat.min_eq_left hi]; omega
  have hcs : ([o].flatMap odC) = odC o := by simp
  apply ca312
  unfold F312
  obtain ⟨v0, hv0, -, -⟩ := Rd.from_ (P := Tryz.prog) (kl := .i64) (lo := i) uOds nOd (h.rd : Rd w (4 + 1) s l.length (l.flatMap odC)) hi
  refine rvS (hv0 w) ?_
  refine rnS (v := .int .i64 1) (w' := w) (by simp [go_sem]) ?_
  refine rvS (v := .bool false) (by simp [go_sem] <;> first | exact ⟨rfl, rfl⟩ | exact rfl) ?_
  rw [ifB_bool, if_neg Bool.false_ne_true]
  obtain ⟨sa, sc, hs, -⟩ := h.isSl
  refine rnS (v := .int .i64 l.length) (w' := w) (by rw [hs]; simp [go_sem]) ?_
  by_cases hil : i = l.length
  · have hil' : (i : Int) = (l.length : Int) := by omega
    refine rvS (v := .bool true) (by simp [go_sem, hil'] <;> first | exact ⟨rfl, rfl⟩ | exact rfl) ?_
    rw [ifB_bool, if_pos rfl]
    refine rx_append uOds uOds (elemT_of eOd) h hv.rd (flO odC_one _) (by simp only [List.length_singleton]; omega) fun s3 w3 o3 m3 n3 => ?_
    refine hK _ _ ?_ m3 n3
    have : l.take i ++ o :: l.drop i = l ++ [o] := by rw [hil, List.take_length, List.drop_length]
    rw [this]
    unfold OdS
    rw [List.flatMap_append, List.length_append]
    exact o3
  have hil' : ¬ (i : Int) = (l.length : Int) := by omega
  refine rvS (v := .bool false) (by simp [go_sem, hil'] <;> first | exact ⟨rfl, rfl⟩ | exact rfl) ?_
  rw [ifB_bool, if_neg Bool.false_ne_true]
  obtain ⟨b, cap, rest, hse, hc, hb, hrl, hr1⟩ := h.pos (by omega)
  clear hs
  subst hse
  have hne : vb ≠ b := fun e => hd b rfl (by rw [← e]; rfl)
  have hl := h.1
  refine rvS (v := .int .i64 ((l.length + 1 : Nat) : Int)) (w' := w) (by simp [go_sem]; rw [wrapI (by omega) (by omega)]) ?_
  refine rnS (v := .int .i64 (cap : Int)) (w' := w) (by simp [go_sem, uOds]) ?_
  have hszr : (l.flatMap odC ++ rest).length = cap * 5 := by rw [List.length_append, hl, hrl]; omega
  by_cases hroom : cap < l.length + 1
  · have hroom' : (cap : Int) < (l.length : Int) + 1 := by omega
    refine rvS (v := .bool true) (by simp [go_sem, hroom'] <;> first | exact ⟨rfl, rfl⟩ | exact rfl) ?_
    rw [ifB_bool, if_pos rfl]
    refine rvS (slHi uOds nOd (show i ≤ cap by omega) (by omega) w) ?_
    refine rvS (v := .int .i64 ((l.length + 1 : Nat) : Int)) (w' := w) (by simp [go_sem]; rw [wrapI (by omega) (by omega)]) ?_
    refine rvS (v := .int .i64 ((l.length + 1 - i : Nat) : Int)) (w' := w) (by simp only [go_sem]; simp; rw [wrapI (by omega) (by omega)]; omega) ?_
    have hOi : Own w tOd (4 + 1) (.slice (some ⟨b, 0, none⟩) i cap) i ((l.take i).flatMap odC) := by
      refine ⟨by rw [flL odC_len, List.length_take, Nat.min_eq_left hi], .inr ⟨b, cap, (l.flatMap odC ++ rest).drop (i * 5), rfl, by omega, ?_, ?_, ?_⟩⟩
      · rw [hb]
        congr 2
        have : (l.take i).flatMap odC = (l.flatMap odC ++ rest).take (i * 5) := by
          rw [List.take_append_of_le_length (by rw [hl]; omega), flT odC_len]
        rw [this, List.take_append_drop]
      · rw [List.length_drop, hszr]; omega
      · refine List.all_eq_true.2 fun x hx => ?_
        have hx := List.mem_of_mem_drop hx
        rcases List.mem_append.1 hx with h1 | h1
        · exact List.all_eq_true.1 (flO odC_one l) x h1
        · exact List.all_eq_true.1 hr1 x h1
    refine rx_appendZK uOds Tryz.underlying3 (elemT_of eOd) hOi (by omega) fun s2 w2 z hz hz1 o2 m2 n2 hfar => ?_
    obtain ⟨mF, nF⟩ := hfar _ _ rfl (by omega)
    rw [show i + (l.length + 1 - i) = l.length + 1 by omega] at o2
    obtain ⟨b2, cap2, rest2, rfl, hc2, hb2, hrl2, hr12⟩ := o2.pos (by omega)
    have hb2n : w.heap.size ≤ b2 := nF b2 rfl
    have hbb : b ≠ b2 := by have := lt_of_heap hb; omega
    have hvbb : vb ≠ b2 := by have := lt_of_heap hvb; omega
    refine rvS (slLo uOds nOd (by omega) hc2 (by omega) w2) ?_
    have hA : ((l.take i).flatMap odC).length = i * 5 := by rw [flL odC_len, List.length_take, Nat.min_eq_left hi]
    have hsz2 : ((l.take i).flatMap odC ++ z ++ rest2).length = cap2 * 5 := by rw [List.length_append, List.length_append, hA, hz, hrl2]; omega
    have hv2 : Rd w2 5 (.slice (some ⟨vb, 0, none⟩) 1 vcap) 1 (odC o) := by
      have := hv.rd.mod mF fun _ _ h => h
      rw [hcs] at this
      exact this
    refine rx_copyK (sz := 4) (k := 1) uOds nOd hb2 hv2 (by show _ = min _ _; omega) (by rw [List.size_toArray, hsz2]; omega) (odC_one o) ?_
    have m3 : Mod (fun b => b = b2) w2 (w2.setRow b2 (lay ((l.take i).flatMap odC ++ z ++ rest2) (i * 5) ((odC o).take 5)).toArray) := (Mod.refl (fun b => b = b2) w2).setRow (.inl rfl) _
    have e5 : (odC o).take 5 = odC o := rfl
    have hl3 : lay ((l.take i).flatMap odC ++ z ++ rest2) (i * 5) (odC o) = (l.take i).flatMap odC ++ odC o ++ (z ++ rest2).drop 5 := by
      unfold lay
      rw [List.append_assoc ((l.take i).flatMap odC) z rest2, ← hA, List.take_left, odC_len, ← List.drop_drop, List.drop_left]
    have hb3 : (w2.setRow b2 (lay ((l.take i).flatMap odC ++ z ++ rest2) (i * 5) ((odC o).take 5)).toArray).heap[b2]? = some (.cells ((l.take i).flatMap odC ++ odC o ++ (z ++ rest2).drop 5).toArray tOd (0, 0)) := by
      rw [heap_setRow, if_pos rfl, hb2, e5, hl3]
    show rdP _ _ _
    rw [show ((l.take i).flatMap odC ++ z ++ rest2).toArray.toList = (l.take i).flatMap odC ++ z ++ rest2 from rfl, show 1 * (4 + 1) = 5 from rfl]
    generalize w2.setRow b2 (lay ((l.take i).flatMap odC ++ z ++ rest2) (i * 5) ((odC o).take 5)).toArray = w3 at m3 hb3 ⊢
    refine rdPS (v := .int .i64 ((i + 1 : Nat) : Int)) (fun W => by simp [go_sem]; rw [wrapI (by omega) (by omega)]) ?_
    refine rdPS (fun W => slLo uOds nOd (show i + 1 ≤ l.length + 1 by omega) hc2 (by omega) W) ?_
    refine rdPS (fun W => slLo uOds nOd (show i ≤ l.length by omega) hc (by omega) W) ?_
    have mD : Mod (fun b => b = b2) w2 w3.drew := m3.drew
    have hbD : w3.drew.heap[b2]? = some (.cells ((l.take i).flatMap odC ++ odC o ++ (z ++ rest2).drop 5).toArray tOd (0, 0)) := hb3
    have hsrc : Rd w3.drew (4 + 1) (.slice (some ⟨b, i * (4 + 1), none⟩) (l.length - i) (cap - i)) (l.length - i) ((l.drop i).flatMap odC) := by
      have hA0 : At w b 0 (l.flatMap odC) := ⟨_, _, _, hb, by rw [List.size_toArray, hszr, hl]; omega, by simp⟩
      have h1 := hA0.sub (i * 5) ((l.length - i) * 5) (by rw [hl]; omega)
      rw [flD odC_len, List.take_of_length_le (by rw [flL odC_len, List.length_drop]; exact Nat.le_refl _), Nat.zero_add] at h1
      refine ⟨by rw [flL odC_len, List.length_drop], .inr ⟨b, i * (4 + 1), cap - i, rfl, by omega, ?_⟩⟩
      exact (h1.mod mF id).mod mD fun e => hbb e
    have hsz3 : ((l.take i).flatMap odC ++ odC o ++ (z ++ rest2).drop 5).length = cap2 * 5 := by
      rw [List.length_append, List.length_append, hA, odC_len, List.length_drop, List.length_append, hz, hrl2]; omega
    refine rx_copyK (sz := 4) (k := l.length - i) uOds nOd hbD hsrc (by show _ = min _ _; omega) (by rw [List.size_toArray, hsz3]; omega) (flO odC_one _) ?_
    have hDl : ((l.drop i).flatMap odC).length = (l.length - i) * 5 := by rw [flL odC_len, List.length_drop]
    have hl4 : lay ((l.take i).flatMap odC ++ odC o ++ (z ++ rest2).drop 5) ((i + 1) * (4 + 1)) (((l.drop i).flatMap odC).take ((l.length - i) * (4 + 1))) = (l.take i ++ o :: l.drop i).flatMap odC ++ rest2 := by
      have hAo : ((l.take i).flatMap odC ++ odC o).length = (i + 1) * (4 + 1) := by rw [List.length_append, hA, odC_len]; omega
      have e2 : ((l.drop i).flatMap odC).take ((l.length - i) * (4 + 1)) = (l.drop i).flatMap odC := List.take_of_length_le (by rw [hDl]; exact Nat.le_refl _)
      rw [e2]
      unfold lay
      rw [← hAo, List.take_left, hDl, ← List.drop_drop, List.drop_left, List.drop_drop]
      rw [show 5 + (l.length - i) * 5 = z.length by rw [hz]; omega, List.drop_left]
      simp [List.append_assoc]
    refine hK _ _ ⟨by rw [flL odC_len, hlr], .inr ⟨b2, cap2, rest2, by rw [hlr], by rw [hlr]; exact hc2, ?_, by rw [hlr]; exact hrl2, hr12⟩⟩ ?_ fun b' hb' => ?_
    · rw [heap_setRow, if_pos rfl, hbD]
      show some (Obj.cells (lay ((l.take i).flatMap odC ++ odC o ++ (z ++ rest2).drop 5) ((i + 1) * (4 + 1)) (((l.drop i).flatMap odC).take ((l.length - i) * (4 + 1)))).toArray tOd (0, 0)) = _
      rw [hl4]
    · exact ((mF.mono fun _ _ h => h.elim).on mD fun b' hb' => .inr (by rw [hb']; exact hb2n)).setRow (.inr hb2n) _
    · have : b' = b2 := by cases hb'; rfl
      exact .inr (by omega)
  · have hroom' : ¬ (cap : Int) < (l.length : Int) + 1 := by omega
    refine rvS (v := .bool false) (by simp [go_sem, hroom'] <;> first | exact ⟨rfl, rfl⟩ | exact rfl) ?_
    rw [ifB_bool, if_neg Bool.false_ne_true]
    refine rvS (v := .int .i64 ((l.length + 1 : Nat) : Int)) (w' := w) (by simp [go_sem]; rw [wrapI (by omega) (by omega)]) ?_
    refine rvS (slHi uOds nOd (show l.length + 1 ≤ cap by omega) (by omega) w) ?_
    refine rvS (v := .int .i64 ((i + 1 : Nat) : Int)) (w' := w) (by simp [go_sem]; rw [wrapI (by omega) (by omega)]) ?_
    refine rvS (slLo uOds nOd (show i + 1 ≤ l.length + 1 by omega) (by omega) (by omega) w) ?_
    have hov : (callFunc 351 #[.slice (some ⟨vb, 0, none⟩) 1 vcap, .slice (some ⟨b, (i + 1) * (4 + 1), none⟩) (l.length + 1 - (i + 1)) (cap - (i + 1))]).run Tryz.prog w = .ok (.value (.bool false)) w := by
      rw [run_callFunc_extern Tryz.func351 (by kernel_rfl) (by kernel_rfl) (by kernel_rfl) ovFind]
      rw [Lib.run_overlaps_apart w tOds 4 tOd uOds 5 sOd ⟨vb, 0, none⟩ ⟨b, (i + 1) * (4 + 1), none⟩ 1 vcap _ _ hne tOd tOd _ _ (shp hvb) (shp hb) (by rw [List.size_toArray, hszr]; omega) (notFz hvb _) (notFz hvb _)]
      rfl
    refine ⟨?_⟩
    show rn Tryz.prog (callFunc 351 #[.slice (some ⟨vb, 0, none⟩) 1 vcap, .slice (some ⟨b, (i + 1) * (4 + 1), none⟩) (l.length + 1 - (i + 1)) (cap - (i + 1))]) w _
    refine rnS hov ?_
    refine rvS (v := .bool true) (by simp [go_sem] <;> first | exact ⟨rfl, rfl⟩ | exact rfl) ?_
    rw [ifB_bool, if_pos rfl]
    refine rdPS (v := .int .i64 ((i + 1 : Nat) : Int)) (fun W => by simp [go_sem]; rw [wrapI (by omega) (by omega)]) ?_
    refine rdPS (fun W => slLo uOds nOd (show i + 1 ≤ l.length + 1 by omega) (by omega) (by omega) W) ?_
    refine rdPS (fun W => slLo uOds nOd (show i ≤ l.length + 1 by omega) (by omega) (by omega) W) ?_
    have hbD : w.drew.heap[b]? = some (.cells (l.flatMap odC ++ rest).toArray tOd (0, 0)) := hb
    have hrl5 : 5 ≤ rest.length := by rw [hrl]; omega
    have hsrc : Rd w.drew (4 + 1) (.slice (some ⟨b, i * (4 + 1), none⟩) (l.length + 1 - i) (cap - i)) (l.length + 1 - i) ((l.drop i).flatMap odC ++ rest.take 5) := by
      have hA0 : At w b 0 (l.flatMap odC ++ rest) := At.all (hp_of hb)
      have h1 := hA0.sub (i * 5) ((l.length + 1 - i) * 5) (by rw [hszr]; omega)
      rw [List.drop_append_of_le_length (by rw [hl]; omega), flD odC_len, Nat.zero_add] at h1
      have e1 : ((l.drop i).flatMap odC ++ rest).take ((l.length + 1 - i) * 5) = (l.drop i).flatMap odC ++ rest.take 5 := by
        have hd : ((l.drop i).flatMap odC).length = (l.length - i) * 5 := by rw [flL odC_len, List.length_drop]
        rw [show (l.length + 1 - i) * 5 = ((l.drop i).flatMap odC).length + 5 by rw [hd]; omega, List.take_length_add_append]
      rw [e1] at h1
      refine ⟨by rw [List.length_append, flL odC_len, List.length_drop, List.length_take, Nat.min_eq_left hrl5]; omega, .inr ⟨b, i * (4 + 1), cap - i, rfl, by omega, h1.keep rfl⟩⟩
    have hDl : ((l.drop i).flatMap odC).length = (l.length - i) * 5 := by rw [flL odC_len, List.length_drop]
    refine rx_copyK (sz := 4) (k := l.length - i) uOds nOd hbD hsrc (by show _ = min _ _; omega) (by rw [List.size_toArray, hszr]; omega) (by rw [List.all_append, flO odC_one]; exact List.all_eq_true.2 fun x hx => List.all_eq_true.1 hr1 x (List.mem_of_mem_take hx)) ?_
    have hA : ((l.take i).flatMap odC).length = i * 5 := by rw [flL odC_len, List.length_take, Nat.min_eq_left hi]
    obtain ⟨mid, hmid, hmidl⟩ : ∃ mid : List Value, l.flatMap odC ++ rest = (l.take i).flatMap odC ++ (mid ++ ((l.flatMap odC ++ rest).drop ((i + 1) * 5))) ∧ mid.length = 5 := by
      refine ⟨((l.flatMap odC ++ rest).drop (i * 5)).take 5, ?_, by rw [List.length_take, List.length_drop, hszr]; omega⟩
      have e1 : (l.take i).flatMap odC = (l.flatMap odC ++ rest).take (i * 5) := by rw [List.take_append_of_le_length (by rw [hl]; omega), flT odC_len]
      rw [e1, show (i + 1) * 5 = i * 5 + 5 by omega, ← List.drop_drop, List.take_append_drop, List.take_append_drop]
    have hl3 : lay (l.flatMap odC ++ rest) ((i + 1) * (4 + 1)) (((l.drop i).flatMap odC ++ rest.take 5).take ((l.length - i) * (4 + 1))) = (l.take i).flatMap odC ++ mid ++ ((l.drop i).flatMap odC ++ rest.drop 5) := by
      have e2 : ((l.drop i).flatMap odC ++ rest.take 5).take ((l.length - i) * (4 + 1)) = (l.drop i).flatMap odC := by
        rw [show (l.length - i) * (4 + 1) = ((l.drop i).flatMap odC).length by rw [hDl], List.take_left]
      have e3 : (l.flatMap odC ++ rest).take ((i + 1) * (4 + 1)) = (l.take i).flatMap odC ++ mid := by
        rw [hmid, ← List.append_assoc, show (i + 1) * (4 + 1) = ((l.take i).flatMap odC ++ mid).length by rw [List.length_append, hA, hmidl]; omega, List.take_left]
      have e4 : (l.flatMap odC ++ rest).drop ((i + 1) * (4 + 1) + (l.length - i) * 5) = rest.drop 5 := by
        rw [show (i + 1) * (4 + 1) + (l.length - i) * 5 = (l.flatMap odC).length + 5 by rw [hl]; omega, ← List.drop_drop, List.drop_left]
      unfold lay
      rw [e2, hDl, e3, e4]
      simp [List.append_assoc]
    have m3 : Mod (inSl (.slice (some ⟨b, 0, none⟩) l.length cap)) w (w.drew.setRow b (lay (l.flatMap odC ++ rest) ((i + 1) * (4 + 1)) (((l.drop i).flatMap odC ++ rest.take 5).take ((l.length - i) * (4 + 1)))).toArray) := ((Mod.refl _ w).drew).setRow (.inl (show inSl (.slice (some ⟨b, 0, none⟩) l.length cap) b from rfl)) _
    have hb3 : (w.drew.setRow b (lay (l.flatMap odC ++ rest) ((i + 1) * (4 + 1)) (((l.drop i).flatMap odC ++ rest.take 5).take ((l.length - i) * (4 + 1)))).toArray).heap[b]? = some (.cells ((l.take i).flatMap odC ++ mid ++ ((l.drop i).flatMap odC ++ rest.drop 5)).toArray tOd (0, 0)) := by
      rw [heap_setRow, if_pos rfl, hbD, hl3]
    rw [show (l.flatMap odC ++ rest).toArray.toList = l.flatMap odC ++ rest from rfl]
    generalize w.drew.setRow b (lay (l.flatMap odC ++ rest) ((i + 1) * (4 + 1)) (((l.drop i).flatMap odC ++ rest.take 5).take ((l.length - i) * (4 + 1)))).toArray = w3 at m3 hb3 ⊢
    refine rvS (slLo uOds nOd (show i ≤ l.length + 1 by omega) (by omega) (by omega) w3) ?_
    have hv3 : Rd w3 5 (.slice (some ⟨vb, 0, none⟩) 1 vcap) 1 (odC o) := by
      have := hv.rd.mod m3 fun b' hb' hs' => hd b' hs' hb'.sl
      rw [hcs] at this
      exact this
    refine rx_copyK (sz := 4) (k := 1) uOds nOd hb3 hv3 (by show _ = min _ _; omega) (by rw [List.size_toArray, List.length_append, List.length_append, List.length_append, hA, hmidl, hDl, List.length_drop, hrl]; omega) (odC_one o) ?_
    have hl4 : lay ((l.take i).flatMap odC ++ mid ++ ((l.drop i).flatMap odC ++ rest.drop 5)) (i * (4 + 1)) ((odC o).take (1 * (4 + 1))) = (l.take i ++ o :: l.drop i).flatMap odC ++ rest.drop 5 := by
      have e5 : (odC o).take (1 * (4 + 1)) = odC o := rfl
      rw [e5]
      unfold lay
      rw [odC_len, show i * (4 + 1) = ((l.take i).flatMap odC).length by rw [hA], List.append_assoc ((l.take i).flatMap odC) mid, List.take_left, ← List.drop_drop, List.drop_left, ← hmidl, List.drop_left]
      simp [List.append_assoc]
    refine hK _ _ ⟨by rw [flL odC_len, hlr], .inr ⟨b, cap, rest.drop 5, by rw [hlr], by rw [hlr]; omega, ?_, by rw [hlr, List.length_drop, hrl]; omega, List.all_eq_true.2 fun x hx => List.all_eq_true.1 hr1 x (List.mem_of_mem_drop hx)⟩⟩ (m3.setRow (.inl (show inSl (.slice (some ⟨b, 0, none⟩) l.length cap) b from rfl)) _) fun b' hb' => .inl hb'
    show (w3.setRow b (lay ((l.take i).flatMap odC ++ mid ++ ((l.drop i).flatMap odC ++ rest.drop 5)) (i * (4 + 1)) ((odC o).take (1 * (4 + 1)))).toArray).heap[b]? = _
    rw [heap_setRow, if_pos rfl, hb3, hl4]
def ClosOd (w : World) (fv : Value) (p : Od → Bool) (l : List Od) : Prop :=
  ∃ g cp, fv = .func (.func g) #[] cp ∧ ∀ x ∈ l, ∀ W, Mod (fun _ => False) w W → ∀ K : Kont, (∀ W', Mod (fun _ => False) W W' → K (.bool (p x)) W') → Ca Tryz.prog g ⟨[.agg (odC x).toArray] ++ cp.toList⟩ W K
def idxI {α : Type} (l : List α) (p : α → Bool) : Int := match l.findIdx? p with | some i => (i : Int) | none => -1
theorem ca_indexOd {w : World} {K : Kont} {s fv : Value} {l : List Od} {p : Od → Bool} (h : Rd w 5 s l.length (l.flatMap odC)) (hn : l.length ≤ 1000000) (hc : ClosOd w fv p l)
    (hK : ∀ w', Mod (fun _ => False) w w' → K (.int .i64 (idxI l p)) w') : Ca Tryz.prog 210 #[s, fv] w K := by
  obtain ⟨g, cp, rfl, hcl⟩ := hc
  apply ca210
  unfold F210
  obtain ⟨a, c, hs⟩ := h.isSl
  refine rnS (v := .int .i64 (l.length : Int)) (w' := w) (by rw [hs]; simp [go_sem]) ?_
  refine loopV (fun st W => ∃ (i : Nat) (x : Value), i ≤ l.length ∧ st = (x, .int .i64 i, ()) ∧ Mod (fun _ => False) w W ∧ ∀ j : Nat, ∀ hj : j < l.length, j < i → p l[j] = false)
    (fun st _ => match st.2.1 with | .int _ i => l.length - i.toNat | _ => 0) ⟨0, .int .i64 0, by omega, rfl, Mod.refl _ _, fun j _ h => by omega⟩ ?_
  rintro ⟨_, _⟩ W ⟨i, x, hi, ⟨⟩, mW, hno⟩ KN hKN
  unfold L210_0
  intro _
  by_cases hlt : i < l.length
  · have hlt' : (i : Int) < (l.length : Int) := by omega
    refine rvS (v := .bool true) (by simp [go_sem, hlt'] <;> first | exact ⟨rfl, rfl⟩ | exact rfl) ?_
    rw [ifB_bool, if_pos rfl]
    obtain ⟨b, off, cap, hse, hcap, hA⟩ := (h.mod mW fun _ _ h => h).item odC_len hlt rfl
    obtain ⟨C, e, fz, hC, hg⟩ := hA.get
    have g0 := hg 0 (.int .u64 l[i].num) rfl
    have g1 := hg 1 (.int .u32 l[i].acct) rfl
    have g2 := hg 2 (.bool l[i].buy) rfl
    have g3 := hg 3 (.int .i64 l[i].price) rfl
    have g4 := hg 4 (.int .i64 l[i].left) rfl
    simp only [Nat.add_assoc, Nat.add_zero] at g0 g1 g2 g3 g4
    refine rvS (v := .pointer (some ⟨b, off + i * 5, none⟩)) (w' := W) (by rw [hse]; simp [go_sem, hlt, addr_add]) ?_
    refine rvS (v := .agg (odC l[i]).toArray) (w' := W) (by simp [go_sem, hp_of hC, g0, g1, g2, g3, g4, odC]) ?_
    simp only [callV_func]
    have harr : (#[.agg (odC l[i]).toArray] ++ cp : Array Value) = ⟨[.agg (odC l[i]).toArray] ++ cp.toList⟩ := by apply Array.ext'; simp
    refine hcl l[i] (List.getElem_mem hlt) W mW _ fun W' mW' => ?_
    cases hp : p l[i] with
    | true =>
      rw [ifB_bool, if_pos rfl]
      have : idxI l p = (i : Int) := by
        unfold idxI
        have : l.findIdx? p = some i := by
          rw [List.findIdx?_eq_some_iff_getElem]
          refine ⟨hlt, hp, fun j hj => ?_⟩
          rw [hno j (by omega) hj]; simp
        rw [this]
      have hk := hK _ (mW.trans mW')
      rw [this] at hk
      exact hk
    | false =>
      rw [ifB_bool, if_neg Bool.false_ne_true]
      refine rvS (v := .int .i64 ((i + 1 : Nat) : Int)) (w' := W') (by simp [go_sem]; rw [wrapI (by omega) (by omega)]) ?_
      refine hKN _ _ ⟨i + 1, _, by omega, rfl, mW.trans mW', fun j hj hji => ?_⟩ (by show l.length - (((i + 1 : Nat) : Int)).toNat < l.length - ((i : Int)).toNat; omega)
      by_cases he : j = i
      · subst he; exact hp
      · exact hno j hj (by omega)
  · obtain rfl : i = l.length := by omega
    refine rvS (v := .bool false) (by simp [go_sem] <;> first | exact ⟨rfl, rfl⟩ | exact rfl) ?_
    rw [ifB_bool, if_neg Bool.false_ne_true]
    have : idxI l p = -1 := by
      unfold idxI
      have : l.findIdx? p = none := by
        rw [List.findIdx?_eq_none_iff]
        intro x hx
        obtain ⟨j, hj, rfl⟩ := List.getElem_of_mem hx
        exact hno j hj hj
      rw [this]
    have hk := hK _ mW
    rw [this] at hk
    exact hk
end Go.Proofs
