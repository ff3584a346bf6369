/- Part of a proof. -/
import Derived.Shelf.SlSortCmp.NoneTotal
import Derived.Ground.SlsfProg
import Derived.Test.YtgebhcgmckjbbaaGreatI8
set_option linter.all false
namespace Go.Proofs
open Go Go.Vc
attribute [local congr] Ca_congV
def Od.may (o : Od) : Bool := decide (o.num ≠ 0) && decide (o.acct ≠ 0) && amongB o.price 1 MP && amongB o.left 1 1000000
def odV (o : Od) : Value := .agg (odC o).toArray
def zOd : Od := ⟨0, 0, false, 0, 0⟩
def betterB (buy : Bool) (a b : Int) : Bool := if buy then decide (b < a) else decide (a < b)
def sdAt (buy : Bool) (l : List Od) (price : Int) : Nat := (l.findIdx? fun x => betterB buy price x.price).getD l.length
def sdIns (buy : Bool) (l : List Od) (o : Od) : List Od := l.take (sdAt buy l o.price) ++ o :: l.drop (sdAt buy l o.price)
def sdAdd (buy : Bool) (l : List Od) (o : Od) : Int × List Od :=
  if ¬ o.may ∨ o.buy ≠ buy then (2, l) else if (l.any fun x => decide (x.num = o.num)) then (8, l) else if 100 ≤ l.length then (9, l) else (0, sdIns buy l o)
def sdGet (l : List Od) (n : Int) : Option Od := l.find? fun x => decide (x.num = n)
def sdDel (l : List Od) (n : Int) : List Od := l.eraseP fun x => decide (x.num = n)
def sdFill (l : List Od) (n : Int) : List Od :=
  match l with
  | [] => []
  | o :: r => if o.left - n = 0 then r else { o with left := o.left - n } :: r
def sdReach (buy : Bool) (l : List Od) (price : Int) (acct : Int) : Int :=
  (((l.takeWhile fun o => !betterB buy price o.price).filter fun o => decide (o.acct ≠ acct)).map (·.left)).sum
theorem boxOd (o : Od) (w : World) : ∃ w1, (Instr.box tOd (odV o)).run Tryz.prog w = .ok (.pointer (some ⟨w.heap.size, 0, none⟩)) w1 ∧ hp w1 w.heap.size = some (.cells (odC o).toArray tOd (0, 0)) ∧ Mod (fun _ => False) w w1 :=
  ⟨w.alloc (.cells (odC o).toArray tOd), rfl, by simp [go_sem], (Mod.refl _ w).alloc _⟩
theorem ca_omay {o : Od} {w : World} {K : Kont} (hK : ∀ w', Mod (fun _ => False) w w' → K (.bool o.may) w') : Ca Tryz.prog 222 #[odV o] w K := by
  apply ca222
  unfold F222
  obtain ⟨w1, e1, b1, m1⟩ := boxOd o w
  have hK := hK _ m1
  refine rvS e1 ?_
  unfold Od.may amongB MP at hK
  unfold odC at b1
  refine rvS (by simp [-Int.natCast_add, go_sem, b1] <;> first | exact ⟨rfl, rfl⟩ | exact rfl) ?_
  refine rvS (by simp [-Int.natCast_add, go_sem, b1] <;> first | exact ⟨rfl, rfl⟩ | exact rfl) ?_
  by_cases h0 : o.num = 0
  · refine rvS (v := .bool false) (by simp [go_sem, h0] <;> first | exact ⟨rfl, rfl⟩ | exact rfl) ?_
    rw [ifB_bool, if_neg Bool.false_ne_true]
    simpa [h0] using hK
  refine rvS (v := .bool true) (by simp [go_sem, h0] <;> first | exact ⟨rfl, rfl⟩ | exact rfl) ?_
  rw [ifB_bool, if_pos rfl]
  refine rvS (by simp [-Int.natCast_add, go_sem, b1] <;> first | exact ⟨rfl, rfl⟩ | exact rfl) ?_
  refine rvS (by simp [-Int.natCast_add, go_sem, b1] <;> first | exact ⟨rfl, rfl⟩ | exact rfl) ?_
  by_cases h1 : o.acct = 0
  · refine rvS (v := .bool false) (by simp [go_sem, h1] <;> first | exact ⟨rfl, rfl⟩ | exact rfl) ?_
    rw [ifB_bool, if_neg Bool.false_ne_true]
    simpa [h1] using hK
  refine rvS (v := .bool true) (by simp [go_sem, h1] <;> first | exact ⟨rfl, rfl⟩ | exact rfl) ?_
  rw [ifB_bool, if_pos rfl]
  refine rvS (by simp [-Int.natCast_add, go_sem, b1] <;> first | exact ⟨rfl, rfl⟩ | exact rfl) ?_
  refine rvS (by simp [-Int.natCast_add, go_sem, b1] <;> first | exact ⟨rfl, rfl⟩ | exact rfl) ?_
  by_cases h2 : 1 ≤ o.price
  · refine rvS (v := .bool true) (by simp [go_sem, h2] <;> first | exact ⟨rfl, rfl⟩ | exact rfl) ?_
    rw [ifB_bool, if_pos rfl]
    refine rvS (by simp [-Int.natCast_add, go_sem, b1] <;> first | exact ⟨rfl, rfl⟩ | exact rfl) ?_
    refine rvS (by simp [-Int.natCast_add, go_sem, b1] <;> first | exact ⟨rfl, rfl⟩ | exact rfl) ?_
    by_cases h3 : o.price ≤ 10000000
    · refine rvS (v := .bool true) (by simp [go_sem, h3] <;> first | exact ⟨rfl, rfl⟩ | exact rfl) ?_
      rw [ifB_bool, if_pos rfl]
      refine rvS (by simp [-Int.natCast_add, go_sem, b1] <;> first | exact ⟨rfl, rfl⟩ | exact rfl) ?_
      refine rvS (by simp [-Int.natCast_add, go_sem, b1] <;> first | exact ⟨rfl, rfl⟩ | exact rfl) ?_
      by_cases h4 : 1 ≤ o.left
      · refine rvS (v := .bool true) (by simp [go_sem, h4] <;> first | exact ⟨rfl, rfl⟩ | exact rfl) ?_
        rw [ifB_bool, if_pos rfl]
        refine rvS (by simp [-Int.natCast_add, go_sem, b1] <;> first | exact ⟨rfl, rfl⟩ | exact rfl) ?_
        refine rvS (by simp [-Int.natCast_add, go_sem, b1] <;> first | exact ⟨rfl, rfl⟩ | exact rfl) ?_
        refine rvS (by simp [-Int.natCast_add, go_sem] <;> first | exact ⟨rfl, rfl⟩ | exact rfl) ?_
        simpa [h0, h1, h2, h3, h4] using hK
      · refine rvS (v := .bool false) (by simp [go_sem, h4] <;> first | exact ⟨rfl, rfl⟩ | exact rfl) ?_
        rw [ifB_bool, if_neg Bool.false_ne_true]
        simpa [h0, h1, h2, h3, h4] using hK
    · refine rvS (v := .bool false) (by simp [go_sem, h3] <;> first | exact ⟨rfl, rfl⟩ | exact rfl) ?_
      rw [ifB_bool, if_neg Bool.false_ne_true]
      simpa [h0, h1, h2, h3] using hK
  · refine rvS (v := .bool false) (by simp [go_sem, h2] <;> first | exact ⟨rfl, rfl⟩ | exact rfl) ?_
    rw [ifB_bool, if_neg Bool.false_ne_true]
    simpa [h0, h1, h2] using hK
structure SideQ (w : World) (s : Nat) (F : Nat → Prop) (buy : Bool) (l : List Od) : Prop where
  out : ∃ sl, hp w s = some (.cells #[.bool true, .bool buy, sl] 320 (0, 0)) ∧ OdS w sl l ∧ (∀ b, F b ↔ b = s ∨ inSl sl b) ∧ ¬ inSl sl s
  len : l.length ≤ 100
  may : ∀ o ∈ l, o.may = true ∧ o.buy = buy ∧ o.Fit
theorem SideQ.mod {F G : Nat → Prop} {w w' : World} {s : Nat} {buy : Bool} {l : List Od} (h : SideQ w s F buy l) (hm : Mod G w w') (hd : ∀ b, F b → ¬ G b) : SideQ w' s F buy l := by
  obtain ⟨⟨sl, h1, h2, h3, h4⟩, h5, h6⟩ := h
  exact ⟨⟨sl, hm.hpk h1 (hd s ((h3 s).2 (.inl rfl))), h2.mod hm fun b hb => hd b ((h3 b).2 (.inr hb)), h3, h4⟩, h5, h6⟩
theorem SideQ.lt {F : Nat → Prop} {w : World} {s : Nat} {buy : Bool} {l : List Od} (h : SideQ w s F buy l) {b : Nat} (hb : F b) : b < w.heap.size := by
  obtain ⟨⟨sl, h1, h2, h3, h4⟩, h5, h6⟩ := h
  rcases (h3 b).1 hb with rfl | hb
  · exact lt_of_heap h1
  · exact h2.lt hb
theorem SideQ.self {F : Nat → Prop} {w : World} {s : Nat} {buy : Bool} {l : List Od} (h : SideQ w s F buy l) : F s := by
  obtain ⟨⟨sl, h1, h2, h3, h4⟩, h5, h6⟩ := h
  exact (h3 s).2 (.inl rfl)
def sptr (s : Nat) : Value := .pointer (some ⟨s, 0, none⟩)
theorem ca_sdnew {w : World} {K : Kont} {buy : Bool} (hK : ∀ s F w', SideQ w' s F buy [] → Mod (fun _ => False) w w' → (∀ b, F b → w.heap.size ≤ b) → K (sptr s) w') : Ca Tryz.prog 133 #[.bool buy] w K := by
  apply ca133
  unfold F133
  simp [go_sem]
  refine hK _ (fun b => b = w.heap.size) _ ⟨⟨.slice none 0 0, by simp [go_sem], Own.nil _ _ _, fun b => ⟨fun h => .inl h, fun h => by rcases h with h | h; exact h; cases h⟩, fun h => by cases h⟩, by simp, fun o h => by cases h⟩ ((Mod.refl _ w).alloc _) fun b hb => by rw [hb]; exact Nat.le_refl _
theorem ca_sready {w : World} {K : Kont} {s : Nat} {F : Nat → Prop} {buy : Bool} {l : List Od} (h : SideQ w s F buy l) (hK : K (.bool true) w) : Ca Tryz.prog 237 #[sptr s] w K := by
  obtain ⟨⟨sl, h1, h2, h3, h4⟩, h5, h6⟩ := h
  apply ca237
  unfold F237
  unfold sptr
  refine rvS (v := .bool true) (by simp [go_sem] <;> first | exact ⟨rfl, rfl⟩ | exact rfl) ?_
  rw [ifB_bool, if_pos rfl]
  simp only [nilK_ptr]
  refine rvS (by simp [-Int.natCast_add, go_sem, h1] <;> first | exact ⟨rfl, rfl⟩ | exact rfl) ?_
  refine rvS (by simp [-Int.natCast_add, go_sem, h1] <;> first | exact ⟨rfl, rfl⟩ | exact rfl) ?_
  exact hK
theorem ca_sbetter {w : World} {K : Kont} {s : Nat} {F : Nat → Prop} {buy : Bool} {l : List Od} {x y : Int} (h : SideQ w s F buy l) (hK : K (.bool (betterB buy x y)) w) : Ca Tryz.prog 270 #[sptr s, .int .i64 x, .int .i64 y] w K := by
  obtain ⟨⟨sl, h1, h2, h3, h4⟩, h5, h6⟩ := h
  apply ca270
  unfold F270 sptr
  simp only [nilK_ptr]
  refine rvS (by simp [-Int.natCast_add, go_sem, h1] <;> first | exact ⟨rfl, rfl⟩ | exact rfl) ?_
  refine rvS (by simp [-Int.natCast_add, go_sem, h1] <;> first | exact ⟨rfl, rfl⟩ | exact rfl) ?_
  unfold betterB at hK
  cases buy with
  | true =>
    rw [ifB_bool, if_pos rfl]
    refine rvS (by simp [-Int.natCast_add, go_sem] <;> first | exact ⟨rfl, rfl⟩ | exact rfl) ?_
    simpa using hK
  | false =>
    rw [ifB_bool, if_neg Bool.false_ne_true]
    refine rvS (by simp [-Int.natCast_add, go_sem] <;> first | exact ⟨rfl, rfl⟩ | exact rfl) ?_
    simpa using hK
theorem ca_sat {w : World} {K : Kont} {s : Nat} {F : Nat → Prop} {buy : Bool} {l : List Od} {n : Int} (h : SideQ w s F buy l)
    (hK : ∀ w', Mod (fun _ => False) w w' → K (.int .i64 (idxI l fun x => decide (x.num = n))) w') : Ca Tryz.prog 310 #[sptr s, .int .u64 n] w K := by
  obtain ⟨⟨sl, h1, h2, h3, h4⟩, h5, h6⟩ := h
  apply ca310
  unfold F310 sptr
  have m1 : Mod (fun _ => False) w (w.alloc (.cells #[.int .u64 n] 27)) := (Mod.refl _ w).alloc _
  obtain ⟨p, hp0⟩ : ∃ p, p = w.heap.size := ⟨_, rfl⟩
  refine rvS (v := .pointer (some ⟨p, 0, none⟩)) (w' := w.alloc (.cells #[.int .u64 n] 27)) (by rw [hp0]; simp [go_sem]) ?_
  have b1 : hp (w.alloc (.cells #[.int .u64 n] 27)) p = some (.cells #[.int .u64 n] 27 (0, 0)) := by rw [hp0]; simp [go_sem]
  generalize w.alloc (.cells #[.int .u64 n] 27) = w1 at m1 b1 ⊢
  have h1' := m1.hpk h1 id
  simp only [nilK_ptr]
  refine rvS (by simp [-Int.natCast_add, go_sem, h1'] <;> first | exact ⟨rfl, rfl⟩ | exact rfl) ?_
  refine rvS (by simp [-Int.natCast_add, go_sem, h1'] <;> first | exact ⟨rfl, rfl⟩ | exact rfl) ?_
  refine ca_indexOd (h2.mod m1 fun _ _ h => h).rd (by omega) ⟨_, _, rfl, fun x hx W mW K' hK' => ?_⟩ fun w2 m2 => hK _ (m1.trans m2)
  apply ca350
  unfold F350
  obtain ⟨W1, e1, c1, n1⟩ := boxOd x W
  refine rvS e1 ?_
  unfold odC at c1
  have b2 := n1.hpk (mW.hpk b1 id) id
  refine rvS (by simp [-Int.natCast_add, go_sem, c1] <;> first | exact ⟨rfl, rfl⟩ | exact rfl) ?_
  refine rvS (by simp [-Int.natCast_add, go_sem, c1] <;> first | exact ⟨rfl, rfl⟩ | exact rfl) ?_
  refine rvS (by simp [-Int.natCast_add, go_sem, b2] <;> first | exact ⟨rfl, rfl⟩ | exact rfl) ?_
  refine rvS (v := .bool (decide (x.num = n))) (w' := W1) (by simp [go_sem]; rw [Bool.eq_iff_iff]; simp) ?_
  exact hK' _ n1
theorem idx_some {α : Type} {l : List α} {p : α → Bool} {i : Nat} (h : l.findIdx? p = some i) : ∃ hi : i < l.length, p l[i] = true ∧ l.find? p = some l[i] ∧ idxI l p = (i : Int) := by
  obtain ⟨hi, h1, h2⟩ := List.findIdx?_eq_some_iff_getElem.1 h
  refine ⟨hi, h1, ?_, by unfold idxI; rw [h]⟩
  rw [List.find?_eq_some_iff_getElem]
  exact ⟨h1, i, hi, rfl, fun j hj => by simpa using h2 j hj⟩
theorem idx_none {α : Type} {l : List α} {p : α → Bool} (h : l.findIdx? p = none) : l.find? p = none ∧ idxI l p = -1 := by
  refine ⟨?_, by unfold idxI; rw [h]⟩
  rw [List.findIdx?_eq_none_iff] at h
  rw [List.find?_eq_none]
  exact fun x hx => by rw [h x hx]; simp
theorem ca_sfind {w : World} {K : Kont} {s : Nat} {F : Nat → Prop} {buy : Bool} {l : List Od} {n : Int} (h : SideQ w s F buy l)
    (hK : ∀ w', Mod (fun _ => False) w w' → K (.tuple #[.int .i64 ((l.findIdx? fun x => decide (x.num = n)).getD 0 : Nat), .int .i64 (if (l.findIdx? fun x => decide (x.num = n)).isSome then 0 else 7)]) w') : Ca Tryz.prog 299 #[sptr s, .int .u64 n] w K := by
  apply ca299
  unfold F299
  refine ca_sready h ?_
  refine rvS (v := .bool false) (by simp [go_sem] <;> first | exact ⟨rfl, rfl⟩ | exact rfl) ?_
  rw [ifB_bool, if_neg Bool.false_ne_true]
  refine ca_sat h fun w1 m1 => ?_
  have hK := hK _ m1
  cases hi : l.findIdx? fun x => decide (x.num = n) with
  | none =>
    rw [hi] at hK
    rw [(idx_none hi).2]
    refine rvS (v := .bool false) (by simp [go_sem] <;> first | exact ⟨rfl, rfl⟩ | exact rfl) ?_
    rw [ifB_bool, if_neg Bool.false_ne_true]
    simpa using hK
  | some i =>
    rw [hi] at hK
    obtain ⟨_, _, _, e⟩ := idx_some hi
    rw [e]
    refine rvS (v := .bool true) (by simp [go_sem] <;> first | exact ⟨rfl, rfl⟩ | exact rfl) ?_
    rw [ifB_bool, if_pos rfl]
    simpa using hK
theorem stOd {W : World} {p off : Nat} {C : Array Value} {T : TypeId} {o : Od} (h : hp W p = some (.cells C T (0, 0))) (hs : off + 5 ≤ C.size) :
    (Instr.storeAt tOd (.pointer (some ⟨p, off, none⟩)) (odV o)).run Tryz.prog W = .ok () (W.setRow p (lay C.toList off (odC o)).toArray) := by
  have h1 := run_bigU (P := Tryz.prog) (t := tOd) (w := W) (b := p) (off := off) (cs := odC o) (n := 4) nOd rfl h hs (odC_one o)
  exact h1
theorem ldOd {W : World} {p off : Nat} {o : Od} (h : At W p off (odC o)) : (Instr.loadAt tOd (.pointer (some ⟨p, off, none⟩))).run Tryz.prog W = .ok (odV o) W :=
  run_bigS (P := Tryz.prog) (t := tOd) (by kernel_rfl) nOd rfl h
theorem newOd (w : World) : ∃ w1, (Instr.alloc tOd true (.tuple #[])).run Tryz.prog w = .ok (.pointer (some ⟨w.heap.size, 0, none⟩)) w1 ∧ hp w1 w.heap.size = some (.cells (odC zOd).toArray tOd (0, 0)) ∧ Mod (fun _ => False) w w1 :=
  ⟨w.alloc (.cells (odC zOd).toArray tOd), by simp [go_sem, odC, zOd], by simp [go_sem], (Mod.refl _ w).alloc _⟩
theorem setOd {W : World} {p : Nat} {o o' : Od} {T : TypeId} (h : hp W p = some (.cells (odC o).toArray T (0, 0))) :
    ∃ W', (Instr.storeAt tOd (.pointer (some ⟨p, 0, none⟩)) (odV o')).run Tryz.prog W = .ok () W' ∧ hp W' p = some (.cells (odC o').toArray T (0, 0)) ∧ Mod (fun b => b = p) W W' := by
  refine ⟨_, stOd h (Nat.le_refl _), ?_, (Mod.refl (fun b => b = p) W).setRow (.inl rfl) _⟩
  show (W.setRow p _).heap[p]? = _
  have h' : W.heap[p]? = some (.cells (odC o).toArray T (0, 0)) := h
  rw [heap_setRow, if_pos rfl, h', lay_all (by rfl)]
end Go.Proofs
namespace Go.Proofs
open Go Go.Vc
attribute [local congr] Ca_congV
theorem OdS.load {w : World} {sl : Value} {l : List Od} (h : OdS w sl l) {i : Nat} (hi : i < l.length) :
    ∃ b cap, sl = .slice (some ⟨b, 0, none⟩) l.length cap ∧ (∀ k : IntKind, (Instr.indexAt tOds sl (.int k (i : Int))).run Tryz.prog w = .ok (.pointer (some ⟨b, i * 5, none⟩)) w) ∧ (Instr.loadAt tOd (.pointer (some ⟨b, i * 5, none⟩))).run Tryz.prog w = .ok (odV l[i]) w := by
  obtain ⟨b, cap, rest, rfl, hc, hb, hr⟩ := h.pos (by omega)
  have hA0 : At w b 0 (l.flatMap odC ++ rest) := At.all (hp_of hb)
  have hl := h.1
  have h1 := hA0.sub (i * 5) 5 (by rw [List.length_append, hl]; omega)
  rw [List.drop_append_of_le_length (by rw [hl]; omega), List.take_append_of_le_length (by rw [List.length_drop, hl]; omega), flat_get odC 5 l i (fun x _ => odC_len x) hi, Nat.zero_add] at h1
  refine ⟨b, cap, rfl, fun k => ?_, ldOd h1⟩
  simp [go_sem, hi, addr_add, uOds]
theorem ca_sfind' {w : World} {K : Kont} {s : Nat} {F : Nat → Prop} {buy : Bool} {l : List Od} {n : Int} (h : SideQ w s F buy l)
    (hN : sdGet l n = none → l.findIdx? (fun x => decide (x.num = n)) = none → ∀ w', Mod (fun _ => False) w w' → K (.tuple #[.int .i64 0, .int .i64 7]) w')
    (hS : ∀ i : Nat, ∀ hi : i < l.length, sdGet l n = some l[i] → l.findIdx? (fun x => decide (x.num = n)) = some i → ∀ w', Mod (fun _ => False) w w' → K (.tuple #[.int .i64 (i : Int), .int .i64 0]) w') : Ca Tryz.prog 299 #[sptr s, .int .u64 n] w K := by
  refine ca_sfind h fun w1 m1 => ?_
  cases hi : l.findIdx? fun x => decide (x.num = n) with
  | none => exact hN (idx_none hi).1 hi _ m1
  | some i =>
    obtain ⟨h1, h2, h3, h4⟩ := idx_some hi
    exact hS i h1 h3 hi _ m1
theorem ca_sget {w : World} {K : Kont} {s : Nat} {F : Nat → Prop} {buy : Bool} {l : List Od} {n : Int} (h : SideQ w s F buy l)
    (hK : ∀ w', Mod (fun _ => False) w w' → K (.tuple #[odV ((sdGet l n).getD zOd), .int .i64 (if (sdGet l n).isSome then 0 else 7)]) w') : Ca Tryz.prog 269 #[sptr s, .int .u64 n] w K := by
  apply ca269
  unfold F269
  obtain ⟨w1, e1, b1, m1⟩ := newOd w
  refine rvS e1 ?_
  obtain ⟨p, hp0⟩ : ∃ p, p = w.heap.size := ⟨_, rfl⟩
  rw [← hp0] at b1 ⊢
  have h1 := h.mod m1 fun _ _ h => h
  refine ca_sfind' h1 (fun hg _ w2 m2 => ?_) fun i hi hg _ w2 m2 => ?_
  · have b2 := m2.hpk b1 id
    rw [hg] at hK
    refine rvS (by simp [-Int.natCast_add, go_sem] <;> first | exact ⟨rfl, rfl⟩ | exact rfl) ?_
    refine rvS (by simp [-Int.natCast_add, go_sem] <;> first | exact ⟨rfl, rfl⟩ | exact rfl) ?_
    refine rvS (v := .bool true) (by simp [go_sem] <;> first | exact ⟨rfl, rfl⟩ | exact rfl) ?_
    rw [ifB_bool, if_pos rfl]
    refine rvS (v := odV zOd) (w' := w2) (by simp [go_sem, odV, odC, zOd]) ?_
    obtain ⟨w3, e3, b3, m3⟩ := setOd (o' := zOd) b2
    refine ruS e3 ?_
    refine rdWS (ldOd (o := zOd) (At.all b3)) ?_
    exact hK _ ((m1.trans m2).on m3 fun b hb => .inr (by omega))
  · have b2 := m2.hpk b1 id
    have h2 := h1.mod m2 fun _ _ h => h
    obtain ⟨⟨sl, c1, c2, c3, c4⟩, c5, c6⟩ := h2
    obtain ⟨b, cap, hsl, hix, hld⟩ := c2.load hi
    rw [hg] at hK
    refine rvS (by simp [-Int.natCast_add, go_sem] <;> first | exact ⟨rfl, rfl⟩ | exact rfl) ?_
    refine rvS (by simp [-Int.natCast_add, go_sem] <;> first | exact ⟨rfl, rfl⟩ | exact rfl) ?_
    refine rvS (v := .bool false) (by simp [go_sem] <;> first | exact ⟨rfl, rfl⟩ | exact rfl) ?_
    rw [ifB_bool, if_neg Bool.false_ne_true]
    simp only [sptr, nilK_ptr]
    refine rvS (by simp [-Int.natCast_add, go_sem, c1] <;> first | exact ⟨rfl, rfl⟩ | exact rfl) ?_
    refine rvS (by simp [-Int.natCast_add, go_sem, c1] <;> first | exact ⟨rfl, rfl⟩ | exact rfl) ?_
    refine rvS (hix _) ?_
    refine rvS hld ?_
    obtain ⟨w3, e3, b3, m3⟩ := setOd (o' := l[i]) b2
    refine ruS e3 ?_
    refine rdWS (ldOd (o := l[i]) (At.all b3)) ?_
    exact hK _ ((m1.trans m2).on m3 fun b hb => .inr (by omega))
theorem ca_sbest {w : World} {K : Kont} {s : Nat} {F : Nat → Prop} {buy : Bool} {l : List Od} (h : SideQ w s F buy l)
    (hK : ∀ w', Mod (fun _ => False) w w' → K (.tuple #[odV (l.head?.getD zOd), .bool l.head?.isSome]) w') : Ca Tryz.prog 271 #[sptr s] w K := by
  apply ca271
  unfold F271
  obtain ⟨w1, e1, b1, m1⟩ := newOd w
  refine rvS e1 ?_
  obtain ⟨p, hp0⟩ : ∃ p, p = w.heap.size := ⟨_, rfl⟩
  rw [← hp0] at b1 ⊢
  have h1 := h.mod m1 fun _ _ h => h
  obtain ⟨⟨sl, c1, c2, c3, c4⟩, c5, c6⟩ := id h1
  obtain ⟨sa, sc, hsl, -⟩ := c2.isSl
  refine JoinW.at (fun st W => st = (.bool (decide (l.length = 0)), ()) ∧ W = w1) ?_ ?_
  · refine ca_sready h1 ?_
    refine rvS (v := .bool false) (by simp [go_sem] <;> first | exact ⟨rfl, rfl⟩ | exact rfl) ?_
    rw [ifB_bool, if_neg Bool.false_ne_true]
    simp only [sptr, nilK_ptr]
    refine rvS (by simp [-Int.natCast_add, go_sem, c1] <;> first | exact ⟨rfl, rfl⟩ | exact rfl) ?_
    refine rvS (by simp [-Int.natCast_add, go_sem, c1] <;> first | exact ⟨rfl, rfl⟩ | exact rfl) ?_
    refine rnS (v := .int .i64 (l.length : Int)) (w' := w1) (by rw [hsl]; simp [go_sem]) ?_
    refine rvS (v := .bool (decide (l.length = 0))) (w' := w1) (by simp [go_sem]; rw [Bool.eq_iff_iff]; simp) ?_
    exact ⟨rfl, rfl⟩
  rintro _ w1 ⟨rfl, rfl⟩
  unfold J271_0
  intro _
  cases l with
  | nil =>
    rw [ifB_bool, if_pos (by simp)]
    refine rvS (v := odV zOd) (w' := w1) (by simp [go_sem, odV, odC, zOd]) ?_
    obtain ⟨w3, e3, b3, m3⟩ := setOd (o' := zOd) b1
    refine ruS e3 ?_
    refine rdWS (ldOd (o := zOd) (At.all b3)) ?_
    exact hK _ (m1.on m3 fun b hb => .inr (by omega))
  | cons o r =>
    rw [ifB_bool, if_neg (by simp)]
    obtain ⟨b, cap, hsl', hix, hld⟩ := c2.load (i := 0) (by simp)
    simp only [sptr, nilK_ptr]
    refine rvS (by simp [-Int.natCast_add, go_sem, c1] <;> first | exact ⟨rfl, rfl⟩ | exact rfl) ?_
    refine rvS (by simp [-Int.natCast_add, go_sem, c1] <;> first | exact ⟨rfl, rfl⟩ | exact rfl) ?_
    refine rvS (hix .i64) ?_
    refine rvS hld ?_
    obtain ⟨w3, e3, b3, m3⟩ := setOd (o' := o) b1
    refine ruS e3 ?_
    refine rdWS (ldOd (o := o) (At.all b3)) ?_
    exact hK _ (m1.on m3 fun b hb => .inr (by omega))
theorem ca_slen {w : World} {K : Kont} {s : Nat} {F : Nat → Prop} {buy : Bool} {l : List Od} (h : SideQ w s F buy l) (hK : K (.int .i64 (l.length : Int)) w) : Ca Tryz.prog 227 #[sptr s] w K := by
  obtain ⟨⟨sl, c1, c2, c3, c4⟩, c5, c6⟩ := id h
  obtain ⟨sa, sc, hsl, -⟩ := c2.isSl
  apply ca227
  unfold F227
  refine ca_sready h ?_
  refine rvS (v := .bool false) (by simp [go_sem] <;> first | exact ⟨rfl, rfl⟩ | exact rfl) ?_
  rw [ifB_bool, if_neg Bool.false_ne_true]
  simp only [sptr, nilK_ptr]
  refine rvS (by simp [-Int.natCast_add, go_sem, c1] <;> first | exact ⟨rfl, rfl⟩ | exact rfl) ?_
  refine rvS (by simp [-Int.natCast_add, go_sem, c1] <;> first | exact ⟨rfl, rfl⟩ | exact rfl) ?_
  refine rnS (v := .int .i64 (l.length : Int)) (w' := w) (by rw [hsl]; simp [go_sem]) ?_
  exact hK
theorem ca_scopy {w : World} {K : Kont} {s : Nat} {F : Nat → Prop} {buy : Bool} {l : List Od} (h : SideQ w s F buy l)
    (hK : ∀ s' F' w', SideQ w' s' F' buy l → Mod (fun _ => False) w w' → (∀ b, F' b → w.heap.size ≤ b) → K (sptr s') w') : Ca Tryz.prog 193 #[sptr s] w K := by
  obtain ⟨⟨sl, c1, c2, c3, c4⟩, c5, c6⟩ := id h
  apply ca193
  unfold F193
  refine ca_sready h ?_
  refine rvS (v := .bool false) (by simp [go_sem] <;> first | exact ⟨rfl, rfl⟩ | exact rfl) ?_
  rw [ifB_bool, if_neg Bool.false_ne_true]
  have md : Mod (fun _ => False) w w.drew := (Mod.refl _ w).drew
  have d1 := md.hpk c1 id
  simp only [sptr, nilK_ptr]
  refine rdPS (fun _ => by simp [-Int.natCast_add, go_sem] <;> first | exact ⟨rfl, rfl⟩ | exact rfl) ?_
  refine rdWS (by simp [-Int.natCast_add, go_sem, d1] <;> first | exact ⟨rfl, rfl⟩ | exact rfl) ?_
  refine rdPS (fun _ => by simp [-Int.natCast_add, go_sem] <;> first | exact ⟨rfl, rfl⟩ | exact rfl) ?_
  refine rdWS (by simp [-Int.natCast_add, go_sem, d1] <;> first | exact ⟨rfl, rfl⟩ | exact rfl) ?_
  refine ca_cloneOd (l := l) (c2.mod md fun _ _ h => h).rd (by omega) fun s2 w2 o2 m2 n2 => ?_
  have M2 := md.trans m2
  have d2 := m2.hpk d1 id
  refine ⟨by simp [go_sem, d2], ?_⟩
  obtain ⟨sa, sc, hs2, -⟩ := o2.isSl
  refine rdPS (v := .agg #[.bool true, .bool buy, s2]) (fun W => by rw [hs2]; simp [go_sem]) ?_
  have m3 : Mod (fun _ => False) w2 (w2.alloc (.cells #[.bool true, .bool buy, s2] 320)) := (Mod.refl _ w2).alloc _
  refine rvS (v := sptr w2.heap.size) (w' := w2.alloc (.cells #[.bool true, .bool buy, s2] 320)) rfl ?_
  have hsz := M2.size
  refine hK w2.heap.size (fun b => b = w2.heap.size ∨ inSl s2 b) _ ⟨⟨s2, by simp [go_sem], o2.mod m3 fun _ _ h => h, fun b => Iff.rfl, fun hb => ?_⟩, c5, c6⟩ (M2.trans m3) fun b hb => ?_
  · have := o2.lt hb
    omega
  · rcases hb with rfl | hb
    · exact hsz
    · exact n2 b hb
theorem stSide {W : World} {s : Nat} {x0 x1 x2 v : Value} (h : hp W s = some (.cells #[x0, x1, x2] 320 (0, 0))) (hv : ∃ a n c, v = .slice a n c) :
    ∃ W', (Instr.storeAt tOds (.pointer (some ⟨s, 2, none⟩)) v).run Tryz.prog W = .ok () W' ∧ hp W' s = some (.cells #[x0, x1, v] 320 (0, 0)) ∧ Mod (fun b => b = s) W W' := by
  obtain ⟨a, n, c, rfl⟩ := hv
  refine ⟨W.setCell ⟨s, 2, none⟩ (.slice a n c), by simp [go_sem, h], by simp [go_sem, h], (Mod.refl (fun b => b = s) W).setCell (.inl rfl) _ _⟩
theorem sdDel_idx {l : List Od} {n : Int} {i : Nat} (h : l.findIdx? (fun x => decide (x.num = n)) = some i) : sdDel l n = l.take i ++ l.drop (i + 1) := by
  unfold sdDel
  rw [List.eraseP_eq_eraseIdx, h]
  exact List.eraseIdx_eq_take_drop_succ l i
theorem sdDel_len (l : List Od) (n : Int) : (sdDel l n).length ≤ l.length := List.length_eraseP_le
theorem sdDel_mem {l : List Od} {n : Int} {o : Od} (h : o ∈ sdDel l n) : o ∈ l := List.mem_of_mem_eraseP h
theorem ca_sdrop {w : World} {K : Kont} {s : Nat} {F : Nat → Prop} {buy : Bool} {l : List Od} {n : Int} (h : SideQ w s F buy l)
    (hK : ∀ F' w', SideQ w' s F' buy (sdDel l n) → Mod F w w' → (∀ b, F' b → F b ∨ w.heap.size ≤ b) → K (.tuple #[odV ((sdGet l n).getD zOd), .int .i64 (if (sdGet l n).isSome then 0 else 7)]) w') : Ca Tryz.prog 259 #[sptr s, .int .u64 n] w K := by
  apply ca259
  unfold F259
  obtain ⟨w1, e1, b1, m1⟩ := newOd w
  refine rvS e1 ?_
  obtain ⟨p, hp0⟩ : ∃ p, p = w.heap.size := ⟨_, rfl⟩
  rw [← hp0] at b1 ⊢
  have h1 := h.mod m1 fun _ _ h => h
  have toF : ∀ {W W' : World}, Mod (fun _ => False) W W' → Mod F W W' := fun m => m.mono fun _ _ h => h.elim
  have pF : ∀ {b}, F b → b < p := fun hb => by rw [hp0]; exact h.lt hb
  refine ca_sfind' h1 (fun hg hix w2 m2 => ?_) fun i hi hg hidx w2 m2 => ?_
  · have b2 := m2.hpk b1 id
    have hde : sdDel l n = l := by
      unfold sdDel
      rw [List.eraseP_eq_eraseIdx, hix]
    rw [hg, hde] at hK
    refine rvS (by simp [-Int.natCast_add, go_sem] <;> first | exact ⟨rfl, rfl⟩ | exact rfl) ?_
    refine rvS (by simp [-Int.natCast_add, go_sem] <;> first | exact ⟨rfl, rfl⟩ | exact rfl) ?_
    refine rvS (v := .bool true) (by simp [go_sem] <;> first | exact ⟨rfl, rfl⟩ | exact rfl) ?_
    rw [ifB_bool, if_pos rfl]
    refine rvS (v := odV zOd) (w' := w2) (by simp [go_sem, odV, odC, zOd]) ?_
    obtain ⟨w3, e3, b3, m3⟩ := setOd (o' := zOd) b2
    refine ruS e3 ?_
    refine rdWS (ldOd (o := zOd) (At.all b3)) ?_
    have M2 := m1.trans m2
    exact hK F _ ((h.mod M2 fun _ _ h => h).mod m3 fun b hb e => by have := pF hb; omega) ((toF M2).on m3 fun b hb => .inr (by omega)) fun b hb => .inl hb
  · have b2 := m2.hpk b1 id
    have h2 := h1.mod m2 fun _ _ h => h
    obtain ⟨⟨sl, c1, c2, c3, c4⟩, c5, c6⟩ := id h2
    obtain ⟨b, cap, hsl, hix, hld⟩ := c2.load hi
    rw [hg, sdDel_idx hidx] at hK
    refine rvS (by simp [-Int.natCast_add, go_sem] <;> first | exact ⟨rfl, rfl⟩ | exact rfl) ?_
    refine rvS (by simp [-Int.natCast_add, go_sem] <;> first | exact ⟨rfl, rfl⟩ | exact rfl) ?_
    refine rvS (v := .bool false) (by simp [go_sem] <;> first | exact ⟨rfl, rfl⟩ | exact rfl) ?_
    rw [ifB_bool, if_neg Bool.false_ne_true]
    simp only [sptr, nilK_ptr]
    refine rvS (by simp [-Int.natCast_add, go_sem, c1] <;> first | exact ⟨rfl, rfl⟩ | exact rfl) ?_
    refine rvS (by simp [-Int.natCast_add, go_sem, c1] <;> first | exact ⟨rfl, rfl⟩ | exact rfl) ?_
    refine rvS (hix _) ?_
    refine rvS hld ?_
    obtain ⟨w3, e3, b3, m3⟩ := newOd w2
    refine rvS e3 ?_
    obtain ⟨q, hq0⟩ : ∃ q, q = w2.heap.size := ⟨_, rfl⟩
    rw [← hq0] at b3 ⊢
    obtain ⟨w4, e4, b4, m4⟩ := setOd (o' := l[i]) b3
    refine ruS e4 ?_
    have M4 : Mod (fun _ => False) w2 w4 := m3.on m4 fun b hb => .inr (by omega)
    have c1' := M4.hpk c1 id
    have b4' := M4.hpk b2 id
    have c2' := c2.mod M4 fun _ _ h => h
    refine rvS (by simp [-Int.natCast_add, go_sem, c1'] <;> first | exact ⟨rfl, rfl⟩ | exact rfl) ?_
    refine rvS (by simp [-Int.natCast_add, go_sem, c1'] <;> first | exact ⟨rfl, rfl⟩ | exact rfl) ?_
    refine rvS (v := .int .i64 ((i + 1 : Nat) : Int)) (w' := w4) (by simp [go_sem]; rw [wrapI (by omega) (by omega)]) ?_
    refine ca_deleteOd c2' (Nat.lt_succ_self i) hi (by omega) fun s5 w5 o5 m5 n5 => ?_
    obtain ⟨sa, sc, hs5, -⟩ := o5.isSl
    have hsn : ¬ inSl sl s := c4
    have hpn : ¬ inSl sl p := fun hb => by have := pF ((c3 p).2 (.inr hb)); omega
    have hqn : ¬ inSl sl q := fun hb => by have := c2.lt hb; omega
    have c5' := m5.hpk c1' hsn
    have p5 := m5.hpk b4' hpn
    have q5 := m5.hpk b4 hqn
    refine rvS (by simp [-Int.natCast_add, go_sem, c5'] <;> first | exact ⟨rfl, rfl⟩ | exact rfl) ?_
    obtain ⟨w6, e6, b6, m6⟩ := stSide (v := s5) c5' ⟨_, _, _, hs5⟩
    refine ruS e6 ?_
    have hsp : s < p := pF h.self
    have hpq : p < q := by have := lt_of_heap b2; omega
    have q6 := m6.hpk q5 (by omega)
    have p6 := m6.hpk p5 (by omega)
    refine rvS (ldOd (o := l[i]) (At.all q6)) ?_
    obtain ⟨w7, e7, b7, m7⟩ := setOd (o' := l[i]) p6
    refine ruS e7 ?_
    refine rdWS (ldOd (o := l[i]) (At.all b7)) ?_
    have s7 := m7.hpk b6 (by omega)
    have o6 : OdS w6 s5 (l.take i ++ l.drop (i + 1)) := o5.mod m6 fun b hb e => c4 (by rw [← e]; exact n5 b hb)
    have o7 : OdS w7 s5 (l.take i ++ l.drop (i + 1)) := o6.mod m7 fun b hb e => hpn (by rw [← e]; exact n5 b hb)
    have MF : Mod F w w7 := by
      have a1 := toF ((m1.trans m2).trans M4)
      have a2 : Mod F w w5 := a1.on m5 fun b hb => .inl ((c3 b).2 (.inr hb))
      have a3 : Mod F w w6 := a2.on m6 fun b hb => .inl (by rw [hb]; exact h.self)
      exact a3.on m7 fun b hb => .inr (by omega)
    refine hK (fun b => b = s ∨ inSl s5 b) w7 ⟨⟨s5, s7, o7, fun b => Iff.rfl, fun hb => c4 (n5 s hb)⟩, ?_, ?_⟩ MF fun b hb => ?_
    · rw [← sdDel_idx hidx]
      exact Nat.le_trans (sdDel_len l n) c5
    · intro o ho
      rw [← sdDel_idx hidx] at ho
      exact c6 o (sdDel_mem ho)
    · rcases hb with rfl | hb
      · exact .inl h.self
      · exact .inl ((c3 b).2 (.inr (n5 b hb)))
end Go.Proofs
namespace Go.Proofs
open Go Go.Vc
attribute [local congr] Ca_congV
theorem flat_setLeft : ∀ (l : List Od) (i : Nat) (hi : i < l.length) (x : Int), (l.flatMap odC).set (i * 5 + 4) (.int .i64 x) = (l.set i { l[i] with left := x }).flatMap odC
  | o :: l, 0, _, x => rfl
  | o :: l, i + 1, hi, x => by
    have e : (i + 1) * 5 + 4 = (odC o).length + (i * 5 + 4) := by rw [odC_len]; omega
    rw [List.flatMap_cons, e, List.set_append_right _ _ (by omega), Nat.add_sub_cancel_left, flat_setLeft l i (by simpa using hi) x]
    simp
theorem OdS.setLeft {w : World} {sl : Value} {l : List Od} (h : OdS w sl l) {i : Nat} (hi : i < l.length) (x : Int) :
    ∃ b cap w', sl = .slice (some ⟨b, 0, none⟩) l.length cap ∧ (∀ k : IntKind, (Instr.indexAt tOds sl (.int k (i : Int))).run Tryz.prog w = .ok (.pointer (some ⟨b, i * 5, none⟩)) w) ∧
      (Instr.fieldAt tOd (.pointer (some ⟨b, i * 5, none⟩)) 4).run Tryz.prog w = .ok (.pointer (some ⟨b, i * 5 + 4, none⟩)) w ∧ (Instr.loadAt 2 (.pointer (some ⟨b, i * 5 + 4, none⟩))).run Tryz.prog w = .ok (.int .i64 l[i].left) w ∧
      (Instr.storeAt 2 (.pointer (some ⟨b, i * 5 + 4, none⟩)) (.int .i64 x)).run Tryz.prog w = .ok () w' ∧ OdS w' sl (l.set i { l[i] with left := x }) ∧ Mod (inSl sl) w w' := by
  obtain ⟨b, cap, rest, rfl, hc, hb, hrl, hr1⟩ := h.pos (by omega)
  have hl := h.1
  have hcell : (l.flatMap odC ++ rest)[i * 5 + 4]? = some (.int .i64 l[i].left) := by
    rw [List.getElem?_append_left (by rw [hl]; omega)]
    have h1 := flat_get odC 5 l i (fun x _ => odC_len x) hi
    have h2 : (((l.flatMap odC).drop (i * 5)).take 5)[4]? = (odC l[i])[4]? := by rw [h1]
    rw [List.getElem?_take, if_pos (by omega), List.getElem?_drop] at h2
    rw [h2]; rfl
  have hset : ((l.flatMap odC ++ rest).toArray.setIfInBounds (i * 5 + 4) (.int .i64 x)) = ((l.set i { l[i] with left := x }).flatMap odC ++ rest).toArray := by
    rw [List.setIfInBounds_toArray, List.set_append_left _ _ (by rw [hl]; omega), flat_setLeft l i hi x]
  refine ⟨b, cap, w.setCell ⟨b, i * 5 + 4, none⟩ (.int .i64 x), rfl, fun k => by simp [go_sem, hi, addr_add, uOds], by simp [go_sem, addr_add], by simp [go_sem, hp_of hb, hcell], by simp [go_sem, hp_of hb, hcell], ⟨by rw [flL odC_len, List.length_set], .inr ⟨b, cap, rest, by rw [List.length_set], by rw [List.length_set]; exact hc, ?_, by rw [List.length_set]; exact hrl, hr1⟩⟩, (Mod.refl _ w).setCell (.inl (show inSl (.slice (some ⟨b, 0, none⟩) l.length cap) b from rfl)) _ _⟩
  rw [heap_setCell, if_pos rfl, hb, setObj1_cells, hset]
theorem ca_sfill {w : World} {K : Kont} {s : Nat} {F : Nat → Prop} {buy : Bool} {o : Od} {r : List Od} {n : Int} (h : SideQ w s F buy (o :: r)) (h1 : 1 ≤ n) (h2 : n ≤ o.left)
    (hK : ∀ F' w', SideQ w' s F' buy (sdFill (o :: r) n) → Mod F w w' → (∀ b, F' b → F b ∨ w.heap.size ≤ b) → K (.tuple #[odV { o with left := o.left - n }, .int .i64 0]) w') : Ca Tryz.prog 273 #[sptr s, .int .i64 n] w K := by
  have hob := h.may o (by simp)
  have hm : 1 ≤ o.left ∧ o.left ≤ 1000000 := by
    have := hob.1
    unfold Od.may at this
    simp only [Bool.and_eq_true] at this
    exact of_decide_eq_true this.2
  apply ca273
  unfold F273
  obtain ⟨w1, e1, b1, m1⟩ := newOd w
  refine rvS e1 ?_
  obtain ⟨p, hp0⟩ : ∃ p, p = w.heap.size := ⟨_, rfl⟩
  rw [← hp0] at b1 ⊢
  have q1 := h.mod m1 fun _ _ h => h
  have toF : ∀ {W W' : World}, Mod (fun _ => False) W W' → Mod F W W' := fun m => m.mono fun _ _ h => h.elim
  have pF : ∀ {b}, F b → b < p := fun hb => by rw [hp0]; exact h.lt hb
  have hsp : s < p := pF h.self
  obtain ⟨⟨sl, c1, c2, c3, c4⟩, c5, c6⟩ := id q1
  obtain ⟨sa, sc, hsl, -⟩ := c2.isSl
  have hpn : ¬ inSl sl p := fun hb => by have := pF ((c3 p).2 (.inr hb)); omega
  obtain ⟨b, cap, w2, hsl', hix, hfa, hld, hst, o2, m2⟩ := c2.setLeft (i := 0) (by simp) (o.left - n)
  simp only [List.getElem_cons_zero, Nat.zero_mul, Nat.zero_add, List.set_cons_zero] at hix hfa hld hst o2
  refine ca_sready q1 ?_
  refine rvS (v := .bool false) (by simp [go_sem] <;> first | exact ⟨rfl, rfl⟩ | exact rfl) ?_
  rw [ifB_bool, if_neg Bool.false_ne_true]
  simp only [sptr, nilK_ptr]
  refine rvS (by simp [-Int.natCast_add, go_sem, c1] <;> first | exact ⟨rfl, rfl⟩ | exact rfl) ?_
  refine rvS (by simp [-Int.natCast_add, go_sem, c1] <;> first | exact ⟨rfl, rfl⟩ | exact rfl) ?_
  refine rnS (v := .int .i64 ((o :: r).length : Int)) (w' := w1) (by rw [hsl]; simp [go_sem]) ?_
  have hne : ¬ (((o :: r).length : Nat) : Int) = 0 := by simp; omega
  refine rvS (v := .bool false) (w' := w1) (by simp only [go_sem]; simp; omega) ?_
  rw [ifB_bool, if_neg Bool.false_ne_true]
  refine JoinW.at (fun st W => st = (.bool false, ()) ∧ W = w1) ?_ ?_
  · have h1' : ¬ n < 1 := by omega
    refine rvS (v := .bool false) (by simp [go_sem, h1'] <;> first | exact ⟨rfl, rfl⟩ | exact rfl) ?_
    rw [ifB_bool, if_neg Bool.false_ne_true]
    refine rvS (by simp [-Int.natCast_add, go_sem, c1] <;> first | exact ⟨rfl, rfl⟩ | exact rfl) ?_
    refine rvS (by simp [-Int.natCast_add, go_sem, c1] <;> first | exact ⟨rfl, rfl⟩ | exact rfl) ?_
    refine rvS (hix .i64) (rvS hfa (rvS hld ?_))
    have h2' : ¬ o.left < n := by omega
    refine rvS (v := .bool false) (w' := w1) (by simp [go_sem, h2']) ?_
    exact ⟨rfl, rfl⟩
  rintro _ w1 ⟨rfl, rfl⟩
  unfold J273_1
  intro _
  rw [ifB_bool, if_neg Bool.false_ne_true]
  simp only [nilK_ptr]
  refine rvS (by simp [-Int.natCast_add, go_sem, c1] <;> first | exact ⟨rfl, rfl⟩ | exact rfl) ?_
  refine rvS (by simp [-Int.natCast_add, go_sem, c1] <;> first | exact ⟨rfl, rfl⟩ | exact rfl) ?_
  refine rvS (hix .i64) (rvS hfa (rvS hld ?_))
  refine rvS (v := .int .i64 (o.left - n)) (w' := w1) (by simp [go_sem]; rw [wrapI (by omega) (by omega)]) ?_
  refine rvS (hix .i64) (rvS hfa ?_)
  refine ruS hst ?_
  have c1' := m2.hpk c1 c4
  have p2 := m2.hpk b1 hpn
  refine rvS (by simp [-Int.natCast_add, go_sem, c1'] <;> first | exact ⟨rfl, rfl⟩ | exact rfl) ?_
  refine rvS (by simp [-Int.natCast_add, go_sem, c1'] <;> first | exact ⟨rfl, rfl⟩ | exact rfl) ?_
  obtain ⟨b', cap', hsl2, hix2, hld2⟩ := o2.load (i := 0) (by simp)
  refine rvS (hix2 .i64) (rvS hld2 ?_)
  simp only [List.getElem_cons_zero]
  obtain ⟨w3, e3, b3, m3⟩ := newOd w2
  refine rvS e3 ?_
  obtain ⟨q, hq0⟩ : ∃ q, q = w2.heap.size := ⟨_, rfl⟩
  rw [← hq0] at b3 ⊢
  obtain ⟨w4, e4, b4, m4⟩ := setOd (o' := { o with left := o.left - n }) b3
  refine ruS e4 ?_
  have M4 : Mod (fun _ => False) w2 w4 := m3.on m4 fun b hb => .inr (by omega)
  have c4' := M4.hpk c1' id
  have p4 := M4.hpk p2 id
  have o4 := o2.mod M4 fun _ _ h => h
  have hpq : p < q := by have := lt_of_heap p2; omega
  have hqn : ¬ inSl sl q := fun hb => by have := c2.lt hb; have := m2.size; omega
  have MF4 : Mod F w w4 := ((toF m1).on m2 fun b hb => .inl ((c3 b).2 (.inr hb))).trans (toF M4)
  
  have fin : ∀ (l' : List Od) (s5 : Value) (W : World), hp W s = some (.cells #[.bool true, .bool buy, s5] 320 (0, 0)) → OdS W s5 l' → (∀ b, inSl s5 b → inSl sl b) → hp W q = some (.cells (odC { o with left := o.left - n }).toArray tOd (0, 0)) → hp W p = some (.cells (odC zOd).toArray tOd (0, 0)) →
      Mod F w W → l' = sdFill (o :: r) n → J273_0 (.pointer (some ⟨q, 0, none⟩)) (.pointer (some ⟨p, 0, none⟩)) K () W := by
    intro l' s5 W k1 k2 k3 k4 k5 k6 k7
    unfold J273_0
    intro _
    refine rvS (ldOd (o := { o with left := o.left - n }) (At.all k4)) ?_
    obtain ⟨w7, e7, b7, m7⟩ := setOd (o' := { o with left := o.left - n }) k5
    refine ruS e7 ?_
    refine rdWS (ldOd (o := { o with left := o.left - n }) (At.all b7)) ?_
    have s7 := m7.hpk k1 (by omega)
    have o7 : OdS w7 s5 l' := k2.mod m7 fun b hb e => hpn (by rw [← e]; exact k3 b hb)
    subst k7
    refine hK (fun b => b = s ∨ inSl s5 b) w7 ⟨⟨s5, s7, o7, fun b => Iff.rfl, fun hb => c4 (k3 s hb)⟩, ?_, ?_⟩ (k6.on m7 fun b hb => .inr (by omega)) fun b hb => ?_
    · unfold sdFill
      simp only
      have := c5
      simp only [List.length_cons] at this
      split
      · omega
      · simp only [List.length_cons]; omega
    · intro x hx
      unfold sdFill at hx
      simp only at hx
      by_cases h0 : o.left - n = 0
      · rw [if_pos h0] at hx
        exact c6 x (List.mem_cons_of_mem _ hx)
      · rw [if_neg h0] at hx
        rcases List.mem_cons.1 hx with rfl | hx
        · obtain ⟨a1, a2, a3⟩ := hob
          refine ⟨?_, a2, a3.1, a3.2.1, a3.2.2.1, by unfold R64'; simp only; omega⟩
          unfold Od.may at a1 ⊢
          simp only [Bool.and_eq_true] at a1 ⊢
          exact ⟨a1.1, by unfold amongB; rw [decide_eq_true_eq]; omega⟩
        · exact c6 x (List.mem_cons_of_mem _ hx)
    · rcases hb with rfl | hb
      · exact .inl h.self
      · exact .inl ((c3 b).2 (.inr (k3 b hb)))
  refine JoinW.at (fun st W => ∃ s5 l', hp W s = some (.cells #[.bool true, .bool buy, s5] 320 (0, 0)) ∧ OdS W s5 l' ∧ (∀ b, inSl s5 b → inSl sl b) ∧ hp W q = some (.cells (odC { o with left := o.left - n }).toArray tOd (0, 0)) ∧ hp W p = some (.cells (odC zOd).toArray tOd (0, 0)) ∧ Mod F w W ∧ l' = sdFill (o :: r) n) ?_ ?_
  · have q4 := b4
    unfold odC at q4
    refine rvS (by simp [-Int.natCast_add, go_sem, q4] <;> first | exact ⟨rfl, rfl⟩ | exact rfl) ?_
    refine rvS (by simp [-Int.natCast_add, go_sem, q4] <;> first | exact ⟨rfl, rfl⟩ | exact rfl) ?_
    by_cases h0 : o.left - n = 0
    · refine rvS (v := .bool true) (by simp [go_sem, h0] <;> first | exact ⟨rfl, rfl⟩ | exact rfl) ?_
      rw [ifB_bool, if_pos rfl]
      refine rvS (by simp [-Int.natCast_add, go_sem, c4'] <;> first | exact ⟨rfl, rfl⟩ | exact rfl) ?_
      refine rvS (by simp [-Int.natCast_add, go_sem, c4'] <;> first | exact ⟨rfl, rfl⟩ | exact rfl) ?_
      refine ca_deleteOd (i := 0) (j := 1) o4 (by omega) (by simp) (by simp only [List.length_cons] at c5 ⊢; omega) fun s5 w5 o5 m5 n5 => ?_
      obtain ⟨xa, xc, hs5, -⟩ := o5.isSl
      have c5' := m5.hpk c4' c4
      refine rvS (by simp [-Int.natCast_add, go_sem, c5'] <;> first | exact ⟨rfl, rfl⟩ | exact rfl) ?_
      obtain ⟨w6, e6, b6, m6⟩ := stSide (v := s5) c5' ⟨_, _, _, hs5⟩
      refine ruS e6 ?_
      refine ⟨s5, _, b6, o5.mod m6 fun b hb e => c4 (by rw [← e]; exact n5 b hb), n5, m6.hpk (m5.hpk b4 hqn) (by omega), m6.hpk (m5.hpk p4 hpn) (by omega), (MF4.on m5 fun b hb => .inl ((c3 b).2 (.inr hb))).on m6 fun b hb => .inl (by rw [hb]; exact h.self), ?_⟩
      unfold sdFill
      simp [h0]
    · refine rvS (v := .bool false) (by simp [go_sem, h0] <;> first | exact ⟨rfl, rfl⟩ | exact rfl) ?_
      rw [ifB_bool, if_neg Bool.false_ne_true]
      refine ⟨sl, _, c4', o4, fun b hb => hb, b4, p4, MF4, ?_⟩
      unfold sdFill
      simp [h0]
  · rintro ⟨⟩ W ⟨s5, l', k1, k2, k3, k4, k5, k6, k7⟩
    exact fin l' s5 W k1 k2 k3 k4 k5 k6 k7
end Go.Proofs
namespace Go.Proofs
open Go Go.Vc
attribute [local congr] Ca_congV
theorem idx_isSome {l : List Od} {n : Int} : (l.findIdx? fun x => decide (x.num = n)).isSome = l.any fun x => decide (x.num = n) := by
  rw [List.findIdx?_isSome]
set_option maxRecDepth 10000 in
theorem ca_sadd {w : World} {K : Kont} {s : Nat} {F : Nat → Prop} {buy : Bool} {l : List Od} {o : Od} (h : SideQ w s F buy l) (hof : o.Fit)
    (hK : ∀ F' w', SideQ w' s F' buy (sdAdd buy l o).2 → Mod F w w' → (∀ b, F' b → F b ∨ w.heap.size ≤ b) → K (.int .i64 (sdAdd buy l o).1) w') : Ca Tryz.prog 274 #[sptr s, odV o] w K := by
  apply ca274
  unfold F274
  have toF : ∀ {W W' : World}, Mod (fun _ => False) W W' → Mod F W W' := fun m => m.mono fun _ _ h => h.elim
  have m0 : Mod (fun _ => False) w (w.alloc (.cells #[sptr s] 228)) := (Mod.refl _ w).alloc _
  obtain ⟨p, hp0⟩ : ∃ p, p = w.heap.size := ⟨_, rfl⟩
  refine rvS (v := .pointer (some ⟨p, 0, none⟩)) (w' := w.alloc (.cells #[sptr s] 228)) (by rw [hp0]; simp [go_sem, sptr]) ?_
  have b0 : hp (w.alloc (.cells #[sptr s] 228)) p = some (.cells #[sptr s] 228 (0, 0)) := by rw [hp0]; simp [go_sem]
  generalize w.alloc (.cells #[sptr s] 228) = w0 at m0 b0 ⊢
  obtain ⟨w1, e1, b1, m1⟩ := boxOd o w0
  refine rvS e1 ?_
  obtain ⟨q, hq0⟩ : ∃ q, q = w0.heap.size := ⟨_, rfl⟩
  rw [← hq0] at b1 ⊢
  have p1 := m1.hpk b0 id
  have M1 := m0.trans m1
  have h1 := h.mod M1 fun _ _ h => h
  have hpq : p < q := by have := lt_of_heap b0; omega
  have pF : ∀ {b}, F b → b < p := fun hb => by rw [hp0]; exact h.lt hb
  
  have ldp : ∀ {W}, Mod (fun _ => False) w1 W → hp W p = some (.cells #[sptr s] 228 (0, 0)) := fun m => m.hpk p1 id
  have ldq : ∀ {W}, Mod (fun _ => False) w1 W → hp W q = some (.cells (odC o).toArray tOd (0, 0)) := fun m => m.hpk b1 id
  refine rvS (by simp [-Int.natCast_add, go_sem, p1] <;> first | exact ⟨rfl, rfl⟩ | exact rfl) ?_
  refine ca_sready h1 ?_
  refine rvS (v := .bool false) (by simp [go_sem] <;> first | exact ⟨rfl, rfl⟩ | exact rfl) ?_
  rw [ifB_bool, if_neg Bool.false_ne_true]
  refine JoinW.at (fun st W => st = (.bool (decide (¬ o.may ∨ o.buy ≠ buy)), ()) ∧ Mod (fun _ => False) w1 W) ?_ ?_
  · have md : Mod (fun _ => False) w1 w1.drew := (Mod.refl _ w1).drew
    refine rdWS (ldOd (o := o) (At.all (ldq md))) ?_
    refine ca_omay fun w2 m2 => ?_
    have M2 := md.trans m2
    refine rdPS (v := .bool (!o.may)) (fun W => by simp [go_sem]) ?_
    cases hm : o.may with
    | false =>
      rw [ifB_bool, if_pos (by simp)]
      exact ⟨by simp, M2⟩
    | true =>
      rw [ifB_bool, if_neg (by simp)]
      have q2 := ldq M2
      unfold odC at q2
      obtain ⟨⟨sl, c1, c2, c3, c4⟩, c5, c6⟩ := h1.mod M2 fun _ _ h => h
      have p2 := ldp M2
      refine rdPS (fun _ => by simp [-Int.natCast_add, go_sem] <;> first | exact ⟨rfl, rfl⟩ | exact rfl) ?_
      refine rdWS (by simp [-Int.natCast_add, go_sem, q2] <;> first | exact ⟨rfl, rfl⟩ | exact rfl) ?_
      refine rdWS (v := sptr s) (by simp [go_sem, p2]) ?_
      simp only [sptr, nilK_ptr]
      refine rdPS (fun _ => by simp [-Int.natCast_add, go_sem] <;> first | exact ⟨rfl, rfl⟩ | exact rfl) ?_
      refine rdWS (by simp [-Int.natCast_add, go_sem, c1] <;> first | exact ⟨rfl, rfl⟩ | exact rfl) ?_
      refine rdPS (v := .bool (decide (o.buy ≠ buy))) (fun W => by cases o.buy <;> cases buy <;> simp [go_sem]) ?_
      exact ⟨by simp, M2⟩
  rintro _ w2 ⟨rfl, m2⟩
  unfold J274_1
  intro _
  have M2 := M1.trans m2
  have h2 := h1.mod m2 fun _ _ h => h
  by_cases hbad : ¬ o.may ∨ o.buy ≠ buy
  · have hr : sdAdd buy l o = (2, l) := by unfold sdAdd; rw [if_pos hbad]
    rw [hr] at hK
    rw [ifB_bool, if_pos (by simpa using hbad)]
    exact hK F _ h2 (toF M2) fun b hb => .inl hb
  rw [ifB_bool, if_neg (by simpa using hbad)]
  have p2 := ldp m2
  have q2 := ldq m2
  refine rvS (by simp [-Int.natCast_add, go_sem, p2] <;> first | exact ⟨rfl, rfl⟩ | exact rfl) ?_
  unfold odC at q2
  refine rvS (by simp [-Int.natCast_add, go_sem, q2] <;> first | exact ⟨rfl, rfl⟩ | exact rfl) ?_
  refine rvS (by simp [-Int.natCast_add, go_sem, q2] <;> first | exact ⟨rfl, rfl⟩ | exact rfl) ?_
  refine ca_sat h2 fun w3 m3 => ?_
  have M3 := m2.trans m3
  have MW3 := M1.trans M3
  have h3 := h2.mod m3 fun _ _ h => h
  by_cases hth : (l.any fun x => decide (x.num = o.num)) = true
  · have hr : sdAdd buy l o = (8, l) := by unfold sdAdd; rw [if_neg hbad, if_pos hth]
    rw [hr] at hK
    rw [← idx_isSome] at hth
    obtain ⟨i, hi⟩ := Option.isSome_iff_exists.1 hth
    obtain ⟨_, _, _, e⟩ := idx_some hi
    rw [e]
    refine rvS (v := .bool true) (by simp [go_sem] <;> first | exact ⟨rfl, rfl⟩ | exact rfl) ?_
    rw [ifB_bool, if_pos rfl]
    exact hK F _ h3 (toF MW3) fun b hb => .inl hb
  have hno : (l.findIdx? fun x => decide (x.num = o.num)) = none := by
    cases hh : l.findIdx? fun x => decide (x.num = o.num) with
    | none => rfl
    | some i => exact absurd (by rw [← idx_isSome, hh]; rfl) hth
  rw [(idx_none hno).2]
  refine rvS (v := .bool false) (by simp [go_sem] <;> first | exact ⟨rfl, rfl⟩ | exact rfl) ?_
  rw [ifB_bool, if_neg Bool.false_ne_true]
  obtain ⟨⟨sl, c1, c2, c3, c4⟩, c5, c6⟩ := id h3
  obtain ⟨sa, sc, hsl, -⟩ := c2.isSl
  have p3 := ldp M3
  refine rvS (v := sptr s) (w' := w3) (by simp [go_sem, p3]) ?_
  simp only [sptr, nilK_ptr]
  refine rvS (by simp [-Int.natCast_add, go_sem, c1] <;> first | exact ⟨rfl, rfl⟩ | exact rfl) ?_
  refine rvS (by simp [-Int.natCast_add, go_sem, c1] <;> first | exact ⟨rfl, rfl⟩ | exact rfl) ?_
  refine rnS (v := .int .i64 (l.length : Int)) (w' := w3) (by rw [hsl]; simp [go_sem]) ?_
  by_cases hfull : 100 ≤ l.length
  · have hr : sdAdd buy l o = (9, l) := by unfold sdAdd; rw [if_neg hbad, if_neg hth, if_pos hfull]
    rw [hr] at hK
    have hfull' : (100 : Int) ≤ (l.length : Int) := by omega
    refine rvS (v := .bool true) (by simp [go_sem, hfull'] <;> first | exact ⟨rfl, rfl⟩ | exact rfl) ?_
    rw [ifB_bool, if_pos rfl]
    exact hK F _ h3 (toF MW3) fun b hb => .inl hb
  have hfull' : ¬ (100 : Int) ≤ (l.length : Int) := by omega
  refine rvS (v := .bool false) (by simp [go_sem, hfull'] <;> first | exact ⟨rfl, rfl⟩ | exact rfl) ?_
  rw [ifB_bool, if_neg Bool.false_ne_true]
  have hr : sdAdd buy l o = (0, sdIns buy l o) := by unfold sdAdd; rw [if_neg hbad, if_neg hth, if_neg hfull]
  rw [hr] at hK
  refine rvS (v := sptr s) (w' := w3) (by simp [go_sem, p3]) ?_
  simp only [sptr, nilK_ptr]
  refine rvS (by simp [-Int.natCast_add, go_sem, c1] <;> first | exact ⟨rfl, rfl⟩ | exact rfl) ?_
  refine rvS (by simp [-Int.natCast_add, go_sem, c1] <;> first | exact ⟨rfl, rfl⟩ | exact rfl) ?_
  refine ca_indexOd (p := fun x => betterB buy o.price x.price) c2.rd (by omega) ⟨_, _, rfl, fun x hx W mW K' hK' => ?_⟩ fun w4 m4 => ?_
  · apply ca311
    unfold F311
    obtain ⟨W1, e1, d1, n1⟩ := boxOd x W
    refine rvS e1 ?_
    have MW := (M3.trans mW).trans n1
    have pW := ldp MW
    have qW := ldq MW
    unfold odC at d1 qW
    refine rvS (v := sptr s) (w' := W1) (by simp [go_sem, pW]) ?_
    refine rvS (by simp [-Int.natCast_add, go_sem, qW] <;> first | exact ⟨rfl, rfl⟩ | exact rfl) ?_
    refine rvS (by simp [-Int.natCast_add, go_sem, qW] <;> first | exact ⟨rfl, rfl⟩ | exact rfl) ?_
    refine rvS (by simp [-Int.natCast_add, go_sem, d1] <;> first | exact ⟨rfl, rfl⟩ | exact rfl) ?_
    refine rvS (by simp [-Int.natCast_add, go_sem, d1] <;> first | exact ⟨rfl, rfl⟩ | exact rfl) ?_
    refine ca_sbetter (h1.mod MW fun _ _ h => h) ?_
    exact hK' _ n1
  have M4 := M3.trans m4
  have h4 := h3.mod m4 fun _ _ h => h
  have c1' := m4.hpk c1 id
  have hat : sdAt buy l o.price ≤ l.length := by
    unfold sdAt
    cases hh : l.findIdx? fun x => betterB buy o.price x.price with
    | none => exact Nat.le_refl _
    | some i =>
      obtain ⟨hi, _⟩ := idx_some hh
      simp only [Option.getD_some]; omega
  refine JoinW.at (fun st W => st = (.int .i64 (sdAt buy l o.price : Nat), ()) ∧ W = w4) ?_ ?_
  · cases hh : l.findIdx? fun x => betterB buy o.price x.price with
    | none =>
      rw [(idx_none hh).2]
      refine rvS (v := .bool true) (by simp [go_sem] <;> first | exact ⟨rfl, rfl⟩ | exact rfl) ?_
      rw [ifB_bool, if_pos rfl]
      have p4 := ldp M4
      refine rvS (v := sptr s) (w' := w4) (by simp [go_sem, p4]) ?_
      simp only [sptr, nilK_ptr]
      refine rvS (by simp [-Int.natCast_add, go_sem, c1'] <;> first | exact ⟨rfl, rfl⟩ | exact rfl) ?_
      refine rvS (by simp [-Int.natCast_add, go_sem, c1'] <;> first | exact ⟨rfl, rfl⟩ | exact rfl) ?_
      refine rnS (v := .int .i64 (l.length : Int)) (w' := w4) (by rw [hsl]; simp [go_sem]) ?_
      refine ⟨?_, rfl⟩
      unfold sdAt
      rw [hh]; rfl
    | some i =>
      obtain ⟨_, _, _, e⟩ := idx_some hh
      rw [e]
      refine rvS (v := .bool false) (by simp [go_sem] <;> first | exact ⟨rfl, rfl⟩ | exact rfl) ?_
      rw [ifB_bool, if_neg Bool.false_ne_true]
      refine ⟨?_, rfl⟩
      unfold sdAt
      rw [hh]; rfl
  rintro _ w4 ⟨rfl, rfl⟩
  unfold J274_0
  intro _
  have md : Mod (fun _ => False) w4 w4.drew := (Mod.refl _ w4).drew
  have pd := ldp (M4.trans md)
  have qd := ldq (M4.trans md)
  have cd := md.hpk c1' id
  refine rdWS (v := sptr s) (by simp [go_sem, pd]) ?_
  refine rdWS (v := sptr s) (by simp [go_sem, pd]) ?_
  simp only [sptr, nilK_ptr]
  refine rdPS (fun _ => by simp [-Int.natCast_add, go_sem] <;> first | exact ⟨rfl, rfl⟩ | exact rfl) ?_
  refine rdWS (by simp [-Int.natCast_add, go_sem, cd] <;> first | exact ⟨rfl, rfl⟩ | exact rfl) ?_
  refine rdWS (ldOd (o := o) (At.all qd)) ?_
  refine rx_lit [odV o] uOds (elemT_of eOd) rfl rfl (by intro v hv; rw [List.mem_singleton.1 hv]; rfl) (by omega) ?_
  have e0 : (([odV o] : List Value).flatMap (·.cells.toList)).toArray = (odC o).toArray := rfl
  rw [e0]
  have m5 : Mod (fun _ => False) w4.drew (w4.drew.alloc (.cells (odC o).toArray tOd)) := (Mod.refl _ w4.drew).alloc _
  have M5 := md.trans m5
  have hv5 : OdS (w4.drew.alloc (.cells (odC o).toArray tOd)) (.slice (some ⟨w4.drew.heap.size, 0, none⟩) 1 1) [o] :=
    ⟨rfl, .inr ⟨_, 1, [], rfl, Nat.le_refl _, by rw [heap_alloc, if_pos rfl]; simp, by simp, by simp⟩⟩
  have hnew : ∀ b, inSl (.slice (some ⟨w4.drew.heap.size, 0, none⟩) 1 1) b → b = w4.drew.heap.size := fun b hb => by cases hb; rfl
  generalize w4.drew.alloc (.cells (odC o).toArray tOd) = w5 at m5 M5 hv5 ⊢
  have p5 := ldp (M4.trans M5)
  have c5' := M5.hpk c1' id
  refine ⟨by simp [go_sem, c5'], by simp [go_sem, p5, sptr], by simp [go_sem, p5, sptr], ?_⟩
  obtain ⟨⟨sl5, k1, k2, k3, k4⟩, k5, k6⟩ := h4.mod M5 fun _ _ h => h
  have esl : sl5 = sl := by
    have := c5'.symm.trans k1
    simp only [Option.some.injEq, Obj.cells.injEq] at this
    have := congrArg (fun a : Array Value => a[2]?) this.1
    simp at this
    exact this.symm
  subst esl
  have hslt : ∀ b, inSl sl5 b → b < w3.heap.size := fun b hb => c2.lt hb
  have hsz43 := m4.size
  refine ca_insertOd k2 hv5 (fun b hb hb' => by have h1 := hslt b hb; have h2 := hnew b hb'; rw [size_drew] at h2; omega) hat (by omega) fun s6 w6 o6 m6 n6 => ?_
  obtain ⟨xa, xc, hs6, -⟩ := o6.isSl
  have hps : ¬ inSl sl5 p := fun hb => by have := pF ((k3 p).2 (.inr hb)); omega
  have p6 := m6.hpk p5 hps
  have c6' := m6.hpk c5' k4
  refine ⟨by simp [go_sem, p6, sptr], ?_⟩
  refine rdPS (fun _ => by simp [-Int.natCast_add, go_sem] <;> first | exact ⟨rfl, rfl⟩ | exact rfl) ?_
  obtain ⟨w7, e7, b7, m7⟩ := stSide (v := s6) c6' ⟨_, _, _, hs6⟩
  refine ruS e7 ?_
  have hM5 := M1.trans (M4.trans M5)
  have hss6 : ¬ inSl s6 s := fun hb => by
    rcases n6 s hb with h' | h'
    · exact k4 h'
    · have := pF h.self; have := hM5.size; omega
  have MF : Mod F w w7 := ((toF hM5).on m6 fun b hb => .inl ((k3 b).2 (.inr hb))).on m7 fun b hb => .inl (by rw [hb]; exact h.self)
  refine hK (fun b => b = s ∨ inSl s6 b) w7 ⟨⟨s6, b7, o6.mod m7 fun b hb e => hss6 (by rw [← e]; exact hb), fun b => Iff.rfl, hss6⟩, ?_, ?_⟩ MF fun b hb => ?_
  · unfold sdIns
    rw [List.length_append, List.length_take, List.length_cons, List.length_drop, Nat.min_eq_left hat]; omega
  · intro x hx
    unfold sdIns at hx
    rcases List.mem_append.1 hx with hx | hx
    · exact k6 x (List.mem_of_mem_take hx)
    · rcases List.mem_cons.1 hx with rfl | hx
      · have : x.may = true ∧ x.buy = buy := by
          constructor
          · apply Classical.byContradiction
            intro hc
            exact hbad (.inl hc)
          · apply Classical.byContradiction
            intro hc
            exact hbad (.inr hc)
        exact ⟨this.1, this.2, hof⟩
      · exact k6 x (List.mem_of_mem_drop hx)
  · rcases hb with rfl | hb
    · exact .inl h.self
    · rcases n6 b hb with h' | h'
      · exact .inl ((k3 b).2 (.inr h'))
      · have := hM5.size
        exact .inr (by omega)
end Go.Proofs
namespace Go.Proofs
open Go Go.Vc
theorem poE1 : elemOk Tryz.prog 112 4 24 = true := by kernel_rfl
end Go.Proofs
namespace Go.Vc
open Go Go.Shelf Go.RowKit Go.Lib Go.Sort Go.Proofs
theorem callFunc_enter {P : Program} (hP : NoNum P = true) {g : FuncId} (hb : ∃ fn, P.funcs[g]? = some fn ∧ fn.body.isSome = true) (args : Array Value) (w : World) : (callFunc g args).run P w = .ok (.enter g args) w := by
  obtain ⟨fn, hf, hb⟩ := hb
  have hname : (fn.name == "runtime.NumGoroutine") = false := by
    have := (Array.all_eq_true'.1 hP) fn (Array.mem_of_getElem? hf)
    simpa using this
  have hname' : ¬ fn.name = "runtime.NumGoroutine" := by simpa using hname
  have hnone' : ¬ fn.body = none := by intro hh; rw [hh] at hb; exact absurd hb (by simp)
  unfold callFunc
  simp [Sem.run_bind, Result.andThen, hf, hname', hnone']
theorem flatK_toList {α : Type} [Inhabited α] (enc : α → List Value) (k : Nat) (hk0 : 0 < k) (hk : ∀ x, (enc x).length = k) (d : Array α) : (flatK enc k d).toList = d.toList.flatMap enc := by
  have hl : (d.toList.flatMap enc).length = d.size * k := by rw [flat_len enc k _ fun x _ => hk x]; simp
  apply List.ext_getElem?
  intro t
  by_cases ht : t < d.size * k
  · have h1 : (flatK enc k d).toList[t]? = some (flatK enc k d)[t]! := by
      rw [Array.getElem?_toList, Array.getElem?_eq_getElem (by simpa using ht), getElem!_pos _ t (by simpa using ht)]
    rw [h1, get_flatK enc k d t ht]
    have hi : t / k < d.size := Nat.div_lt_of_lt_mul (by rw [Nat.mul_comm]; exact ht)
    have hj : t % k < k := Nat.mod_lt _ hk0
    have h2 := flat_get enc k d.toList (t / k) (fun x _ => hk x) (by simpa using hi)
    have h3 : (d.toList.flatMap enc)[t]? = ((d.toList.flatMap enc).drop (t / k * k) |>.take k)[t % k]? := by
      rw [List.getElem?_take, if_pos hj, List.getElem?_drop, Nat.div_add_mod']
    rw [h3, h2]
    have h4 : d[t / k]! = d.toList[t / k]'(by simpa using hi) := by
      rw [getElem!_pos d _ hi]; simp
    rw [h4, getElem!_pos _ _ (by rw [hk]; exact hj), List.getElem?_eq_getElem (by rw [hk]; exact hj)]
  · rw [List.getElem?_eq_none (by simp; omega), List.getElem?_eq_none (by omega)]
theorem putCells_row (F rest cs : List Value) (h : F.length = cs.length) : putCells id 0 F.toArray (cs ++ rest).toArray = (F ++ rest).toArray := by
  apply Array.ext_getElem?
  intro t
  simp only [putCells, Array.getElem?_mapIdx, List.getElem?_toArray, List.size_toArray, Nat.zero_le, true_and, Nat.zero_add, Nat.sub_zero, id]
  by_cases ht : t < F.length
  · rw [List.getElem?_append_left (by omega), List.getElem?_append_left ht, List.getElem?_eq_getElem (show t < cs.length by omega), Option.map_some, if_pos ht, List.getElem?_eq_getElem ht]
    rw [getElem!_pos _ t (by simpa using ht)]
    simp
  · rw [List.getElem?_append_right (by omega), List.getElem?_append_right (by omega), h]
    cases rest[t - cs.length]? with
    | none => rfl
    | some v => rw [Option.map_some, if_neg (by omega)]
section
variable {P : Program} {ρ : Ren} {α : Type} [Inhabited α]
theorem ca_sortK (hP : NoNum P = true) (L : SlLaysF0.n6 P ρ) (k : Nat) (aE : isAggT P (ρ.t 24) = true) (zE : P.cellsOf (ρ.t 24) = k + 1) (enc : α → List Value) (hk : ∀ x, (enc x).length = k + 1) (h1 : ∀ x, (enc x).all (·.oneCell') = true)
    (cf : α → α → Int) (hO : SWO (ltOf cf)) (g : Nat) (hcl : ∀ (x y : α) (W : World), Ca P g #[.agg (enc x).toArray, .agg (enc y).toArray] W fun v w' => v = .int .i64 (cf x y) ∧ ∃ q os, w' = grow (W.drewN q) os)
    {e : TypeId} {w : World} {sl : Value} {n : Nat} {d : List α} {K : Kont} (ho : Own w e (k + 1) sl n (d.flatMap enc)) (hn : n < 4611686018427387904)
    (hK : ∀ (w' : World) (d' : List α), Own w' e (k + 1) sl n (d'.flatMap enc) → d'.Perm d → d'.Pairwise (fun x y => ltOf cf y x = false) → Mod (inSl sl) w w' → K (.tuple #[]) w') :
    Ca P (ρ.f 6) #[sl, .func (.func g) #[] #[]] w K := by
  have hln : d.length = n := by
    have := ho.1
    rw [flat_len enc (k + 1) d fun x _ => hk x] at this
    exact Nat.eq_of_mul_eq_mul_right (Nat.succ_pos k) this
  obtain ⟨hl, ⟨rfl, rfl⟩ | ⟨b, cap, rest, rfl, hc, hh, hr, hr1⟩⟩ := ho
  · have hd : d = [] := List.length_eq_zero_iff.1 hln
    subst hd
    have := AnyF.slices_SortFunc_none L none 0 (.func (.func g) #[] #[]) w
    exact ⟨Calls.mono this fun e w' ⟨he, hw⟩ => ⟨_, he, by subst hw; exact hK _ [] (Own.nil ..) (List.Perm.refl _) List.Pairwise.nil (Mod.refl _ _)⟩⟩
  · have hb : b < w.heap.size := lt_of_heap hh
    have heg := callFunc_enter hP (hcl default default w).bodied
    have hH : HoldsK enc (k + 1) w b 0 d.toArray := by
      intro j hj
      rw [size_flatK] at hj
      have hF : (flatK enc (k + 1) d.toArray)[j]! = (d.flatMap enc)[j]'(by rw [hl, ← hln]; simpa using hj) := by
        rw [getElem!_pos _ j (by rw [size_flatK]; exact hj), ← Array.getElem_toList]
        congr 1
        exact flatK_toList enc (k + 1) (Nat.succ_pos k) hk d.toArray
      have hj' : j < (d.flatMap enc).length := by rw [hl, ← hln]; simpa using hj
      constructor
      · simp only [World.cell?, hh, Nat.zero_add]
        rw [hF]
        simp [List.getElem?_append_left hj']
      · simp [World.frozen?, hh]
    have hcmp : CmpLays P g #[] enc (k + 1) cf b 0 d.toArray.size w := fun m os dk _ x y => by
      refine Calls.mono (hcl x y _).out ?_
      rintro e w' ⟨v, rfl, rfl, hw⟩
      exact ⟨rfl, hw⟩
    have hcon := AnyQ.slices_SortFunc L (k + 1) (run_isAgg aE) (run_sizeOf zE) enc hk (fun x v hv => List.all_eq_true.1 (h1 x) v hv) cf hO g #[] b 0 cap d.toArray w heg hcmp hH hb (by simpa [hln] using hn)
    rw [show d.toArray.size = n by simpa using hln] at hcon
    refine ⟨Calls.mono hcon ?_⟩
    rintro e' w' ⟨rfl, d', m, os, hp, hs, rfl⟩
    refine ⟨_, rfl, ?_⟩
    have hsz : d'.size = n := by rw [hp.1]; simpa using hln
    have hfl : (flatK enc (k + 1) d').toList = d'.toList.flatMap enc := flatK_toList enc (k + 1) (Nat.succ_pos k) hk d'
    have hfl2 : flatK enc (k + 1) d' = (d'.toList.flatMap enc).toArray := by rw [← hfl]
    have hlen' : (d'.toList.flatMap enc).length = (d.flatMap enc).length := by
      rw [hl, flat_len enc (k + 1) _ fun x _ => hk x]; simp [hsz]
    have hheap : ∀ b', b' < w.heap.size → (sortWorldK enc (k + 1) w b 0 m d' os).heap[b']? = if b' = b then some (.cells (d'.toList.flatMap enc ++ rest).toArray e (0, 0)) else w.heap[b']? := by
      intro b' hb'
      show ((w.heap.modify b (onCells (putCells id 0 (flatK enc (k + 1) d')))) ++ os)[b']? = _
      rw [Array.getElem?_append_left (by simpa using hb'), Array.getElem?_modify]
      by_cases he : b' = b
      · subst he
        rw [if_pos rfl, if_pos rfl, hh]
        simp only [Option.map_some, onCells]
        rw [hfl2, putCells_row _ _ _ hlen']
      · rw [if_neg (fun e => he e.symm), if_neg he]
    have hmod : Mod (inSl (.slice (some ⟨b, 0, none⟩) n cap)) w (sortWorldK enc (k + 1) w b 0 m d' os) := by
      refine ⟨?_, rfl, rfl, fun b' hb' hf => ?_⟩
      · show w.heap.size ≤ ((w.heap.modify b _) ++ os).size
        simp
      · rw [hheap b' hb', if_neg (fun e => hf (by subst e; rfl))]
    refine hK _ d'.toList ⟨by rw [hlen', hl], .inr ⟨b, cap, rest, rfl, hc, by rw [hheap b hb, if_pos rfl], hr, hr1⟩⟩ ?_ ?_ hmod
    · have := hp.2.2
      have e1 : d'.extract 0 n = d' := by rw [← hsz]; simp
      have e2 : d.toArray.extract 0 n = d.toArray := by rw [← hln]; simp
      rw [e1, e2] at this
      simpa using this
    · rw [List.pairwise_iff_getElem]
      intro i j hi hj hij
      have := hs i j (Nat.zero_le _) hij (by rw [← hsz]; simpa using hj)
      rw [getElem!_pos d' i (by simpa using hi), getElem!_pos d' j (by simpa using hj)] at this
      simpa using this
end
end Go.Vc
namespace Go.Proofs
open Go Go.Vc Go.Shelf Go.RowKit Go.Lib Go.Sort
theorem dk_ {p : Prop} (h : p := by first | kernel_rfl | (intro _; kernel_rfl)) : p := h
theorem de_ {f : FuncId} {B : Func} (h : ((Tryz.prog.funcs[f]?.elim "" (·.name)) == "runtime.NumGoroutine") = false := by kernel_rfl) (g : Tryz.prog.funcs[f]? = some {B with name := Tryz.prog.funcs[f]?.elim "" (·.name)} := by kernel_rfl) : Bears Tryz.prog f B := ⟨_, h, g⟩
def Tryz.sortAc_ren : Ren := ⟨fun | 6 => 139 | 15 => 230 | 14 => 229 | 28 => 283 | 29 => 284 | 20 => 275 | 21 => 276 | 22 => 277 | 23 => 278 | 24 => 279 | 25 => 280 | 26 => 281 | 27 => 282 | 46 => 313 | 47 => 314 | 48 => 315 | 49 => 316 | 50 => 317 | 57 => 353 | n => n, fun | 22 => 44 | 24 => 92 | 25 => 241 | 3 => 3 | 39 => 249 | 0 => 0 | 53 => 35 | 55 => 27 | 4 => 4 | 46 => 385 | 45 => 384 | 50 => 292 | 5 => 5 | 9 => 9 | 66 => 421 | 70 => 424 | 76 => 453 | 77 => 454 | n => n, fun n => n⟩
theorem Tryz.sortAc : SlLaysF0.n6 Tryz.prog Tryz.sortAc_ren := by constructor <;> first | exact dk_ | exact de_
def Tryz.sortPo_ren : Ren := ⟨fun | 6 => 233 | 15 => 230 | 14 => 285 | 28 => 283 | 29 => 284 | 20 => 318 | 21 => 319 | 22 => 320 | 23 => 321 | 24 => 322 | 25 => 323 | 26 => 324 | 27 => 325 | 46 => 354 | 47 => 314 | 48 => 315 | 49 => 355 | 50 => 356 | 57 => 370 | n => n, fun | 22 => 46 | 24 => 112 | 25 => 330 | 3 => 3 | 39 => 249 | 0 => 0 | 53 => 35 | 55 => 27 | 4 => 4 | 46 => 385 | 45 => 384 | 50 => 292 | 5 => 5 | 9 => 9 | 66 => 421 | 70 => 424 | 76 => 453 | 77 => 454 | n => n, fun n => n⟩
theorem Tryz.sortPo : SlLaysF0.n6 Tryz.prog Tryz.sortPo_ren := by constructor <;> first | exact dk_ | exact de_
end Go.Proofs
namespace Go.Proofs
open Go Go.Vc Go.Sort
theorem grow_alloc2 (W : World) (o o' : Obj) : ∃ q os, (W.alloc o).alloc o' = grow (W.drewN q) os :=
  ⟨0, #[o] ++ #[o'], by rw [alloc_eq_grow, alloc_eq_grow, grow_grow]; rfl⟩
def cmpAc (x y : Ac) : Int := if x.num < y.num then -1 else 1
def cmpPo (x y : Po) : Int := if klt x.key y.key then -1 else if x = y then 0 else 1
theorem ltAc (x y : Ac) : ltOf cmpAc x y = decide (x.num < y.num) := by
  unfold ltOf cmpAc
  split <;> simp_all
theorem ltPo (x y : Po) : ltOf cmpPo x y = klt x.key y.key := by
  unfold ltOf cmpPo
  cases h : klt x.key y.key
  · by_cases h2 : x = y <;> simp [h2]
  · simp
theorem swoAc : SWO (ltOf cmpAc) where
  irrefl x := by rw [ltAc]; simp
  trans x y z h1 h2 := by rw [ltAc] at *; simp at *; omega
  ntrans x y z h1 h2 := by rw [ltAc] at *; simp at *; omega
theorem swoPo : SWO (ltOf cmpPo) where
  irrefl x := by rw [ltPo]; exact klt_irr
  trans x y z h1 h2 := by rw [ltPo] at *; exact klt_trans h1 h2
  ntrans x y z h1 h2 := by
    rw [ltPo] at *
    rw [Bool.eq_false_iff, Ne, klt_iff] at *; omega
theorem ca_cmpAc (x y : Ac) (W : World) : Ca Tryz.prog 140 #[.agg (cellsAc x).toArray, .agg (cellsAc y).toArray] W fun v w' => v = .int .i64 (cmpAc x y) ∧ ∃ q os, w' = grow (W.drewN q) os := by
  apply ca140
  unfold F140
  simp [go_sem, cellsAc]
  unfold cmpAc
  split
  · exact ⟨rfl, grow_alloc2 ..⟩
  · exact ⟨rfl, grow_alloc2 ..⟩
theorem ca_cmpPo (x y : Po) (W : World) : Ca Tryz.prog 234 #[.agg (cellsPo x).toArray, .agg (cellsPo y).toArray] W fun v w' => v = .int .i64 (cmpPo x y) ∧ ∃ q os, w' = grow (W.drewN q) os := by
  apply ca234
  unfold F234
  simp [go_sem, cellsPo]
  generalize hw1 : World.alloc _ _ = w1
  have hgr : ∃ q os, w1 = grow (W.drewN q) os := by subst hw1; exact grow_alloc2 ..
  have hx : hp w1 W.heap.size = some (.cells #[.int .u32 x.c, .int .u32 x.a, .int .i64 x.q, .int .i64 x.b] 112 (0, 0)) := by subst hw1; simp [go_sem]
  have hy : hp w1 (W.heap.size + 1) = some (.cells #[.int .u32 y.c, .int .u32 y.a, .int .i64 y.q, .int .i64 y.b] 112 (0, 0)) := by subst hw1; simp [go_sem]
  refine JoinW.at (fun s W' => s = (.bool (klt x.key y.key), ()) ∧ W' = w1) ?_ ?_
  · simp [go_sem, hp_of hx, hp_of hy]
    unfold klt Po.key
    by_cases h1 : x.c < y.c
    · simp [h1]
    · by_cases h2 : x.c = y.c
      · simp [h1, h2]
      · simp [h1, h2]
  rintro _ w1 ⟨rfl, rfl⟩
  unfold J234_0
  intro _
  cases hk : klt x.key y.key
  · simp [go_sem, hp_of hx, hp_of hy]
    have hxy : x = y ↔ x.c = y.c ∧ x.a = y.a ∧ x.q = y.q ∧ x.b = y.b := by
      obtain ⟨c, a, q, b⟩ := x
      obtain ⟨c', a', q', b'⟩ := y
      simp
    by_cases h1 : x.c = y.c <;> by_cases h2 : x.a = y.a <;> by_cases h3 : x.q = y.q <;> by_cases h4 : x.b = y.b <;> simp [h1, h2, h3, h4] <;> exact ⟨by simp [cmpPo, hk, hxy, h1, h2, h3, h4], hgr⟩
  · simp
    exact ⟨by simp [cmpPo, hk], hgr⟩
theorem acE1 : elemOk Tryz.prog 92 4 24 = true := by kernel_rfl
end Go.Proofs
