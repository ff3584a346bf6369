/- Part of a proof. -/
import Derived.Test.YtgebhcgmckjbbaaGreatI20
set_option linter.all false
namespace Go.Proofs
open Go
def calUp : Int → List Ct → Bool
  | _, [] => true
  | n, k :: l => decide (n < k.spec.num) && (decide (1 ≤ k.st) && (decide (k.st ≤ 3) && (k.spec.isPrice k.price && calUp k.spec.num l)))
theorem calUp_spec : ∀ {l : List Ct} {n : Int}, calUp n l = true → (∀ k ∈ l, n < k.spec.num ∧ 1 ≤ k.st ∧ k.st ≤ 3 ∧ k.spec.isPrice k.price = true) ∧ Rising l
  | [], n, _ => ⟨fun k hk => (by cases hk), List.Pairwise.nil⟩
  | k :: l, n, h => by
    unfold calUp at h
    simp only [Bool.and_eq_true, decide_eq_true_eq] at h
    obtain ⟨h1, h2, h3, h4, h5⟩ := h
    obtain ⟨h6, h7⟩ := calUp_spec h5
    refine ⟨fun x hx => ?_, List.pairwise_cons.2 ⟨fun x hx => (h6 x hx).1, h7⟩⟩
    rcases List.mem_cons.1 hx with rfl | hx
    · exact ⟨h1, h2, h3, h4⟩
    · have := h6 x hx
      exact ⟨by omega, this.2⟩
def Led.stB (L : Led) (a : Int) : Bool := match L.getO a with | some x => !x.dfl && !x.kil | none => false
def Ven.stnd (S : Ven) (lots : Bool) (U : List Int) (x : Int × Od) : Bool :=
  decide (calAlive S.cal.l x.1 = 0) && (S.led.stB x.2.acct && (x.2.may && ((calGetR S.cal.l x.1).1.spec.isPrice x.2.price && ((!lots || (calGetR S.cal.l x.1).1.spec.isQty x.2.left) && (decide (x.2.num < S.next) && !U.contains x.2.num)))))
def fillO : List (Int × Od) → List Int → Ven → Option (List Int × Ven)
  | [], U, S => some (U, S)
  | x :: l, U, S =>
    if S.stnd true U x = false then none
    else if (bkPlace (S.bk x.1) x.2 4).1 ≠ 0 ∨ (bkPlace (S.bk x.1) x.2 4).2.2.gone ≠ [] then none
    else fillO l (x.2.num :: U) { S with bk := upd S.bk x.1 (bkPlace (S.bk x.1) x.2 4).2.1 }
def fillB : List (Int × Od) → Option Int → Int → List Int → Ven → Option Ven
  | [], pc, n, U, S => some S
  | x :: l, pc, n, U, S =>
    if S.stnd false U x = false then none
    else if x.2.num ≤ (if pc ≠ none ∧ pc ≠ some x.1 then 0 else n) then none
    else if 50 ≤ (S.bd x.1).length then none
    else fillB l (some x.1) x.2.num (x.2.num :: U) { S with bd := upd S.bd x.1 (S.bd x.1 ++ [x.2]) }
def ven0 (s : Sta) : Ven := ⟨⟨s.day, s.cts⟩, ⟨s.fund, s.accts, s.poss⟩, fun _ => Bk.empty, fun _ => [], s.next⟩
structure From0 (s : Sta) : Prop where
  len : s.cts.length ≤ 16
  cts : calUp 0 s.cts = true
  led : FromOk s.fund s.accts s.poss
  next : 1 ≤ s.next ∧ s.next ≤ maxNum + 1
  poss : ∀ p ∈ s.poss, calAlive s.cts p.c = 0
def fillR (s : Sta) : Option Ven := (fillO s.ords [] (ven0 s)).bind fun x => fillB s.bids none 0 x.1 x.2
open Classical in
noncomputable def fromR (s : Sta) : Option Ven :=
  if From0 s then (fillR s).bind fun S => if S.state.ords = s.ords ∧ S.state.bids = s.bids then some S else none else none
structure Sta.Fit (s : Sta) : Prop where
  day : U32' s.day
  next : U64' s.next
  fund : R64' s.fund
  accts : ∀ a ∈ s.accts, U32' a.num ∧ R64' a.cash
  cts : ∀ k ∈ s.cts, k.Fit
  poss : ∀ p ∈ s.poss, (U32' p.c ∧ U32' p.a) ∧ R64' p.q ∧ R64' p.b
  ords : ∀ x ∈ s.ords, U32' x.1 ∧ x.2.Fit
  bids : ∀ x ∈ s.bids, U32' x.1 ∧ x.2.Fit
theorem from_cal {s : Sta} (h : From0 s) (hf : s.Fit) : (ven0 s).cal.Ok := by
  obtain ⟨h1, h2⟩ := calUp_spec h.cts
  refine ⟨h.len, hf.day, fun k hk => ?_, h2⟩
  obtain ⟨a1, a2, a3, a4⟩ := h1 k hk
  refine ⟨hf.cts k hk, ?_, a4, a2, a3⟩
  unfold Sp.isPrice at a4
  exact (Bool.and_eq_true _ _ ▸ a4).1
theorem sumF_eqQ (P : List Po) (c : Int) : sumF (gq c) P = sumQ' P c ∧ sumF (gb c) P = sumB' P c := by
  induction P with
  | nil => exact ⟨rfl, rfl⟩
  | cons p P ih =>
    have e1 : sumQ' (p :: P) c = sumQ' [p] c + sumQ' P c := by rw [← sumQ_app]; rfl
    have e2 : sumB' (p :: P) c = sumB' [p] c + sumB' P c := by rw [← sumB_app]; rfl
    rw [e1, e2, sumQ_one, sumB_one, ← ih.1, ← ih.2]
    constructor <;> simp only [sumF, gq, gb, List.map_cons, List.sum_cons]
theorem from_ok {s : Sta} (h : From0 s) (hf : s.Fit) : (ven0 s).Ok := by
  refine ⟨from_cal h hf, ⟨h.led.ok (fun a ha => (hf.accts a ha).1) (fun p hp => (hf.poss p hp).1.1), h.poss, fun c => ?_⟩, ⟨fun n _ => rfl, fun n d => ⟨by show (0:Nat) ≤ 100; omega, fun o ho => (by cases ho)⟩, fun n o ho => (by cases ho), fun n => List.nodup_nil, fun n m o o' ho => (by cases ho), fun n => (by show (0:Nat) ≤ 50; omega)⟩, h.next, h.led.tot⟩
  show sumF (gq c) s.poss = 0 ∧ sumF (gb c) s.poss = 0
  have := sumF_eqQ s.poss c
  rw [this.1, this.2]
  exact h.led.zero c
structure Stnd (S : Ven) (U : List Int) (x : Int × Od) : Prop where
  alive : calAlive S.cal.l x.1 = 0
  may : x.2.may = true
  acc : S.led.Stands x.2.acct
  num : x.2.num < S.next
  new : x.2.num ∉ U
theorem stnd_ok {S : Ven} {lots : Bool} {U : List Int} {x : Int × Od} (h : S.stnd lots U x = true) : Stnd S U x := by
  unfold Ven.stnd at h
  simp only [Bool.and_eq_true, decide_eq_true_eq] at h
  obtain ⟨h1, h2, h3, h4, h5, h6, h7⟩ := h
  refine ⟨h1, h3, ?_, h6, by simpa using h7⟩
  have ha : x.2.acct ≠ 0 := by
    unfold Od.may at h3
    simp only [Bool.and_eq_true, decide_eq_true_eq] at h3
    exact h3.1.1.2
  unfold Led.stB at h2
  unfold Led.getO at h2
  rw [if_neg ha] at h2
  unfold Led.Stands
  cases hg : S.led.find x.2.acct with
  | none => rw [hg] at h2; cases h2
  | some a =>
    rw [hg] at h2
    simp only [Bool.and_eq_true, Bool.not_eq_true'] at h2
    exact ⟨a, rfl, h2.2, h2.1⟩
structure FillI (S0 S : Ven) (U : List Int) : Prop where
  ok : S.Ok
  cal : S.cal = S0.cal
  led : S.led = S0.led
  next : S.next = S0.next
  nums : ∀ n, ∀ o ∈ S.ords n, o.num ∈ U
theorem FillI.fresh {S0 S : Ven} {U : List Int} (h : FillI S0 S U) {x : Int × Od} (hx : Stnd S U x) : ∀ m, ∀ y ∈ S.ords m, y.num ≠ x.2.num := fun m y hy e => hx.new (e ▸ h.nums m y hy)
theorem FillI.order {S0 S : Ven} {U : List Int} (h : FillI S0 S U) {x : Int × Od} (hx : Stnd S U x) (hf : x.2.Fit) (he : (bkPlace (S.bk x.1) x.2 4).1 = 0) :
    FillI S0 { S with bk := upd S.bk x.1 (bkPlace (S.bk x.1) x.2 4).2.1 } (x.2.num :: U) := by
  obtain ⟨e, hm, -⟩ := place_0 he
  rw [e]
  have hO := come_addBk h.ok.ord (n := x.1) (o := x.2) (rests := decide ((4 : Int) = 1 ∨ (4 : Int) = 4)) (nx := S.next) hx.alive hx.may hf hx.num hx.acc (h.fresh hx) (Int.le_refl _)
  have hc := come_ok (B := S.bk x.1) (o := x.2) (rests := decide ((4 : Int) = 1 ∨ (4 : Int) = 4)) (h.ok.ord.bkMay x.1) hm
  refine ⟨⟨h.ok.cal, h.ok.led, hO, h.ok.next, h.ok.fnd⟩, h.cal, h.led, h.next, fun n o ho => ?_⟩
  rcases mem_ords ho with ⟨d, h1⟩ | h1
  · replace h1 : o ∈ upd S.bk x.1 (bkCome (S.bk x.1) x.2 (decide ((4 : Int) = 1 ∨ (4 : Int) = 4))).1 n d := h1
    by_cases hn : n = x.1
    · subst hn
      rw [upd_self] at h1
      by_cases hd : d = x.2.buy
      · subst hd
        rcases hc.own with h2 | ⟨-, h2, -⟩
        · rw [h2] at h1; exact List.mem_cons_of_mem _ (h.nums _ o (mem_bk h1))
        · rw [h2] at h1
          rcases List.mem_cons.1 ((sdIns_perm _ _ _).mem_iff.1 h1) with rfl | h3
          · exact List.mem_cons_self
          · exact List.mem_cons_of_mem _ (h.nums _ o (mem_bk h3))
      · obtain rfl : d = !x.2.buy := by cases d <;> cases hb : x.2.buy <;> simp_all
        obtain ⟨o0, h3, h4⟩ := hc.opp.mem h1
        rw [← key_num h4]
        exact List.mem_cons_of_mem _ (h.nums _ o0 (mem_bk h3))
    · rw [upd_ne _ _ _ hn] at h1
      exact List.mem_cons_of_mem _ (h.nums n o (mem_bk h1))
  · exact List.mem_cons_of_mem _ (h.nums n o (mem_bd h1))
theorem FillI.bid {S0 S : Ven} {U : List Int} (h : FillI S0 S U) {x : Int × Od} (hx : Stnd S U x) (hf : x.2.Fit) (hl : (S.bd x.1).length < 50) :
    FillI S0 { S with bd := upd S.bd x.1 (S.bd x.1 ++ [x.2]) } (x.2.num :: U) := by
  have hO := h.ok.ord.addBd (n := x.1) (x := x.2) (nx := S.next) hx.alive hx.may hf hx.num hx.acc (h.fresh hx) hl (Int.le_refl _)
  refine ⟨⟨h.ok.cal, h.ok.led, hO, h.ok.next, h.ok.fnd⟩, h.cal, h.led, h.next, fun n o ho => ?_⟩
  rcases mem_ords ho with ⟨d, h1⟩ | h1
  · exact List.mem_cons_of_mem _ (h.nums n o (mem_bk h1))
  · replace h1 : o ∈ upd S.bd x.1 (S.bd x.1 ++ [x.2]) n := h1
    by_cases hn : n = x.1
    · subst hn
      rw [upd_self] at h1
      rcases List.mem_append.1 h1 with h2 | h2
      · exact List.mem_cons_of_mem _ (h.nums _ o (mem_bd h2))
      · rw [List.mem_singleton.1 h2]; exact List.mem_cons_self
    · rw [upd_ne _ _ _ hn] at h1
      exact List.mem_cons_of_mem _ (h.nums n o (mem_bd h1))
theorem FillI.zero {s : Sta} (h : From0 s) (hf : s.Fit) : FillI (ven0 s) (ven0 s) [] := ⟨from_ok h hf, rfl, rfl, rfl, fun n o ho => (by cases ho)⟩
def sta0 : Sta := ⟨0, 1, 0, [], [], [], [], []⟩
theorem fromR_sta0 : fromR sta0 = some Ven.empty := by
  have h0 : From0 sta0 := ⟨by decide, rfl, ⟨by decide, by decide, ⟨List.Pairwise.nil, fun a ha => (by cases ha)⟩, by decide, List.Pairwise.nil, fun a ha => (by cases ha), fun c => ⟨rfl, rfl⟩⟩, ⟨by decide, by decide⟩, fun p hp => (by cases hp)⟩
  unfold fromR
  rw [if_pos h0]
  have : fillR sta0 = some Ven.empty := rfl
  rw [this, Option.bind_some]
  exact if_pos ⟨rfl, rfl⟩
end Go.Proofs
namespace Go.Proofs
open Go Go.Vc
attribute [local congr] Ca_congV
abbrev StaR (w : World) (ss : Nat → Value) (s : Sta) : Prop := ∀ i, 3 ≤ i → i ≤ 7 → Rd w (stK i) (ss i) (LN s.accts s.cts s.poss s.ords s.bids i) (LC s.accts s.cts s.poss s.ords s.bids i)
def staV (s : Sta) (ss : Nat → Value) : Value := stV s.day s.next s.fund ss
theorem StaR.md0 {w w' : World} {ss : Nat → Value} {s : Sta} (h : StaR w ss s) (m : Mod (fun _ => False) w w') : StaR w' ss s := fun i h1 h2 => (h i h1 h2).mod m fun _ _ h => h
theorem StaR.sl {w : World} {ss : Nat → Value} {s : Sta} (h : StaR w ss s) : ∀ i, 3 ≤ i → i ≤ 7 → ∃ a n c, ss i = .slice a n c := fun i h1 h2 => by
  obtain ⟨a, c, e⟩ := (h i h1 h2).isSl
  exact ⟨a, _, c, e⟩
theorem StaR.accts {w : World} {ss : Nat → Value} {s : Sta} (h : StaR w ss s) : Rd w 4 (ss 3) s.accts.length (s.accts.flatMap cellsAc) := h 3 (by omega) (by omega)
theorem StaR.cts {w : World} {ss : Nat → Value} {s : Sta} (h : StaR w ss s) : Rd w 27 (ss 4) s.cts.length (s.cts.flatMap ctC) := h 4 (by omega) (by omega)
theorem StaR.poss {w : World} {ss : Nat → Value} {s : Sta} (h : StaR w ss s) : Rd w 4 (ss 5) s.poss.length (s.poss.flatMap cellsPo) := h 5 (by omega) (by omega)
theorem StaR.ords {w : World} {ss : Nat → Value} {s : Sta} (h : StaR w ss s) : Rd w 6 (ss 6) s.ords.length (s.ords.flatMap sdOC) := h 6 (by omega) (by omega)
theorem StaR.bids {w : World} {ss : Nat → Value} {s : Sta} (h : StaR w ss s) : Rd w 6 (ss 7) s.bids.length (s.bids.flatMap sdOC) := h 7 (by omega) (by omega)
abbrev StBlk (w : World) (b : Nat) (d nx fu : Int) (ss : Nat → Value) : Prop := hp w b = some (.cells (stC d nx fu ss).toArray tSt (0, 0))
theorem boxStI (d nx fu : Int) (ss : Nat → Value) (w : World) : ∃ w1, (Instr.box tSt (stV d nx fu ss)).run Tryz.prog w = .ok (.pointer (some ⟨w.heap.size, 0, none⟩)) w1 ∧ StBlk w1 w.heap.size d nx fu ss ∧ Mod (fun _ => False) w w1 :=
  ⟨w.alloc (.cells (stC d nx fu ss).toArray tSt), rfl, by show hp _ _ = _; simp [go_sem], (Mod.refl _ w).alloc _⟩
theorem stLdI {w : World} {b : Nat} {d nx fu : Int} {ss : Nat → Value} (h : StBlk w b d nx fu ss) (hs : ∀ i, 3 ≤ i → i ≤ 7 → ∃ a n c, ss i = .slice a n c) (i : Nat) (hi : 3 ≤ i) (hj : i ≤ 7) : (Instr.loadAt (stS i) (.pointer (some ⟨b, i, none⟩))).run Tryz.prog w = .ok (ss i) w := by
  have h' : hp w b = some (.cells (stC d nx fu ss).toArray tSt (0, 0)) := h
  obtain ⟨a, n, c, e⟩ := hs i hi hj
  have : i = 3 ∨ i = 4 ∨ i = 5 ∨ i = 6 ∨ i = 7 := by omega
  rcases this with rfl | rfl | rfl | rfl | rfl <;> (simp only [stS]; rw [e]; simp only [stC] at h'; rw [e] at h'; simp [go_sem, h'])
theorem stLdN {w : World} {b : Nat} {d nx fu : Int} {ss : Nat → Value} (h : StBlk w b d nx fu ss) : (Instr.loadAt 35 (.pointer (some ⟨b, 0, none⟩))).run Tryz.prog w = .ok (.int .u32 d) w ∧ (Instr.loadAt 27 (.pointer (some ⟨b, 1, none⟩))).run Tryz.prog w = .ok (.int .u64 nx) w ∧ (Instr.loadAt 2 (.pointer (some ⟨b, 2, none⟩))).run Tryz.prog w = .ok (.int .i64 fu) w := by
  have h' : hp w b = some (.cells (stC d nx fu ss).toArray tSt (0, 0)) := h
  simp only [stC] at h'
  exact ⟨by simp [go_sem, h'], by simp [go_sem, h'], by simp [go_sem, h']⟩
set_option maxRecDepth 10000 in
theorem stSetN {w : World} {b : Nat} {d nx fu : Int} {ss : Nat → Value} (h : StBlk w b d nx fu ss) :
    (∀ x, ∃ w', (Instr.storeAt 35 (.pointer (some ⟨b, 0, none⟩)) (.int .u32 x)).run Tryz.prog w = .ok () w' ∧ StBlk w' b x nx fu ss ∧ Mod (fun y => y = b) w w') ∧
    (∀ x, ∃ w', (Instr.storeAt 27 (.pointer (some ⟨b, 1, none⟩)) (.int .u64 x)).run Tryz.prog w = .ok () w' ∧ StBlk w' b d x fu ss ∧ Mod (fun y => y = b) w w') ∧
    (∀ x, ∃ w', (Instr.storeAt 2 (.pointer (some ⟨b, 2, none⟩)) (.int .i64 x)).run Tryz.prog w = .ok () w' ∧ StBlk w' b d nx x ss ∧ Mod (fun y => y = b) w w') := by
  have h' : hp w b = some (.cells (stC d nx fu ss).toArray tSt (0, 0)) := h
  simp only [stC] at h'
  refine ⟨fun x => ⟨w.setCell ⟨b, 0, none⟩ (.int .u32 x), ?_, ?_, ?_⟩, fun x => ⟨w.setCell ⟨b, 1, none⟩ (.int .u64 x), ?_, ?_, ?_⟩, fun x => ⟨w.setCell ⟨b, 2, none⟩ (.int .i64 x), ?_, ?_, ?_⟩⟩
  all_goals first | exact (Mod.refl (fun y => y = b) w).setCell (.inl rfl) _ _ | (show hp _ _ = _; simp [go_sem, h', stC]) | simp [go_sem, h']
set_option maxRecDepth 10000 in
theorem stSetI {w : World} {b : Nat} {d nx fu : Int} {ss : Nat → Value} (h : StBlk w b d nx fu ss) (hs : ∀ i, 3 ≤ i → i ≤ 7 → ∃ a n c, ss i = .slice a n c) (i : Nat) (hi : 3 ≤ i) (hj : i ≤ 7) {s' : Value} (hs' : ∃ a n c, s' = .slice a n c) :
    ∃ w', (Instr.storeAt (stS i) (.pointer (some ⟨b, i, none⟩)) s').run Tryz.prog w = .ok () w' ∧ StBlk w' b d nx fu (updN ss i s') ∧ Mod (fun y => y = b) w w' := by
  have h' : hp w b = some (.cells (stC d nx fu ss).toArray tSt (0, 0)) := h
  obtain ⟨a0, n0, c0, hs0⟩ := hs i hi hj
  obtain ⟨a, n, c, hs'⟩ := hs'
  have : i = 3 ∨ i = 4 ∨ i = 5 ∨ i = 6 ∨ i = 7 := by omega
  refine ⟨w.setCell ⟨b, i, none⟩ s', ?_, ?_, (Mod.refl (fun y => y = b) w).setCell (.inl rfl) _ _⟩
  · rcases this with rfl | rfl | rfl | rfl | rfl <;> (simp only [stC] at h'; rw [hs0] at h'; simp only [stS]; rw [hs']; simp [go_sem, h'])
  · show hp _ _ = _
    rcases this with rfl | rfl | rfl | rfl | rfl <;> (simp only [stC] at h'; rw [hs0] at h'; rw [hs']; simp [go_sem, h', stC, updN])
theorem updN_sl {ss : Nat → Value} (hs : ∀ i, 3 ≤ i → i ≤ 7 → ∃ a n c, ss i = .slice a n c) (i : Nat) {s' : Value} (hs' : ∃ a n c, s' = .slice a n c) : ∀ j, 3 ≤ j → j ≤ 7 → ∃ a n c, updN ss i s' j = .slice a n c := fun j h1 h2 => by
  unfold updN
  split
  · exact hs'
  · exact hs j h1 h2
theorem ss0_sl : ∀ i, 3 ≤ i → i ≤ 7 → ∃ a n c, ss0 nilV i = .slice a n c := fun i _ _ => by
  unfold ss0 nilV
  split <;> exact ⟨_, _, _, rfl⟩
theorem bldSt0 (W : World) : (Instr.build tSt #[]).run Tryz.prog W = .ok (stV 0 0 0 (ss0 nilV)) W := by
  simp [go_sem, stV, stC, ss0, nilV]
end Go.Proofs
set_option maxRecDepth 100000
namespace Go.Proofs
open Go Go.Vc
def J129_0 (K : Kont) (v22 : Value) (s13 : Value × Value × Value × Value × Unit) (K15 : Value × Value × Value × Value × Unit → World → Prop) (s25 : Value × Unit) (w26 : World) : Prop :=
 ∀ _ : Nat → Value,
 ifB s25.1
 (K (.bool false) w26)
 (rv Tryz.prog (Instr.fieldAt 92 v22 0) w26 fun v42 w43 =>
 rv Tryz.prog (Instr.loadAt 35 v42) w43 fun v44 w45 =>
 rv Tryz.prog (Instr.fieldAt 92 v22 1) w45 fun v46 w47 =>
 rv Tryz.prog (Instr.loadAt 2 v46) w47 fun v48 w49 =>
 rv Tryz.prog (bin .add 2 false s13.1 v48) w49 fun v50 w51 =>
 rv Tryz.prog (bin .add 3 true s13.2.2.2.1 (.int .i64 1)) w51 fun v52 w53 =>
 K15 (v50, s13.2.1, v44, v52, ()) w53)
def L129_1 (v11 : Value) (a1 : Value) (K : Kont) (s13 : Value × Value × Value × Value × Unit) (w14 : World) (K15 : Value × Value × Value × Value × Unit → World → Prop) : Prop :=
 ∀ _ : Nat → Value,
 rv Tryz.prog (bin .lss 3 false s13.2.2.2.1 v11) w14 fun v16 w17 =>
 ifB v16
 (rv Tryz.prog (Instr.indexAt 44 a1 s13.2.2.2.1) w17 fun v18 w19 =>
 rv Tryz.prog (Instr.loadAt 92 v18) w19 fun v20 w21 =>
 rv Tryz.prog (Instr.alloc 92 true (.tuple #[])) w21 fun v22 w23 =>
 ru Tryz.prog (Instr.storeAt 92 v22 v20) w23 fun w24 =>
 JoinW (S := Value × Unit) (fun J27 =>
 rv Tryz.prog (Instr.fieldAt 92 v22 0) w24 fun v28 w29 =>
 rv Tryz.prog (Instr.loadAt 35 v28) w29 fun v30 w31 =>
 rv Tryz.prog (bin .leq 35 false v30 s13.2.2.1) w31 fun v32 w33 =>
 ifB v32
 (J27 ((.bool true), ()) w33)
 (rv Tryz.prog (Instr.fieldAt 92 v22 1) w33 fun v34 w35 =>
 rv Tryz.prog (Instr.loadAt 2 v34) w35 fun v36 w37 =>
 Ca Tryz.prog 194 #[v36, (.int .i64 0), (.int .i64 1000000000000000)] w37 fun v38 w39 =>
 rv Tryz.prog (Op.unary .not v38) w39 fun v40 w41 =>
 J27 (v40, ()) w41))
 (J129_0 K v22 s13 K15))
 (rv Tryz.prog (bin .leq 2 true s13.1 (.int .i64 1000000000000000)) w17 fun v54 w55 =>
 K v54 w55)
def J129_2 (K : Kont) (a1 : Value) (a0 : Value) (s0 : Value × Unit) (w1 : World) : Prop :=
 ∀ _ : Nat → Value,
 ifB s0.1
 (K (.bool false) w1)
 (rn Tryz.prog (builtin .len #[44] 3 #[false] #[a1]) w1 fun v11 w12 =>
 LoopW (S := Value × Value × Value × Value × Unit) (L129_1 v11 a1 K) (a0, (.bool false), (.int .u32 0), (.int .i64 0), ()) w12)
def F129 (a0 a1 : Value) (w : World) (K : Kont) : Prop :=
 JoinW (S := Value × Unit) (fun J2 =>
 rn Tryz.prog (builtin .len #[44] 3 #[false] #[a1]) w fun v3 w4 =>
 rv Tryz.prog (bin .gtr 3 true v3 (.int .i64 64)) w4 fun v5 w6 =>
 ifB v5
 (J2 ((.bool true), ()) w6)
 (Ca Tryz.prog 194 #[a0, (.int .i64 0), (.int .i64 1000000000000000)] w6 fun v7 w8 =>
 rv Tryz.prog (Op.unary .not v7) w8 fun v9 w10 =>
 J2 (v9, ()) w10))
 (J129_2 K a1 a0)
theorem F129_eq (a0 a1 : Value) (w : World) (K : Kont) : vcFnJ Tryz.prog Tryz.f129 [a0, a1] w K = F129 a0 a1 w K := by kernel_rfl
theorem F129_ok : okF Tryz.prog Tryz.f129 2 = true := by kernel_rfl
theorem ca129{a0 a1 : Value} {w : World} {K : Kont} (h : F129 a0 a1 w K) : Ca Tryz.prog 129 #[a0, a1] w K :=
  ca_of_vcJ Tryz.noNum Tryz.func129 F129_ok (by rw [F129_eq]; exact h)
def J46_0 (K : Kont) (J68 : Value × Value × Unit → World → Prop) (s41 : Value × Value × Value × Value × Value × Unit) (s79 : Value × Unit) (w80 : World) : Prop :=
 ∀ _ : Nat → Value,
 ifB s79.1
 (K (.tuple #[(.pointer none), (.int .i64 2)]) w80)
 (J68 (s41.2.1, s41.1, ()) w80)
def J46_1 (K : Kont) (v63 : Value) (v50 : Value) (s41 : Value × Value × Value × Value × Value × Unit) (v37 : Value) (v4 : Value) (K43 : Value × Value × Value × Value × Value × Unit → World → Prop) (s66 : Value × Value × Unit) (s159 : Value × Unit) (w160 : World) : Prop :=
 ∀ _ : Nat → Value,
 ifB s159.1
 (K (.tuple #[(.pointer none), (.int .i64 2)]) w160)
 (rdW Tryz.prog (Instr.loadAt 224 v63) w160.drew fun v178 =>
 rdP Tryz.prog (Instr.fieldAt 112 v50 2) fun v179 =>
 rdW Tryz.prog (Instr.loadAt 2 v179) w160.drew fun v180 =>
 rdP Tryz.prog (bin .add 2 false s41.2.2.1 v180) fun v181 =>
 rdP Tryz.prog (Instr.fieldAt 112 v50 3) fun v182 =>
 rdW Tryz.prog (Instr.loadAt 2 v182) w160.drew fun v183 =>
 rdP Tryz.prog (bin .add 2 false s41.2.2.2.1 v183) fun v184 =>
 ru Tryz.prog (Instr.storeAt 224 v37 v178) w160.drew fun w185 =>
 Sem.run Tryz.prog (Instr.loadAt 2 v182) w185 = .ok v183 w185 ∧ Sem.run Tryz.prog (Instr.loadAt 2 v179) w185 = .ok v180 w185 ∧ 
 (Sem.run Tryz.prog (Instr.loadAt 2 v182) w185 = .ok v183 w185 ∧ 
 (nilK v4 fun v186 => rdP Tryz.prog (Instr.fieldAt 201 v186 1) fun v187 =>
 rdW Tryz.prog (Instr.loadAt 199 v187) w185.drew fun v188 =>
 rdW Tryz.prog (Instr.loadAt 224 v63) w185.drew fun v189 =>
 rdW Tryz.prog (Instr.loadAt 112 v50) w185.drew fun v190 =>
 rux Tryz.prog (xMapUp 199 v188 v189 v190) w185.drew fun w191 =>
 rv Tryz.prog (bin .add 3 true s41.2.2.2.2.1 (.int .i64 1)) w191 fun v192 w193 =>
 K43 (s66.2.1, s66.1, v181, v184, v192, ()) w193)))
def J46_2 (K : Kont) (v50 : Value) (v63 : Value) (s41 : Value × Value × Value × Value × Value × Unit) (v37 : Value) (v4 : Value) (K43 : Value × Value × Value × Value × Value × Unit → World → Prop) (s66 : Value × Value × Unit) (s130 : Value × Unit) (w131 : World) : Prop :=
 ∀ _ : Nat → Value,
 ifB s130.1
 (K (.tuple #[(.pointer none), (.int .i64 2)]) w131)
 (JoinW (S := Value × Unit) (fun J161 =>
 rv Tryz.prog (Instr.fieldAt 112 v50 2) w131 fun v162 w163 =>
 rv Tryz.prog (Instr.loadAt 2 v162) w163 fun v164 w165 =>
 Ca Tryz.prog 130 #[v164, (.int .i64 10000000)] w165 fun v166 w167 =>
 rv Tryz.prog (Op.unary .not v166) w167 fun v168 w169 =>
 ifB v168
 (J161 ((.bool true), ()) w169)
 (rv Tryz.prog (Instr.fieldAt 112 v50 3) w169 fun v170 w171 =>
 rv Tryz.prog (Instr.loadAt 2 v170) w171 fun v172 w173 =>
 Ca Tryz.prog 130 #[v172, (.int .i64 1000000000000000)] w173 fun v174 w175 =>
 rv Tryz.prog (Op.unary .not v174) w175 fun v176 w177 =>
 J161 (v176, ()) w177))
 (J46_1 K v63 v50 s41 v37 v4 K43 s66))
def J46_3 (K : Kont) (v50 : Value) (v93 : Value) (v63 : Value) (s41 : Value × Value × Value × Value × Value × Unit) (v37 : Value) (v4 : Value) (K43 : Value × Value × Value × Value × Value × Unit → World → Prop) (s66 : Value × Value × Unit) (s97 : Value × Unit) (w98 : World) : Prop :=
 ∀ _ : Nat → Value,
 ifB s97.1
 (K (.tuple #[(.pointer none), (.int .i64 2)]) w98)
 (JoinW (S := Value × Unit) (fun J132 =>
 rv Tryz.prog (Instr.fieldAt 112 v50 0) w98 fun v133 w134 =>
 rv Tryz.prog (Instr.loadAt 35 v133) w134 fun v135 w136 =>
 rv Tryz.prog (bin .eql 35 true v135 (.int .u32 0)) w136 fun v137 w138 =>
 ifB v137
 (J132 ((.bool true), ()) w138)
 (rv Tryz.prog (Instr.fieldAt 112 v50 1) w138 fun v139 w140 =>
 rv Tryz.prog (Instr.loadAt 35 v139) w140 fun v141 w142 =>
 rv Tryz.prog (bin .eql 35 true v141 (.int .u32 0)) w142 fun v143 w144 =>
 ifB v143
 (J132 ((.bool true), ()) w144)
 (rv Tryz.prog (Op.unary .not v93) w144 fun v145 w146 =>
 ifB v145
 (J132 ((.bool true), ()) w146)
 (rv Tryz.prog (Instr.fieldAt 112 v50 2) w146 fun v147 w148 =>
 rv Tryz.prog (Instr.loadAt 2 v147) w148 fun v149 w150 =>
 rv Tryz.prog (bin .eql 2 true v149 (.int .i64 0)) w150 fun v151 w152 =>
 ifB v151
 (rv Tryz.prog (Instr.fieldAt 112 v50 3) w152 fun v153 w154 =>
 rv Tryz.prog (Instr.loadAt 2 v153) w154 fun v155 w156 =>
 rv Tryz.prog (bin .eql 2 true v155 (.int .i64 0)) w156 fun v157 w158 =>
 J132 (v157, ()) w158)
 (J132 ((.bool false), ()) w152)))))
 (J46_2 K v50 v63 s41 v37 v4 K43 s66))
def J46_4 (v4 : Value) (v50 : Value) (v63 : Value) (v37 : Value) (K : Kont) (s41 : Value × Value × Value × Value × Value × Unit) (K43 : Value × Value × Value × Value × Value × Unit → World → Prop) (s66 : Value × Value × Unit) (w67 : World) : Prop :=
 ∀ _ : Nat → Value,
 nilK v4 fun v86 => rdP Tryz.prog (Instr.fieldAt 201 v86 0) fun v87 =>
 rdW Tryz.prog (Instr.loadAt 198 v87) w67.drew fun v88 =>
 rdP Tryz.prog (Instr.fieldAt 112 v50 1) fun v89 =>
 rdW Tryz.prog (Instr.loadAt 35 v89) w67.drew fun v90 =>
 rdX Tryz.prog (xLook 198 v88 v90 true) w67.drew fun v91 =>
 rdP Tryz.prog (Instr.extract v91 0) fun v92 =>
 rdP Tryz.prog (Instr.extract v91 1) fun v93 =>
 rv Tryz.prog (Instr.alloc 92 true (.tuple #[])) w67.drew fun v94 w95 =>
 Sem.run Tryz.prog (xLook 198 v88 v90 true) w95 = .ok v91 w95 ∧ Sem.run Tryz.prog (Instr.loadAt 35 v89) w95 = .ok v90 w95 ∧ Sem.run Tryz.prog (Instr.loadAt 198 v87) w95 = .ok v88 w95 ∧ 
 (ru Tryz.prog (Instr.storeAt 92 v94 v92) w95 fun w96 =>
 JoinW (S := Value × Unit) (fun J99 =>
 rv Tryz.prog (Instr.fieldAt 224 v63 0) w96 fun v100 w101 =>
 rv Tryz.prog (Instr.loadAt 35 v100) w101 fun v102 w103 =>
 rv Tryz.prog (Instr.fieldAt 224 v37 0) w103 fun v104 w105 =>
 rv Tryz.prog (Instr.loadAt 35 v104) w105 fun v106 w107 =>
 rv Tryz.prog (bin .lss 35 false v102 v106) w107 fun v108 w109 =>
 ifB v108
 (J99 ((.bool true), ()) w109)
 (rv Tryz.prog (Instr.fieldAt 224 v63 0) w109 fun v110 w111 =>
 rv Tryz.prog (Instr.loadAt 35 v110) w111 fun v112 w113 =>
 rv Tryz.prog (Instr.fieldAt 224 v37 0) w113 fun v114 w115 =>
 rv Tryz.prog (Instr.loadAt 35 v114) w115 fun v116 w117 =>
 rv Tryz.prog (bin .eql 35 false v112 v116) w117 fun v118 w119 =>
 ifB v118
 (rv Tryz.prog (Instr.fieldAt 224 v63 1) w119 fun v120 w121 =>
 rv Tryz.prog (Instr.loadAt 35 v120) w121 fun v122 w123 =>
 rv Tryz.prog (Instr.fieldAt 224 v37 1) w123 fun v124 w125 =>
 rv Tryz.prog (Instr.loadAt 35 v124) w125 fun v126 w127 =>
 rv Tryz.prog (bin .leq 35 false v122 v126) w127 fun v128 w129 =>
 J99 (v128, ()) w129)
 (J99 ((.bool false), ()) w119)))
 (J46_3 K v50 v93 v63 s41 v37 v4 K43 s66))
def J46_5 (K : Kont) (v4 : Value) (s194 : Value × Unit) (w195 : World) : Prop :=
 ∀ _ : Nat → Value,
 ifB s194.1
 (K (.tuple #[(.pointer none), (.int .i64 2)]) w195)
 (K (.tuple #[v4, (.int .i64 0)]) w195)
def L46_6 (v39 : Value) (a2 : Value) (v37 : Value) (K : Kont) (v4 : Value) (s41 : Value × Value × Value × Value × Value × Unit) (w42 : World) (K43 : Value × Value × Value × Value × Value × Unit → World → Prop) : Prop :=
 ∀ _ : Nat → Value,
 rv Tryz.prog (bin .lss 3 false s41.2.2.2.2.1 v39) w42 fun v44 w45 =>
 ifB v44
 (rv Tryz.prog (Instr.indexAt 46 a2 s41.2.2.2.2.1) w45 fun v46 w47 =>
 rv Tryz.prog (Instr.loadAt 112 v46) w47 fun v48 w49 =>
 rv Tryz.prog (Instr.alloc 112 true (.tuple #[])) w49 fun v50 w51 =>
 ru Tryz.prog (Instr.storeAt 112 v50 v48) w51 fun w52 =>
 rv Tryz.prog (Instr.fieldAt 112 v50 0) w52 fun v53 w54 =>
 rv Tryz.prog (Instr.loadAt 35 v53) w54 fun v55 w56 =>
 rv Tryz.prog (Instr.fieldAt 112 v50 1) w56 fun v57 w58 =>
 rv Tryz.prog (Instr.loadAt 35 v57) w58 fun v59 w60 =>
 rv Tryz.prog (Instr.build 224 #[(0, v55), (1, v59)]) w60 fun v61 w62 =>
 rv Tryz.prog (Instr.alloc 224 true (.tuple #[])) w62 fun v63 w64 =>
 ru Tryz.prog (Instr.storeAt 224 v63 v61) w64 fun w65 =>
 JoinW (S := Value × Value × Unit) (fun J68 =>
 rv Tryz.prog (Instr.fieldAt 224 v63 0) w65 fun v69 w70 =>
 rv Tryz.prog (Instr.loadAt 35 v69) w70 fun v71 w72 =>
 rv Tryz.prog (Instr.fieldAt 224 v37 0) w72 fun v73 w74 =>
 rv Tryz.prog (Instr.loadAt 35 v73) w74 fun v75 w76 =>
 rv Tryz.prog (bin .neq 35 false v71 v75) w76 fun v77 w78 =>
 ifB v77
 (JoinW (S := Value × Unit) (fun J81 =>
 rv Tryz.prog (bin .neq 2 true s41.2.2.1 (.int .i64 0)) w78 fun v82 w83 =>
 ifB v82
 (J81 ((.bool true), ()) w83)
 (rv Tryz.prog (bin .neq 2 true s41.2.2.2.1 (.int .i64 0)) w83 fun v84 w85 =>
 J81 (v84, ()) w85))
 (J46_0 K J68 s41))
 (J68 (s41.2.1, s41.1, ()) w78))
 (J46_4 v4 v50 v63 v37 K s41 K43))
 (JoinW (S := Value × Unit) (fun J196 =>
 rv Tryz.prog (bin .neq 2 true s41.2.2.1 (.int .i64 0)) w45 fun v197 w198 =>
 ifB v197
 (J196 ((.bool true), ()) w198)
 (rv Tryz.prog (bin .neq 2 true s41.2.2.2.1 (.int .i64 0)) w198 fun v199 w200 =>
 J196 (v199, ()) w200))
 (J46_5 K v4))
def L46_7 (v14 : Value) (a1 : Value) (v4 : Value) (a2 : Value) (K : Kont) (s16 : Value × Unit) (w17 : World) (K18 : Value × Unit → World → Prop) : Prop :=
 ∀ _ : Nat → Value,
 rv Tryz.prog (bin .lss 3 false s16.1 v14) w17 fun v19 w20 =>
 ifB v19
 (rv Tryz.prog (Instr.indexAt 44 a1 s16.1) w20 fun v21 w22 =>
 rv Tryz.prog (Instr.loadAt 92 v21) w22 fun v23 w24 =>
 rv Tryz.prog (Instr.alloc 92 true (.tuple #[])) w24 fun v25 w26 =>
 ru Tryz.prog (Instr.storeAt 92 v25 v23) w26 fun w27 =>
 nilK v4 fun v28 => rdP Tryz.prog (Instr.fieldAt 201 v28 0) fun v29 =>
 rdW Tryz.prog (Instr.loadAt 198 v29) w27.drew fun v30 =>
 rdP Tryz.prog (Instr.fieldAt 92 v25 0) fun v31 =>
 rdW Tryz.prog (Instr.loadAt 35 v31) w27.drew fun v32 =>
 rdW Tryz.prog (Instr.loadAt 92 v25) w27.drew fun v33 =>
 rux Tryz.prog (xMapUp 198 v30 v32 v33) w27.drew fun w34 =>
 rv Tryz.prog (bin .add 3 true s16.1 (.int .i64 1)) w34 fun v35 w36 =>
 K18 (v35, ()) w36)
 (rv Tryz.prog (Instr.alloc 224 true (.tuple #[])) w20 fun v37 w38 =>
 rn Tryz.prog (builtin .len #[46] 3 #[false] #[a2]) w38 fun v39 w40 =>
 LoopW (S := Value × Value × Value × Value × Value × Unit) (L46_6 v39 a2 v37 K v4) ((.pointer none), (.int .i64 0), (.int .i64 0), (.int .i64 0), (.int .i64 0), ()) w40)
def F46 (a0 a1 a2 : Value) (w : World) (K : Kont) : Prop :=
 Ca Tryz.prog 129 #[a0, a1] w fun v0 w1 =>
 rv Tryz.prog (Op.unary .not v0) w1 fun v2 w3 =>
 ifB v2
 (K (.tuple #[(.pointer none), (.int .i64 2)]) w3)
 (Ca Tryz.prog 36 #[] w3 fun v4 w5 =>
 nilK v4 fun v6 => rv Tryz.prog (Instr.fieldAt 201 v6 0) w5 fun v7 w8 =>
 rv Tryz.prog (Instr.loadAt 198 v7) w8 fun v9 w10 =>
 rv Tryz.prog (Instr.build 92 #[(1, a0)]) w10 fun v11 w12 =>
 rux Tryz.prog (xMapUp 198 v9 (.int .u32 0) v11) w12 fun w13 =>
 rn Tryz.prog (builtin .len #[44] 3 #[false] #[a1]) w13 fun v14 w15 =>
 LoopW (S := Value × Unit) (L46_7 v14 a1 v4 a2 K) ((.int .i64 0), ()) w15)
theorem F46_eq (a0 a1 a2 : Value) (w : World) (K : Kont) : vcFnJ Tryz.prog Tryz.f46 [a0, a1, a2] w K = F46 a0 a1 a2 w K := by kernel_rfl
theorem F46_ok : okF Tryz.prog Tryz.f46 3 = true := by kernel_rfl
theorem ca46{a0 a1 a2 : Value} {w : World} {K : Kont} (h : F46 a0 a1 a2 w K) : Ca Tryz.prog 46 #[a0, a1, a2] w K :=
  ca_of_vcJ Tryz.noNum Tryz.func46 F46_ok (by rw [F46_eq]; exact h)
def J45_0 (K : Kont) (v15 : Value) (s6 : Value × Value × Value × Value × Unit) (K8 : Value × Value × Value × Value × Unit → World → Prop) (s18 : Value × Unit) (w19 : World) : Prop :=
 ∀ _ : Nat → Value,
 ifB s18.1
 (K (.tuple #[(.pointer none), (.int .i64 2)]) w19)
 (rv Tryz.prog (Instr.fieldAt 108 v15 0) w19 fun v53 w54 =>
 rv Tryz.prog (Instr.fieldAt 38 v53 0) w54 fun v55 w56 =>
 rv Tryz.prog (Instr.loadAt 35 v55) w56 fun v57 w58 =>
 rv Tryz.prog (bin .add 3 true s6.2.2.2.1 (.int .i64 1)) w58 fun v59 w60 =>
 K8 (s6.1, s6.2.1, v57, v59, ()) w60)
def L45_1 (v4 : Value) (a1 : Value) (K : Kont) (a0 : Value) (s6 : Value × Value × Value × Value × Unit) (w7 : World) (K8 : Value × Value × Value × Value × Unit → World → Prop) : Prop :=
 ∀ _ : Nat → Value,
 rv Tryz.prog (bin .lss 3 false s6.2.2.2.1 v4) w7 fun v9 w10 =>
 ifB v9
 (rv Tryz.prog (Instr.indexAt 45 a1 s6.2.2.2.1) w10 fun v11 w12 =>
 rx Tryz.prog (bigS 108 v11) w12 fun v13 w14 =>
 rx Tryz.prog (bigA 108) w14 fun v15 w16 =>
 rux Tryz.prog (bigU 108 v15 v13) w16 fun w17 =>
 JoinW (S := Value × Unit) (fun J20 =>
 rv Tryz.prog (Instr.fieldAt 108 v15 0) w17 fun v21 w22 =>
 rv Tryz.prog (Instr.fieldAt 38 v21 0) w22 fun v23 w24 =>
 rv Tryz.prog (Instr.loadAt 35 v23) w24 fun v25 w26 =>
 rv Tryz.prog (bin .leq 35 false v25 s6.2.2.1) w26 fun v27 w28 =>
 ifB v27
 (J20 ((.bool true), ()) w28)
 (rv Tryz.prog (Instr.fieldAt 108 v15 1) w28 fun v29 w30 =>
 rv Tryz.prog (Instr.loadAt 106 v29) w30 fun v31 w32 =>
 rv Tryz.prog (bin .lss 106 true v31 (.int .u8 1)) w32 fun v33 w34 =>
 ifB v33
 (J20 ((.bool true), ()) w34)
 (rv Tryz.prog (Instr.fieldAt 108 v15 1) w34 fun v35 w36 =>
 rv Tryz.prog (Instr.loadAt 106 v35) w36 fun v37 w38 =>
 rv Tryz.prog (bin .gtr 106 true v37 (.int .u8 3)) w38 fun v39 w40 =>
 ifB v39
 (J20 ((.bool true), ()) w40)
 (rv Tryz.prog (Instr.fieldAt 108 v15 0) w40 fun v41 w42 =>
 rx Tryz.prog (bigS 38 v41) w42 fun v43 w44 =>
 rv Tryz.prog (Instr.fieldAt 108 v15 2) w44 fun v45 w46 =>
 rv Tryz.prog (Instr.loadAt 2 v45) w46 fun v47 w48 =>
 Ca Tryz.prog 127 #[v43, v47] w48 fun v49 w50 =>
 rv Tryz.prog (Op.unary .not v49) w50 fun v51 w52 =>
 J20 (v51, ()) w52))))
 (J45_0 K v15 s6 K8))
 (Ca Tryz.prog 128 #[a1] w10 fun v61 w62 =>
 rv Tryz.prog (Instr.build 197 #[(0, (.bool true)), (1, a0), (2, v61)]) w62 fun v63 w64 =>
 rv Tryz.prog (Instr.box 197 v63) w64 fun v65 w66 =>
 K (.tuple #[v65, (.int .i64 0)]) w66)
def F45 (a0 a1 : Value) (w : World) (K : Kont) : Prop :=
 rn Tryz.prog (builtin .len #[45] 3 #[false] #[a1]) w fun v0 w1 =>
 rv Tryz.prog (bin .gtr 3 true v0 (.int .i64 16)) w1 fun v2 w3 =>
 ifB v2
 (K (.tuple #[(.pointer none), (.int .i64 2)]) w3)
 (rn Tryz.prog (builtin .len #[45] 3 #[false] #[a1]) w3 fun v4 w5 =>
 LoopW (S := Value × Value × Value × Value × Unit) (L45_1 v4 a1 K a0) ((.pointer none), (.int .i64 0), (.int .u32 0), (.int .i64 0), ()) w5)
theorem F45_eq (a0 a1 : Value) (w : World) (K : Kont) : vcFnJ Tryz.prog Tryz.f45 [a0, a1] w K = F45 a0 a1 w K := by kernel_rfl
theorem F45_ok : okF Tryz.prog Tryz.f45 2 = true := by kernel_rfl
theorem ca45{a0 a1 : Value} {w : World} {K : Kont} (h : F45 a0 a1 w K) : Ca Tryz.prog 45 #[a0, a1] w K :=
  ca_of_vcJ Tryz.noNum Tryz.func45 F45_ok (by rw [F45_eq]; exact h)
def F49 (a0 a1 : Value) (w : World) (K : Kont) : Prop :=
 rx Tryz.prog (bigA 108) w fun v0 w1 =>
 nilK a0 fun v2 => rv Tryz.prog (Instr.fieldAt 66 v2 0) w1 fun v3 w4 =>
 rv Tryz.prog (Instr.loadAt 61 v3) w4 fun v5 w6 =>
 Ca Tryz.prog 123 #[v5, a1] w6 fun v7 w8 =>
 rv Tryz.prog (Instr.extract v7 0) w8 fun v9 w10 =>
 rv Tryz.prog (Instr.extract v7 1) w10 fun v11 w12 =>
 rx Tryz.prog (bigA 108) w12 fun v13 w14 =>
 rux Tryz.prog (bigU 108 v13 v9) w14 fun w15 =>
 rdX Tryz.prog (bigS 108 v13) w15.drew fun v16 =>
 rdP Tryz.prog (bin .eql 26 true v11 (.int .i64 0)) fun v17 =>
 ifB v17
 (rdP Tryz.prog (Instr.fieldAt 108 v13 1) fun v18 =>
 rdW Tryz.prog (Instr.loadAt 106 v18) w15.drew fun v19 =>
 rdP Tryz.prog (bin .neq 106 true v19 (.int .u8 3)) fun v20 =>
 rux Tryz.prog (bigU 108 v0 v16) w15.drew fun w21 =>
 Sem.run Tryz.prog (Instr.loadAt 106 v18) w21 = .ok v19 w21 ∧ 
 (rdX Tryz.prog (bigS 108 v0) w21 fun v22 =>
 K (.tuple #[v22, v20]) w21))
 (rux Tryz.prog (bigU 108 v0 v16) w15.drew fun w23 =>
 rdX Tryz.prog (bigS 108 v0) w23 fun v24 =>
 K (.tuple #[v24, (.bool false)]) w23)
theorem F49_eq (a0 a1 : Value) (w : World) (K : Kont) : vcFnJ Tryz.prog Tryz.f49 [a0, a1] w K = F49 a0 a1 w K := by kernel_rfl
theorem F49_ok : okF Tryz.prog Tryz.f49 2 = true := by kernel_rfl
theorem ca49{a0 a1 : Value} {w : World} {K : Kont} (h : F49 a0 a1 w K) : Ca Tryz.prog 49 #[a0, a1] w K :=
  ca_of_vcJ Tryz.noNum Tryz.func49 F49_ok (by rw [F49_eq]; exact h)
def J134_0 (K : Kont) (v6 : Value) (a3 : Value) (s44 : Value × Unit) (w45 : World) : Prop :=
 ∀ _ : Nat → Value,
 ifB s44.1
 (K (.bool false) w45)
 (rv Tryz.prog (Instr.fieldAt 117 v6 0) w45 fun v91 w92 =>
 rv Tryz.prog (Instr.loadAt 27 v91) w92 fun v93 w94 =>
 rx Tryz.prog (xLook 232 a3 v93 false) w94 fun v95 w96 =>
 rv Tryz.prog (bin .add 3 true v95 (.int .i64 1)) w96 fun v97 w98 =>
 rux Tryz.prog (xMapUp 232 a3 v93 v97) w98 fun w99 =>
 K (.bool true) w99)
def J134_1 (v17 : Value) (v6 : Value) (v19 : Value) (a2 : Value) (a0 : Value) (a3 : Value) (K : Kont) (s22 : Value × Value × Unit) (w23 : World) : Prop :=
 ∀ _ : Nat → Value,
 JoinW (S := Value × Unit) (fun J46 =>
 rdP Tryz.prog (Op.unary .not v17) fun v47 =>
 ifB v47
 (J46 ((.bool true), ()) w23.drew)
 (rdP Tryz.prog (bin .neq 26 true s22.2.1 (.int .i64 0)) fun v48 =>
 ifB v48
 (J46 ((.bool true), ()) w23.drew)
 (rdP Tryz.prog (Instr.fieldAt 92 s22.1 3) fun v49 =>
 rdW Tryz.prog (Instr.loadAt 4 v49) w23.drew fun v50 =>
 ifB v50
 (J46 ((.bool true), ()) w23.drew)
 (rdP Tryz.prog (Instr.fieldAt 92 s22.1 2) fun v51 =>
 rdW Tryz.prog (Instr.loadAt 4 v51) w23.drew fun v52 =>
 ifB v52
 (J46 ((.bool true), ()) w23.drew)
 (rdW Tryz.prog (Instr.loadAt 117 v6) w23.drew fun v53 =>
 Ca Tryz.prog 222 #[v53] w23.drew fun v54 w55 =>
 rdP Tryz.prog (Op.unary .not v54) fun v56 =>
 ifB v56
 (J46 ((.bool true), ()) w55)
 (rdP Tryz.prog (Instr.fieldAt 108 v19 0) fun v57 =>
 rdX Tryz.prog (bigS 38 v57) w55 fun v58 =>
 rdP Tryz.prog (Instr.fieldAt 117 v6 3) fun v59 =>
 rdW Tryz.prog (Instr.loadAt 2 v59) w55 fun v60 =>
 Ca Tryz.prog 127 #[v58, v60] w55 fun v61 w62 =>
 rdP Tryz.prog (Op.unary .not v61) fun v63 =>
 ifB v63
 (J46 ((.bool true), ()) w62)
 (ifB a2
 (rdP Tryz.prog (Instr.fieldAt 108 v19 0) fun v64 =>
 rdX Tryz.prog (bigS 38 v64) w62 fun v65 =>
 rdP Tryz.prog (Instr.fieldAt 117 v6 4) fun v66 =>
 rdW Tryz.prog (Instr.loadAt 2 v66) w62 fun v67 =>
 Ca Tryz.prog 223 #[v65, v67] w62 fun v68 w69 =>
 rdP Tryz.prog (Op.unary .not v68) fun v70 =>
 ifB v70
 (J46 ((.bool true), ()) w69)
 (rdP Tryz.prog (Instr.fieldAt 117 v6 0) fun v71 =>
 rdW Tryz.prog (Instr.loadAt 27 v71) w69 fun v72 =>
 nilK a0 fun v73 => rdP Tryz.prog (Instr.fieldAt 66 v73 4) fun v74 =>
 rdW Tryz.prog (Instr.loadAt 27 v74) w69 fun v75 =>
 rdP Tryz.prog (bin .geq 27 false v72 v75) fun v76 =>
 ifB v76
 (J46 ((.bool true), ()) w69)
 (rdP Tryz.prog (Instr.fieldAt 117 v6 0) fun v77 =>
 rdW Tryz.prog (Instr.loadAt 27 v77) w69 fun v78 =>
 rdX Tryz.prog (xLook 232 a3 v78 false) w69 fun v79 =>
 rdP Tryz.prog (bin .gtr 3 true v79 (.int .i64 0)) fun v80 =>
 J46 (v80, ()) w69)))
 (rdP Tryz.prog (Instr.fieldAt 117 v6 0) fun v81 =>
 rdW Tryz.prog (Instr.loadAt 27 v81) w62 fun v82 =>
 nilK a0 fun v83 => rdP Tryz.prog (Instr.fieldAt 66 v83 4) fun v84 =>
 rdW Tryz.prog (Instr.loadAt 27 v84) w62 fun v85 =>
 rdP Tryz.prog (bin .geq 27 false v82 v85) fun v86 =>
 ifB v86
 (J46 ((.bool true), ()) w62)
 (rdP Tryz.prog (Instr.fieldAt 117 v6 0) fun v87 =>
 rdW Tryz.prog (Instr.loadAt 27 v87) w62 fun v88 =>
 rdX Tryz.prog (xLook 232 a3 v88 false) w62 fun v89 =>
 rdP Tryz.prog (bin .gtr 3 true v89 (.int .i64 0)) fun v90 =>
 J46 (v90, ()) w62)))))))))
 (J134_0 K v6 a3)
def F134 (a0 a1 a2 a3 : Value) (w : World) (K : Kont) : Prop :=
 rv Tryz.prog (Instr.box 119 a1) w fun v0 w1 =>
 rv Tryz.prog (Instr.fieldAt 119 v0 1) w1 fun v2 w3 =>
 rv Tryz.prog (Instr.loadAt 117 v2) w3 fun v4 w5 =>
 rv Tryz.prog (Instr.alloc 117 true (.tuple #[])) w5 fun v6 w7 =>
 ru Tryz.prog (Instr.storeAt 117 v6 v4) w7 fun w8 =>
 rv Tryz.prog (Instr.fieldAt 119 v0 0) w8 fun v9 w10 =>
 rv Tryz.prog (Instr.loadAt 35 v9) w10 fun v11 w12 =>
 Ca Tryz.prog 49 #[a0, v11] w12 fun v13 w14 =>
 rv Tryz.prog (Instr.extract v13 0) w14 fun v15 w16 =>
 rv Tryz.prog (Instr.extract v13 1) w16 fun v17 w18 =>
 rx Tryz.prog (bigA 108) w18 fun v19 w20 =>
 rux Tryz.prog (bigU 108 v19 v15) w20 fun w21 =>
 JoinW (S := Value × Value × Unit) (fun J24 =>
 nilK a0 fun v25 => rdP Tryz.prog (Instr.fieldAt 66 v25 1) fun v26 =>
 rdW Tryz.prog (Instr.loadAt 62 v26) w21.drew fun v27 =>
 rdP Tryz.prog (Instr.fieldAt 117 v6 1) fun v28 =>
 rdW Tryz.prog (Instr.loadAt 35 v28) w21.drew fun v29 =>
 (Ca Tryz.prog 52 #[v27, v29] w21.drew fun v30 w31 =>
 rdP Tryz.prog (Instr.extract v30 0) fun v32 =>
 rdP Tryz.prog (Instr.extract v30 1) fun v33 =>
 rv Tryz.prog (Instr.alloc 92 true (.tuple #[])) w31 fun v34 w35 =>
 ru Tryz.prog (Instr.storeAt 92 v34 v32) w35 fun w36 =>
 J24 (v34, v33, ()) w36)
 ∧ (rv Tryz.prog (Instr.alloc 92 true (.tuple #[])) w21.drew fun v37 w38 =>
 Sem.run Tryz.prog (Instr.loadAt 35 v28) w38 = .ok v29 w38 ∧ Sem.run Tryz.prog (Instr.loadAt 62 v26) w38 = .ok v27 w38 ∧ 
 (Ca Tryz.prog 52 #[v27, v29] w38 fun v39 w40 =>
 rdP Tryz.prog (Instr.extract v39 0) fun v41 =>
 rdP Tryz.prog (Instr.extract v39 1) fun v42 =>
 ru Tryz.prog (Instr.storeAt 92 v37 v41) w40 fun w43 =>
 J24 (v37, v42, ()) w43)))
 (J134_1 v17 v6 v19 a2 a0 a3 K)
theorem F134_eq (a0 a1 a2 a3 : Value) (w : World) (K : Kont) : vcFnJ Tryz.prog Tryz.f134 [a0, a1, a2, a3] w K = F134 a0 a1 a2 a3 w K := by kernel_rfl
theorem F134_ok : okF Tryz.prog Tryz.f134 4 = true := by kernel_rfl
theorem ca134{a0 a1 a2 a3 : Value} {w : World} {K : Kont} (h : F134 a0 a1 a2 a3 w K) : Ca Tryz.prog 134 #[a0, a1, a2, a3] w K :=
  ca_of_vcJ Tryz.noNum Tryz.func134 F134_ok (by rw [F134_eq]; exact h)
def J50_0 (K : Kont) (s10 : Value × Value × Unit) (K12 : Value × Value × Unit → World → Prop) (s53 : Value × Unit) (w54 : World) : Prop :=
 ∀ _ : Nat → Value,
 ifB s53.1
 (K (.bool false) w54)
 (rv Tryz.prog (bin .add 3 true s10.2.1 (.int .i64 1)) w54 fun v66 w67 =>
 K12 (s10.1, v66, ()) w67)
def J50_1 (K : Kont) (s10 : Value × Value × Unit) (K12 : Value × Value × Unit → World → Prop) (s28 : Value × Value × Unit) (w29 : World) : Prop :=
 ∀ _ : Nat → Value,
 JoinW (S := Value × Unit) (fun J55 =>
 rv Tryz.prog (bin .neq 26 true s28.2.1 (.int .i64 0)) w29 fun v56 w57 =>
 ifB v56
 (J55 ((.bool true), ()) w57)
 (rv Tryz.prog (Instr.fieldAt 235 s28.1 1) w57 fun v58 w59 =>
 rv Tryz.prog (Instr.loadAt 29 v58) w59 fun v60 w61 =>
 rn Tryz.prog (builtin .len #[29] 3 #[false] #[v60]) w61 fun v62 w63 =>
 rv Tryz.prog (bin .gtr 3 true v62 (.int .i64 0)) w63 fun v64 w65 =>
 J55 (v64, ()) w65))
 (J50_0 K s10 K12)
def J50_2 (J88 : Value × Unit → World → Prop) (s74 : Value × Value × Value × Unit) (s89 : Value × Unit) (w90 : World) : Prop :=
 ∀ _ : Nat → Value,
 ifB s89.1
 (J88 ((.int .u64 0), ()) w90)
 (J88 (s74.2.1, ()) w90)
def J50_3 (K : Kont) (v83 : Value) (a0 : Value) (s74 : Value × Value × Value × Unit) (K76 : Value × Value × Value × Unit → World → Prop) (s102 : Value × Unit) (w103 : World) : Prop :=
 ∀ _ : Nat → Value,
 ifB s102.1
 (K (.bool false) w103)
 (rv Tryz.prog (Instr.fieldAt 119 v83 1) w103 fun v121 w122 =>
 rv Tryz.prog (Instr.fieldAt 117 v121 0) w122 fun v123 w124 =>
 rv Tryz.prog (Instr.loadAt 27 v123) w124 fun v125 w126 =>
 nilK a0 fun v127 => rdP Tryz.prog (Instr.fieldAt 66 v127 3) fun v128 =>
 rdW Tryz.prog (Instr.loadAt 64 v128) w126.drew fun v129 =>
 rdP Tryz.prog (Instr.fieldAt 119 v83 0) fun v130 =>
 rdW Tryz.prog (Instr.loadAt 35 v130) w126.drew fun v131 =>
 nilK a0 fun v132 => rdP Tryz.prog (Instr.fieldAt 66 v132 3) fun v133 =>
 rdW Tryz.prog (Instr.loadAt 64 v133) w126.drew fun v134 =>
 rdP Tryz.prog (Instr.fieldAt 119 v83 0) fun v135 =>
 rdW Tryz.prog (Instr.loadAt 35 v135) w126.drew fun v136 =>
 rdX Tryz.prog (xLook 64 v134 v136 false) w126.drew fun v137 =>
 rdP Tryz.prog (Instr.fieldAt 119 v83 1) fun v138 =>
 rdW Tryz.prog (Instr.loadAt 117 v138) w126.drew fun v139 =>
 rx Tryz.prog (xLit 133 1 [(0, v139)]) w126.drew fun v140 w141 =>
 Sem.run Tryz.prog (xLook 64 v134 v136 false) w141 = .ok v137 w141 ∧ Sem.run Tryz.prog (Instr.loadAt 35 v135) w141 = .ok v136 w141 ∧ Sem.run Tryz.prog (Instr.loadAt 64 v133) w141 = .ok v134 w141 ∧ Sem.run Tryz.prog (Instr.loadAt 35 v130) w141 = .ok v131 w141 ∧ Sem.run Tryz.prog (Instr.loadAt 64 v128) w141 = .ok v129 w141 ∧ 
 (rx Tryz.prog (xAppend #[133, 133] 133 [v137, v140]) w141 fun v142 w143 =>
 Sem.run Tryz.prog (Instr.loadAt 35 v130) w143 = .ok v131 w143 ∧ Sem.run Tryz.prog (Instr.loadAt 64 v128) w143 = .ok v129 w143 ∧ 
 (rux Tryz.prog (xMapUp 64 v129 v131 v142) w143 fun w144 =>
 rv Tryz.prog (bin .add 3 true s74.2.2.1 (.int .i64 1)) w144 fun v145 w146 =>
 K76 (s74.1, v125, v145, ()) w146)))
def J50_4 (v83 : Value) (a0 : Value) (v2 : Value) (K : Kont) (s74 : Value × Value × Value × Unit) (K76 : Value × Value × Value × Unit → World → Prop) (s86 : Value × Unit) (w87 : World) : Prop :=
 ∀ _ : Nat → Value,
 JoinW (S := Value × Unit) (fun J104 =>
 rdW Tryz.prog (Instr.loadAt 119 v83) w87.drew fun v105 =>
 Ca Tryz.prog 134 #[a0, v105, (.bool false), v2] w87.drew fun v106 w107 =>
 rdP Tryz.prog (Op.unary .not v106) fun v108 =>
 ifB v108
 (J104 ((.bool true), ()) w107)
 (rdP Tryz.prog (Instr.fieldAt 119 v83 1) fun v109 =>
 rdP Tryz.prog (Instr.fieldAt 117 v109 0) fun v110 =>
 rdW Tryz.prog (Instr.loadAt 27 v110) w107 fun v111 =>
 rdP Tryz.prog (bin .leq 27 false v111 s86.1) fun v112 =>
 ifB v112
 (J104 ((.bool true), ()) w107)
 (nilK a0 fun v113 => rdP Tryz.prog (Instr.fieldAt 66 v113 3) fun v114 =>
 rdW Tryz.prog (Instr.loadAt 64 v114) w107 fun v115 =>
 rdP Tryz.prog (Instr.fieldAt 119 v83 0) fun v116 =>
 rdW Tryz.prog (Instr.loadAt 35 v116) w107 fun v117 =>
 rdX Tryz.prog (xLook 64 v115 v117 false) w107 fun v118 =>
 rdW Tryz.prog (Builtin.len_ #[133] 3 #[v118]) w107 fun v119 =>
 rdP Tryz.prog (bin .geq 3 true v119 (.int .i64 50)) fun v120 =>
 J104 (v120, ()) w107)))
 (J50_3 K v83 a0 s74 K76)
def L50_5 (v72 : Value) (v70 : Value) (v0 : Value) (a0 : Value) (v2 : Value) (K : Kont) (s74 : Value × Value × Value × Unit) (w75 : World) (K76 : Value × Value × Value × Unit → World → Prop) : Prop :=
 ∀ _ : Nat → Value,
 rv Tryz.prog (bin .lss 3 false s74.2.2.1 v72) w75 fun v77 w78 =>
 ifB v77
 (rv Tryz.prog (Instr.indexAt 47 v70 s74.2.2.1) w78 fun v79 w80 =>
 rv Tryz.prog (Instr.loadAt 119 v79) w80 fun v81 w82 =>
 rv Tryz.prog (Instr.alloc 119 true (.tuple #[])) w82 fun v83 w84 =>
 ru Tryz.prog (Instr.storeAt 119 v83 v81) w84 fun w85 =>
 JoinW (S := Value × Unit) (fun J88 =>
 JoinW (S := Value × Unit) (fun J91 =>
 rdP Tryz.prog (bin .gtr 3 true s74.2.2.1 (.int .i64 0)) fun v92 =>
 ifB v92
 (rdP Tryz.prog (Instr.fieldAt 119 v83 0) fun v93 =>
 rdW Tryz.prog (Instr.loadAt 35 v93) w85.drew fun v94 =>
 rdP Tryz.prog (Instr.fieldAt 49 v0 7) fun v95 =>
 rdW Tryz.prog (Instr.loadAt 47 v95) w85.drew fun v96 =>
 rdP Tryz.prog (bin .sub 3 true s74.2.2.1 (.int .i64 1)) fun v97 =>
 rdP Tryz.prog (Instr.indexAt 47 v96 v97) fun v98 =>
 rdP Tryz.prog (Instr.fieldAt 119 v98 0) fun v99 =>
 rdW Tryz.prog (Instr.loadAt 35 v99) w85.drew fun v100 =>
 rdP Tryz.prog (bin .neq 35 false v94 v100) fun v101 =>
 J91 (v101, ()) w85.drew)
 (J91 ((.bool false), ()) w85.drew))
 (J50_2 J88 s74))
 (J50_4 v83 a0 v2 K s74 K76))
 (K (.bool true) w78)
def L50_6 (v8 : Value) (v6 : Value) (a0 : Value) (v2 : Value) (K : Kont) (v0 : Value) (s10 : Value × Value × Unit) (w11 : World) (K12 : Value × Value × Unit → World → Prop) : Prop :=
 ∀ _ : Nat → Value,
 rv Tryz.prog (bin .lss 3 false s10.2.1 v8) w11 fun v13 w14 =>
 ifB v13
 (rv Tryz.prog (Instr.indexAt 47 v6 s10.2.1) w14 fun v15 w16 =>
 rv Tryz.prog (Instr.loadAt 119 v15) w16 fun v17 w18 =>
 rv Tryz.prog (Instr.alloc 119 true (.tuple #[])) w18 fun v19 w20 =>
 ru Tryz.prog (Instr.storeAt 119 v19 v17) w20 fun w21 =>
 rv Tryz.prog (Instr.loadAt 119 v19) w21 fun v22 w23 =>
 Ca Tryz.prog 134 #[a0, v22, (.bool true), v2] w23 fun v24 w25 =>
 rv Tryz.prog (Op.unary .not v24) w25 fun v26 w27 =>
 ifB v26
 (K (.bool false) w27)
 (JoinW (S := Value × Value × Unit) (fun J30 =>
 nilK a0 fun v31 => rdP Tryz.prog (Instr.fieldAt 66 v31 2) fun v32 =>
 rdW Tryz.prog (Instr.loadAt 63 v32) w27.drew fun v33 =>
 rdP Tryz.prog (Instr.fieldAt 119 v19 0) fun v34 =>
 rdW Tryz.prog (Instr.loadAt 35 v34) w27.drew fun v35 =>
 rdX Tryz.prog (xLook 63 v33 v35 false) w27.drew fun v36 =>
 rdP Tryz.prog (Instr.fieldAt 119 v19 1) fun v37 =>
 rdW Tryz.prog (Instr.loadAt 117 v37) w27.drew fun v38 =>
 (Ca Tryz.prog 135 #[v36, v38, (.int .u8 4)] w27.drew fun v39 w40 =>
 rdP Tryz.prog (Instr.extract v39 0) fun v41 =>
 rdP Tryz.prog (Instr.extract v39 1) fun v42 =>
 rv Tryz.prog (Instr.alloc 235 true (.tuple #[])) w40 fun v43 w44 =>
 ru Tryz.prog (Instr.storeAt 235 v43 v41) w44 fun w45 =>
 J30 (v43, v42, ()) w45)
 ∧ (rv Tryz.prog (Instr.alloc 235 true (.tuple #[])) w27.drew fun v46 w47 =>
 Sem.run Tryz.prog (Instr.loadAt 117 v37) w47 = .ok v38 w47 ∧ Sem.run Tryz.prog (xLook 63 v33 v35 false) w47 = .ok v36 w47 ∧ Sem.run Tryz.prog (Instr.loadAt 35 v34) w47 = .ok v35 w47 ∧ Sem.run Tryz.prog (Instr.loadAt 63 v32) w47 = .ok v33 w47 ∧ 
 (Ca Tryz.prog 135 #[v36, v38, (.int .u8 4)] w47 fun v48 w49 =>
 rdP Tryz.prog (Instr.extract v48 0) fun v50 =>
 rdP Tryz.prog (Instr.extract v48 1) fun v51 =>
 ru Tryz.prog (Instr.storeAt 235 v46 v50) w49 fun w52 =>
 J30 (v46, v51, ()) w52)))
 (J50_1 K s10 K12)))
 (rv Tryz.prog (Instr.fieldAt 49 v0 7) w14 fun v68 w69 =>
 rv Tryz.prog (Instr.loadAt 47 v68) w69 fun v70 w71 =>
 rn Tryz.prog (builtin .len #[47] 3 #[false] #[v70]) w71 fun v72 w73 =>
 LoopW (S := Value × Value × Value × Unit) (L50_5 v72 v70 v0 a0 v2 K) (s10.1, (.int .u64 0), (.int .i64 0), ()) w73)
def F50 (a0 a1 : Value) (w : World) (K : Kont) : Prop :=
 rv Tryz.prog (Instr.box 49 a1) w fun v0 w1 =>
 rv Tryz.prog (Instr.makeMap 232 none) w1 fun v2 w3 =>
 rv Tryz.prog (Instr.fieldAt 49 v0 6) w3 fun v4 w5 =>
 rv Tryz.prog (Instr.loadAt 47 v4) w5 fun v6 w7 =>
 rn Tryz.prog (builtin .len #[47] 3 #[false] #[v6]) w7 fun v8 w9 =>
 LoopW (S := Value × Value × Unit) (L50_6 v8 v6 a0 v2 K v0) ((.bool false), (.int .i64 0), ()) w9
theorem F50_eq (a0 a1 : Value) (w : World) (K : Kont) : vcFnJ Tryz.prog Tryz.f50 [a0, a1] w K = F50 a0 a1 w K := by kernel_rfl
theorem F50_ok : okF Tryz.prog Tryz.f50 2 = true := by kernel_rfl
theorem ca50{a0 a1 : Value} {w : World} {K : Kont} (h : F50 a0 a1 w K) : Ca Tryz.prog 50 #[a0, a1] w K :=
  ca_of_vcJ Tryz.noNum Tryz.func50 F50_ok (by rw [F50_eq]; exact h)
def J13_0 (mk89 : List Nat) (K : Kont) (v65 : Value) (s147 : Value × Unit) (w148 : World) : Prop :=
 ∀ _ : Nat → Value,
 ifB s147.1
 (retD (mk89 ++ []) w148 fun w174 =>
 K (.tuple #[(.pointer none), (.int .i64 2)]) w174)
 (rv Tryz.prog (Instr.loadAt 23 v65) w148 fun v175 w176 =>
 retD (mk89 ++ []) w176 fun w177 =>
 K (.tuple #[v175, (.int .i64 0)]) w177)
def L13_1 (v97 : Value) (v95 : Value) (v65 : Value) (mk89 : List Nat) (K : Kont) (v0 : Value) (s99 : Value × Value × Value × Unit) (w100 : World) (K101 : Value × Value × Value × Unit → World → Prop) : Prop :=
 ∀ _ : Nat → Value,
 rv Tryz.prog (bin .lss 3 false s99.2.2.1 v97) w100 fun v102 w103 =>
 ifB v102
 (rv Tryz.prog (Instr.indexAt 46 v95 s99.2.2.1) w103 fun v104 w105 =>
 rv Tryz.prog (Instr.loadAt 112 v104) w105 fun v106 w107 =>
 rv Tryz.prog (Instr.alloc 112 true (.tuple #[])) w107 fun v108 w109 =>
 ru Tryz.prog (Instr.storeAt 112 v108 v106) w109 fun w110 =>
 rv Tryz.prog (Instr.loadAt 23 v65) w110 fun v111 w112 =>
 rv Tryz.prog (Instr.fieldAt 112 v108 0) w112 fun v113 w114 =>
 rv Tryz.prog (Instr.loadAt 35 v113) w114 fun v115 w116 =>
 Ca Tryz.prog 49 #[v111, v115] w116 fun v117 w118 =>
 rv Tryz.prog (Instr.extract v117 0) w118 fun v119 w120 =>
 rv Tryz.prog (Instr.extract v117 1) w120 fun v121 w122 =>
 rx Tryz.prog (bigA 108) w122 fun v123 w124 =>
 rux Tryz.prog (bigU 108 v123 v119) w124 fun w125 =>
 rv Tryz.prog (Op.unary .not v121) w125 fun v126 w127 =>
 ifB v126
 (retD (mk89 ++ []) w127 fun w128 =>
 K (.tuple #[(.pointer none), (.int .i64 2)]) w128)
 (rv Tryz.prog (bin .add 3 true s99.2.2.1 (.int .i64 1)) w127 fun v129 w130 =>
 K101 (s99.1, s99.2.1, v129, ()) w130))
 (rv Tryz.prog (Instr.loadAt 23 v65) w103 fun v131 w132 =>
 rv Tryz.prog (Instr.loadAt 49 v0) w132 fun v133 w134 =>
 Ca Tryz.prog 50 #[v131, v133] w134 fun v135 w136 =>
 rv Tryz.prog (Op.unary .not v135) w136 fun v137 w138 =>
 ifB v137
 (retD (mk89 ++ []) w138 fun w139 =>
 K (.tuple #[(.pointer none), (.int .i64 2)]) w139)
 (rv Tryz.prog (Instr.loadAt 23 v65) w138 fun v140 w141 =>
 Ca Tryz.prog 14 #[v140] w141 fun v142 w143 =>
 rv Tryz.prog (Instr.alloc 49 true (.tuple #[])) w143 fun v144 w145 =>
 ru Tryz.prog (Instr.storeAt 49 v144 v142) w145 fun w146 =>
 JoinW (S := Value × Unit) (fun J149 =>
 rv Tryz.prog (Instr.fieldAt 49 v144 6) w146 fun v150 w151 =>
 rv Tryz.prog (Instr.loadAt 47 v150) w151 fun v152 w153 =>
 rv Tryz.prog (Instr.fieldAt 49 v0 6) w153 fun v154 w155 =>
 rv Tryz.prog (Instr.loadAt 47 v154) w155 fun v156 w157 =>
 Ca Tryz.prog 51 #[v152, v156] w157 fun v158 w159 =>
 rv Tryz.prog (Op.unary .not v158) w159 fun v160 w161 =>
 ifB v160
 (J149 ((.bool true), ()) w161)
 (rv Tryz.prog (Instr.fieldAt 49 v144 7) w161 fun v162 w163 =>
 rv Tryz.prog (Instr.loadAt 47 v162) w163 fun v164 w165 =>
 rv Tryz.prog (Instr.fieldAt 49 v0 7) w165 fun v166 w167 =>
 rv Tryz.prog (Instr.loadAt 47 v166) w167 fun v168 w169 =>
 Ca Tryz.prog 51 #[v164, v168] w169 fun v170 w171 =>
 rv Tryz.prog (Op.unary .not v170) w171 fun v172 w173 =>
 J149 (v172, ()) w173))
 (J13_0 mk89 K v65)))
def J13_2 (mk89 : List Nat) (K : Kont) (v65 : Value) (s236 : Value × Unit) (w237 : World) : Prop :=
 ∀ _ : Nat → Value,
 ifB s236.1
 (retD (mk89 ++ []) w237 fun w263 =>
 K (.tuple #[(.pointer none), (.int .i64 2)]) w263)
 (rv Tryz.prog (Instr.loadAt 23 v65) w237 fun v264 w265 =>
 retD (mk89 ++ []) w265 fun w266 =>
 K (.tuple #[v264, (.int .i64 0)]) w266)
def L13_3 (v186 : Value) (v184 : Value) (v65 : Value) (mk89 : List Nat) (K : Kont) (v0 : Value) (s188 : Value × Value × Value × Unit) (w189 : World) (K190 : Value × Value × Value × Unit → World → Prop) : Prop :=
 ∀ _ : Nat → Value,
 rv Tryz.prog (bin .lss 3 false s188.2.2.1 v186) w189 fun v191 w192 =>
 ifB v191
 (rv Tryz.prog (Instr.indexAt 46 v184 s188.2.2.1) w192 fun v193 w194 =>
 rv Tryz.prog (Instr.loadAt 112 v193) w194 fun v195 w196 =>
 rv Tryz.prog (Instr.alloc 112 true (.tuple #[])) w196 fun v197 w198 =>
 ru Tryz.prog (Instr.storeAt 112 v197 v195) w198 fun w199 =>
 rv Tryz.prog (Instr.loadAt 23 v65) w199 fun v200 w201 =>
 rv Tryz.prog (Instr.fieldAt 112 v197 0) w201 fun v202 w203 =>
 rv Tryz.prog (Instr.loadAt 35 v202) w203 fun v204 w205 =>
 Ca Tryz.prog 49 #[v200, v204] w205 fun v206 w207 =>
 rv Tryz.prog (Instr.extract v206 0) w207 fun v208 w209 =>
 rv Tryz.prog (Instr.extract v206 1) w209 fun v210 w211 =>
 rx Tryz.prog (bigA 108) w211 fun v212 w213 =>
 rux Tryz.prog (bigU 108 v212 v208) w213 fun w214 =>
 rv Tryz.prog (Op.unary .not v210) w214 fun v215 w216 =>
 ifB v215
 (retD (mk89 ++ []) w216 fun w217 =>
 K (.tuple #[(.pointer none), (.int .i64 2)]) w217)
 (rv Tryz.prog (bin .add 3 true s188.2.2.1 (.int .i64 1)) w216 fun v218 w219 =>
 K190 (s188.1, s188.2.1, v218, ()) w219))
 (rv Tryz.prog (Instr.loadAt 23 v65) w192 fun v220 w221 =>
 rv Tryz.prog (Instr.loadAt 49 v0) w221 fun v222 w223 =>
 Ca Tryz.prog 50 #[v220, v222] w223 fun v224 w225 =>
 rv Tryz.prog (Op.unary .not v224) w225 fun v226 w227 =>
 ifB v226
 (retD (mk89 ++ []) w227 fun w228 =>
 K (.tuple #[(.pointer none), (.int .i64 2)]) w228)
 (rv Tryz.prog (Instr.loadAt 23 v65) w227 fun v229 w230 =>
 Ca Tryz.prog 14 #[v229] w230 fun v231 w232 =>
 rv Tryz.prog (Instr.alloc 49 true (.tuple #[])) w232 fun v233 w234 =>
 ru Tryz.prog (Instr.storeAt 49 v233 v231) w234 fun w235 =>
 JoinW (S := Value × Unit) (fun J238 =>
 rv Tryz.prog (Instr.fieldAt 49 v233 6) w235 fun v239 w240 =>
 rv Tryz.prog (Instr.loadAt 47 v239) w240 fun v241 w242 =>
 rv Tryz.prog (Instr.fieldAt 49 v0 6) w242 fun v243 w244 =>
 rv Tryz.prog (Instr.loadAt 47 v243) w244 fun v245 w246 =>
 Ca Tryz.prog 51 #[v241, v245] w246 fun v247 w248 =>
 rv Tryz.prog (Op.unary .not v247) w248 fun v249 w250 =>
 ifB v249
 (J238 ((.bool true), ()) w250)
 (rv Tryz.prog (Instr.fieldAt 49 v233 7) w250 fun v251 w252 =>
 rv Tryz.prog (Instr.loadAt 47 v251) w252 fun v253 w254 =>
 rv Tryz.prog (Instr.fieldAt 49 v0 7) w254 fun v255 w256 =>
 rv Tryz.prog (Instr.loadAt 47 v255) w256 fun v257 w258 =>
 Ca Tryz.prog 51 #[v253, v257] w258 fun v259 w260 =>
 rv Tryz.prog (Op.unary .not v259) w260 fun v261 w262 =>
 J238 (v261, ()) w262))
 (J13_2 mk89 K v65)))
def R13_4 (v65 : Value) (l70 : Nat) (x71 : List Value) (w72 : World) (KN73 : World → Prop) (KJ74 : Code → World → Prop) : Prop :=
 rx Tryz.prog (bigA 108) w72 fun v75 w76 =>
 rux Tryz.prog (bigU 108 v75 (x71.getD 0 undef)) w76 fun w77 =>
 beginK l70 w77 fun w78 =>
 rdW Tryz.prog (Instr.loadAt 23 v65) w78.drew fun v79 =>
 nilK v79 fun v80 => rdP Tryz.prog (Instr.fieldAt 66 v80 2) fun v81 =>
 rdW Tryz.prog (Instr.loadAt 63 v81) w78.drew fun v82 =>
 rdP Tryz.prog (Instr.fieldAt 108 v75 0) fun v83 =>
 rdP Tryz.prog (Instr.fieldAt 38 v83 0) fun v84 =>
 rdW Tryz.prog (Instr.loadAt 35 v84) w78.drew fun v85 =>
 Ca Tryz.prog 48 #[] w78.drew fun v86 w87 =>
 Sem.run Tryz.prog (Instr.loadAt 35 v84) w87 = .ok v85 w87 ∧ Sem.run Tryz.prog (Instr.loadAt 63 v81) w87 = .ok v82 w87 ∧ Sem.run Tryz.prog (Instr.loadAt 23 v65) w87 = .ok v79 w87 ∧ 
 (rux Tryz.prog (xMapUp 63 v82 v85 v86) w87 fun w88 =>
 KN73 w88)
def A13_5 (v0 : Value) (v65 : Value) (K : Kont) (mk89 : List Nat) (pd90 : Option Code) (w91 : World) : Prop :=
 afterK
 (fun w92 =>
 rv Tryz.prog (Instr.fieldAt 49 v0 5) w92 fun v93 w94 =>
 rv Tryz.prog (Instr.loadAt 46 v93) w94 fun v95 w96 =>
 rn Tryz.prog (builtin .len #[46] 3 #[false] #[v95]) w96 fun v97 w98 =>
 LoopW (S := Value × Value × Value × Unit) (L13_1 v97 v95 v65 mk89 K v0) ((.pointer none), (.int .i64 0), (.int .i64 0), ()) w98)
 (fun w178 =>
 retD (mk89 ++ []) w178 fun w179 =>
 K (.tuple #[(.pointer none), (.int .i64 0)]) w179)
 (fun i181 w180 =>
 bc (Nat.beq i181 0)
 (rv Tryz.prog (Instr.fieldAt 49 v0 5) w180 fun v182 w183 =>
 rv Tryz.prog (Instr.loadAt 46 v182) w183 fun v184 w185 =>
 rn Tryz.prog (builtin .len #[46] 3 #[false] #[v184]) w185 fun v186 w187 =>
 LoopW (S := Value × Value × Value × Unit) (L13_3 v186 v184 v65 mk89 K v0) ((.pointer none), (.int .i64 0), (.int .i64 0), ()) w187)
 (False)) pd90 w91
def J13_6 (K : Kont) (v0 : Value) (v12 : Value) (v32 : Value) (s38 : Value × Unit) (w39 : World) : Prop :=
 ∀ _ : Nat → Value,
 ifB s38.1
 (K (.tuple #[(.pointer none), (.int .i64 2)]) w39)
 (rv Tryz.prog (Instr.makeMap 63 none) w39 fun v53 w54 =>
 rv Tryz.prog (Instr.makeMap 64 none) w54 fun v55 w56 =>
 rv Tryz.prog (Instr.fieldAt 49 v0 1) w56 fun v57 w58 =>
 rv Tryz.prog (Instr.loadAt 27 v57) w58 fun v59 w60 =>
 rv Tryz.prog (Instr.build 66 #[(0, v12), (1, v32), (2, v53), (3, v55), (4, v59)]) w60 fun v61 w62 =>
 rv Tryz.prog (Instr.box 66 v61) w62 fun v63 w64 =>
 rv Tryz.prog (Instr.alloc 23 true (.tuple #[])) w64 fun v65 w66 =>
 ru Tryz.prog (Instr.storeAt 23 v65 v63) w66 fun w67 =>
 Ca Tryz.prog 47 #[v12] w67 fun v68 w69 =>
 RFW Tryz.prog none v68 w69 1 (R13_4 v65) (A13_5 v0 v65 K))
def F13 (a0 : Value) (w : World) (K : Kont) : Prop :=
 rv Tryz.prog (Instr.box 49 a0) w fun v0 w1 =>
 rv Tryz.prog (Instr.fieldAt 49 v0 0) w1 fun v2 w3 =>
 rv Tryz.prog (Instr.loadAt 35 v2) w3 fun v4 w5 =>
 rv Tryz.prog (Instr.fieldAt 49 v0 4) w5 fun v6 w7 =>
 rv Tryz.prog (Instr.loadAt 45 v6) w7 fun v8 w9 =>
 Ca Tryz.prog 45 #[v4, v8] w9 fun v10 w11 =>
 rv Tryz.prog (Instr.extract v10 0) w11 fun v12 w13 =>
 rv Tryz.prog (Instr.extract v10 1) w13 fun v14 w15 =>
 rv Tryz.prog (bin .neq 26 true v14 (.int .i64 0)) w15 fun v16 w17 =>
 ifB v16
 (K (.tuple #[(.pointer none), v14]) w17)
 (rv Tryz.prog (Instr.fieldAt 49 v0 2) w17 fun v18 w19 =>
 rv Tryz.prog (Instr.loadAt 2 v18) w19 fun v20 w21 =>
 rv Tryz.prog (Instr.fieldAt 49 v0 3) w21 fun v22 w23 =>
 rv Tryz.prog (Instr.loadAt 44 v22) w23 fun v24 w25 =>
 rv Tryz.prog (Instr.fieldAt 49 v0 5) w25 fun v26 w27 =>
 rv Tryz.prog (Instr.loadAt 46 v26) w27 fun v28 w29 =>
 Ca Tryz.prog 46 #[v20, v24, v28] w29 fun v30 w31 =>
 rv Tryz.prog (Instr.extract v30 0) w31 fun v32 w33 =>
 rv Tryz.prog (Instr.extract v30 1) w33 fun v34 w35 =>
 rv Tryz.prog (bin .neq 26 true v34 (.int .i64 0)) w35 fun v36 w37 =>
 ifB v36
 (K (.tuple #[(.pointer none), v34]) w37)
 (JoinW (S := Value × Unit) (fun J40 =>
 rv Tryz.prog (Instr.fieldAt 49 v0 1) w37 fun v41 w42 =>
 rv Tryz.prog (Instr.loadAt 27 v41) w42 fun v43 w44 =>
 rv Tryz.prog (bin .lss 27 true v43 (.int .u64 1)) w44 fun v45 w46 =>
 ifB v45
 (J40 ((.bool true), ()) w46)
 (rv Tryz.prog (Instr.fieldAt 49 v0 1) w46 fun v47 w48 =>
 rv Tryz.prog (Instr.loadAt 27 v47) w48 fun v49 w50 =>
 rv Tryz.prog (bin .gtr 27 true v49 (.int .u64 4611686018427387905)) w50 fun v51 w52 =>
 J40 (v51, ()) w52))
 (J13_6 K v0 v12 v32)))
theorem F13_eq (a0 : Value) (w : World) (K : Kont) : vcFnJ Tryz.prog Tryz.f13 [a0] w K = F13 a0 w K := by kernel_rfl
theorem F13_ok : okF Tryz.prog Tryz.f13 1 = true := by kernel_rfl
theorem ca13{a0 : Value} {w : World} {K : Kont} (h : F13 a0 w K) : Ca Tryz.prog 13 #[a0] w K :=
  ca_of_vcJ Tryz.noNum Tryz.func13 F13_ok (by rw [F13_eq]; exact h)
def L51_0 (v6 : Value) (a0 : Value) (a1 : Value) (K : Kont) (s8 : Value × Value × Unit) (w9 : World) (K10 : Value × Value × Unit → World → Prop) : Prop :=
 ∀ _ : Nat → Value,
 rv Tryz.prog (bin .lss 3 false s8.2.1 v6) w9 fun v11 w12 =>
 ifB v11
 (rdP Tryz.prog (Instr.indexAt 47 a0 s8.2.1) fun v13 =>
 rdW Tryz.prog (Instr.loadAt 119 v13) w12.drew fun v14 =>
 rdP Tryz.prog (Instr.indexAt 47 a1 s8.2.1) fun v15 =>
 rdW Tryz.prog (Instr.loadAt 119 v15) w12.drew fun v16 =>
 rdP Tryz.prog (bin .neq 119 false v14 v16) fun v17 =>
 ifB v17
 (K (.bool false) w12.drew)
 (rv Tryz.prog (bin .add 3 true s8.2.1 (.int .i64 1)) w12.drew fun v18 w19 =>
 K10 (s8.1, v18, ()) w19))
 (K (.bool true) w12)
def F51 (a0 a1 : Value) (w : World) (K : Kont) : Prop :=
 rn Tryz.prog (builtin .len #[47] 3 #[false] #[a0]) w fun v0 w1 =>
 rn Tryz.prog (builtin .len #[47] 3 #[false] #[a1]) w1 fun v2 w3 =>
 rv Tryz.prog (bin .neq 3 false v0 v2) w3 fun v4 w5 =>
 ifB v4
 (K (.bool false) w5)
 (rn Tryz.prog (builtin .len #[47] 3 #[false] #[a0]) w5 fun v6 w7 =>
 LoopW (S := Value × Value × Unit) (L51_0 v6 a0 a1 K) ((.bool false), (.int .i64 0), ()) w7)
theorem F51_eq (a0 a1 : Value) (w : World) (K : Kont) : vcFnJ Tryz.prog Tryz.f51 [a0, a1] w K = F51 a0 a1 w K := by kernel_rfl
theorem F51_ok : okF Tryz.prog Tryz.f51 2 = true := by kernel_rfl
theorem ca51{a0 a1 : Value} {w : World} {K : Kont} (h : F51 a0 a1 w K) : Ca Tryz.prog 51 #[a0, a1] w K :=
  ca_of_vcJ Tryz.noNum Tryz.func51 F51_ok (by rw [F51_eq]; exact h)
end Go.Proofs
