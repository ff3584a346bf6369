/-
  The program's ledger in memory, and the contracts of its small calls.
  Conditions: where they ask for any, each theorem names them.
-/
import Derived.Test.YtanjfianhnhhmaaLedM
import Derived.Test.YtanjfianhnhhmaaVcIterN
import Derived.Test.YtanjfianhnhhmaaVcMore
import Derived.Test.YtanjfianhnhhmaaG1
set_option linter.unusedVariables false
set_option linter.unusedSimpArgs false
namespace Go.Proofs
open Go Go.Vc

theorem loopK {S : Type} {body : S → World → (S → World → Prop) → Prop} {s : S} {w : World} (I : S → World → Prop) (m : S → World → Nat) (h0 : I s w)
    (h : ∀ s w, I s w → ∀ KN : S → World → Prop, (∀ s' w', I s' w' → m s' w' < m s w → KN s' w') → body s w KN) : LoopW body s w :=
  ⟨⟨I, m, h0, fun s w hi => h s w hi _ fun _ _ h1 h2 => ⟨h1, h2⟩⟩⟩

def lptr (l : Nat) : Value := .pointer (some ⟨l, 0, none⟩)
def cellsAc (a : Ac) : List Value := [.int .u32 a.num, .int .i64 a.cash, .bool a.kil, .bool a.dfl]
def acV (a : Ac) : Value := .agg #[.int .u32 a.num, .int .i64 a.cash, .bool a.kil, .bool a.dfl]
def cellsPo (p : Po) : List Value := [.int .u32 p.c, .int .u32 p.a, .int .i64 p.q, .int .i64 p.b]
def poV (p : Po) : Value := .agg #[.int .u32 p.c, .int .u32 p.a, .int .i64 p.q, .int .i64 p.b]
def encU (n : Int) : Value := .int .u32 n
def encKey (k : Int × Int) : Value := .agg #[.int .u32 k.1, .int .u32 k.2]

theorem uU32 : Try.prog.underlying 22 = some (.int .u32) := by kernel_rfl
theorem kU32 : KeyT Try.prog 22 encU := KeyT.int uU32
theorem uKey : Try.prog.underlying 81 = some (.struct (Try.prog.fieldsOf 81)) := by kernel_rfl
theorem fKey : Try.prog.fieldsOf 81 = #[{ name := "contract", type := 22, offset := 0, embedded := false, tag := "", pkgPath := "broadside/ledger", byteOffset := 0 }, { name := "account", type := 22, offset := 1, embedded := false, tag := "", pkgPath := "broadside/ledger", byteOffset := 4 }] := by kernel_rfl
theorem ckU32 (b : Bool) (n : Nat) (k : IntKind) (f : Int) (w : World) : (Instr.checkKey b (n+1) 22 (.int k f)).run Try.prog w = .ok () w := by
  unfold Instr.checkKey
  simp [go_sem]
theorem eqKey (w : World) (x y : Int × Int) : (Op.equal 81 (encKey x) (encKey y)).run Try.prog w = .ok (decide (x = y)) w := by
  have h : Try.prog.stoodInHeld 81 = false := by kernel_rfl
  obtain ⟨f, a⟩ := x
  obtain ⟨f', a'⟩ := y
  unfold Op.equal Op.maxDepth encKey
  rw [run_equalIn_struct w 9999 81 _ _ uKey h, fKey]
  have e1 : ∀ (x y : Int) (w : World), (Op.equalIn 9999 22 (.int .u32 x) (.int .u32 y)).run Try.prog w = .ok (x == y) w := fun x y w => run_equalIn_int w 9998 22 .u32 .u32 x y (by kernel_rfl)
  simp [Op.eqFields, part, isAgg, go_sem, e1]
  by_cases h1 : f = f' <;> by_cases h2 : a = a' <;> simp_all
theorem ckKey (w : World) (b : Bool) (x : Int × Int) : (Instr.checkKey b 10000 81 (encKey x)).run Try.prog w = .ok () w := by
  obtain ⟨f, a⟩ := x
  unfold Instr.checkKey encKey
  have e1 : ∀ (x : Int) (w : World), (Instr.checkKey b 9999 22 (.int .u32 x)).run Try.prog w = .ok () w := fun x w => ckU32 b 9998 .u32 x w
  simp [go_sem, uKey, fKey, e1]
theorem kKey : KeyT Try.prog 81 encKey :=
  KeyT.asking uKey (fun x y => rfl) eqKey ckKey (fun x => by simp [encKey, Instr.sameBits])
theorem uMapA : Try.prog.underlying 71 = some (.map 22 34) := by kernel_rfl
theorem uMapP : Try.prog.underlying 72 = some (.map 81 31) := by kernel_rfl
theorem zAc : zeroOfT Try.prog 34 = some (acV ⟨0, 0, false, false⟩) := by kernel_rfl
theorem zPo : zeroOfT Try.prog 31 = some (poV ⟨0, 0, 0, 0⟩) := by kernel_rfl

/-- The ledger at l: its blocks are F. -/
structure LedQ (w : World) (l : Nat) (F : Nat → Prop) (S : Led) : Prop where
  out : ∃ m1 m2 A B, hp w l = some (.cells #[.map (some m1), .map (some m2)] 74 (0, 0)) ∧ MapAt encU acV w m1 A ∧ MapAt encKey poV w m2 B ∧ A.Perm S.accs ∧ B.Perm S.poss ∧
    (∀ b, F b ↔ b = l ∨ b = m1 ∨ b = m2) ∧ l ≠ m1 ∧ l ≠ m2 ∧ m1 ≠ m2
  ok : S.Ok
theorem LedQ.mod {F G : Nat → Prop} {w w' : World} {l : Nat} {S : Led} (h : LedQ w l F S) (hm : Mod G w w') (hd : ∀ b, F b → ¬ G b) : LedQ w' l F S := by
  obtain ⟨⟨m1, m2, A, B, h1, h2, h3, h4, h5, h6, h7⟩, hok⟩ := h
  exact ⟨⟨m1, m2, A, B, hm.keep h1 (hd l ((h6 l).2 (.inl rfl))), h2.mod hm (hd m1 ((h6 m1).2 (.inr (.inl rfl)))), h3.mod hm (hd m2 ((h6 m2).2 (.inr (.inr rfl)))), h4, h5, h6, h7⟩, hok⟩
theorem LedQ.lt {F : Nat → Prop} {w : World} {l : Nat} {S : Led} (h : LedQ w l F S) {b : Nat} (hb : F b) : b < w.heap.size := by
  obtain ⟨⟨m1, m2, A, B, h1, h2, h3, h4, h5, h6, h7⟩, hok⟩ := h
  rcases (h6 b).1 hb with rfl | rfl | rfl
  · exact lt_of_heap h1
  · exact h2.lt
  · exact h3.lt
theorem LedQ.self {F : Nat → Prop} {w : World} {l : Nat} {S : Led} (h : LedQ w l F S) : F l := by
  obtain ⟨⟨m1, m2, A, B, h1, h2, h3, h4, h5, h6, h7⟩, hok⟩ := h
  exact (h6 l).2 (.inl rfl)

theorem ca_within {n lo hi : Int} {w : World} {K : Kont} (hK : K (.bool (amongB n lo hi)) w) : Ca Try.prog 36 #[.int .i64 n, .int .i64 lo, .int .i64 hi] w K := by
  apply ca36
  unfold F36
  simp [go_sem]
  unfold amongB at hK
  split
  · rename_i h
    have e : decide (lo ≤ n ∧ n ≤ hi) = decide (n ≤ hi) := by rw [decide_eq_decide]; omega
    rw [← e]; exact hK
  · rename_i h
    have e : decide (lo ≤ n ∧ n ≤ hi) = false := by rw [decide_eq_false_iff_not]; omega
    rw [e] at hK; exact hK

theorem ca_ready {w : World} {l : Nat} {F : Nat → Prop} {S : Led} {K : Kont} (h : LedQ w l F S) (hK : K (.bool true) w) : Ca Try.prog 35 #[lptr l] w K := by
  obtain ⟨⟨m1, m2, A, B, h1, h2, h3, h4, h5, h6, h7⟩, hok⟩ := h
  apply ca35
  unfold F35
  simp [go_sem, lptr, h1]
  exact hK

theorem ca_funds {w : World} {l : Nat} {F : Nat → Prop} {S : Led} {K : Kont} (h : LedQ w l F S) (hK : ∀ w', Mod (fun _ => False) w w' → K (.int .i64 S.funds) w') : Ca Try.prog 18 #[lptr l] w K := by
  have h0 := h
  obtain ⟨⟨m1, m2, A, B, h1, h2, h3, h4, h5, h6, h7⟩, hok⟩ := h
  apply ca18
  unfold F18
  refine ca_ready h0 ?_
  simp [go_sem, lptr, h1]
  refine rx_range uMapA h2 fun w1 it1 mod1 => ?_
  generalize hg : w.heap.size = it at it1
  refine loopK (fun s W => ∃ (x : Int) (rest : List (Int × Ac)), s = (.int .i64 x, ()) ∧ MapIt encU acV W it m1 rest ∧ Mod (fun _ => False) w W ∧ x + (rest.map (·.2.cash)).sum = S.funds ∧ 0 ≤ x ∧ ∀ p ∈ rest, 0 ≤ p.2.cash)
    (fun s W => itLeft it m1 W) ?_ ?_
  · refine ⟨0, A, rfl, it1, mod1, ?_, by omega, fun p hp => ?_⟩
    · rw [perm_sum (h4.map (·.2.cash))]
      simp [Led.accs, fundAc, Led.funds, Function.comp_def]
    · have := h4.mem_iff.1 hp
      simp only [Led.accs, List.mem_cons, List.mem_map] at this
      rcases this with rfl | ⟨a, ha, rfl⟩
      · exact hok.fund.1
      · exact (hok.acc a ha).2.2.1
  · rintro ⟨_, _⟩ W ⟨x, rest, ⟨⟩, itW, mW, hs, hx0, hr⟩ KN hKN
    unfold L18_0
    intro _
    refine rx_next itW ?_ ?_
    · intro h0 w' m' _
      subst h0
      have : x = S.funds := by simpa using hs
      simp [go_sem]
      rw [this]
      exact hK _ (mW.trans m')
    · intro i p hi w' it' cur' m' hsz
      simp [go_sem]
      refine rx_entry cur' ?_
      simp [go_sem, acV]
      have hpe := perm_eraseIdx hi
      have e1 : p.2.cash + ((rest.eraseIdx i).map (·.2.cash)).sum = (rest.map (·.2.cash)).sum := by
        rw [perm_sum (hpe.map (·.2.cash))]; simp
      have hp0 := hr p (List.mem_of_getElem? hi)
      have hr' : ∀ q ∈ rest.eraseIdx i, 0 ≤ q.2.cash := fun q hq => hr q (List.mem_of_mem_eraseIdx hq)
      have hpos : 0 ≤ ((rest.eraseIdx i).map (·.2.cash)).sum := by
        clear hpe e1 hi it' hKN
        generalize rest.eraseIdx i = l at hr'
        induction l with
        | nil => simp
        | cons q l ih =>
          have := hr' q List.mem_cons_self
          have := ih fun y hy => hr' y (List.mem_cons_of_mem _ hy)
          simp only [List.map_cons, List.sum_cons]; omega
      have hfs := hok.funds.2
      have hwr : IntKind.i64.wrap (x + p.2.cash) = x + p.2.cash := by
        rw [IntKind.wrap_i64]; simp only [MF] at hfs; omega
      rw [hwr]
      have mA : ∀ o, Mod (fun _ => False) w (w'.alloc o) := fun o => (mW.on m' fun b hb => .inr (by subst hb; omega)).alloc o
      have itA : ∀ o, MapIt encU acV (w'.alloc o) it m1 (rest.eraseIdx i) := fun o => it'.mod ((Mod.refl (fun _ => False) w').alloc o) id id
      refine hKN _ _ ⟨_, _, rfl, itA _, mA _, by omega, by omega, hr'⟩ ?_
      rw [(itA _).left, itW.left, List.length_eraseIdx]
      have : i < rest.length := (List.getElem?_eq_some_iff.1 hi).1
      rw [if_pos this]; omega

theorem elim_acV (o : Option Ac) : o.elim (acV ⟨0, 0, false, false⟩) acV = acV (o.getD ⟨0, 0, false, false⟩) := by cases o <;> rfl
theorem elim_poV (o : Option Po) : o.elim (poV ⟨0, 0, 0, 0⟩) poV = poV (o.getD ⟨0, 0, 0, 0⟩) := by cases o <;> rfl
theorem LedQ.lkA {A : List (Int × Ac)} {S : Led} {w : World} {m1 : Nat} (h2 : MapAt encU acV w m1 A) (h4 : A.Perm S.accs) (n : Int) : lk A n = S.getO n := by
  rw [lk_perm h2.1 h4, S.lk_accs]
theorem LedQ.lkP {B : List ((Int × Int) × Po)} {S : Led} {w : World} {m2 : Nat} (h3 : MapAt encKey poV w m2 B) (h5 : B.Perm S.poss) (k : Int × Int) : lk B k = S.pos? k := by
  rw [lk_perm h3.1 h5, S.lk_poss]
/-- The ledger behind an account's store. -/
theorem LedQ.putA {w w' : World} {l m1 m2 : Nat} {F : Nat → Prop} {S : Led} {A : List (Int × Ac)} {B : List ((Int × Int) × Po)} (h1 : hp w l = some (.cells #[.map (some m1), .map (some m2)] 74 (0, 0)))
    (h2 : MapAt encU acV w m1 A) (h3 : MapAt encKey poV w m2 B) (h4 : A.Perm S.accs) (h5 : B.Perm S.poss) (h6 : ∀ b, F b ↔ b = l ∨ b = m1 ∨ b = m2) (h7 : l ≠ m1 ∧ l ≠ m2 ∧ m1 ≠ m2) (hok : S.Ok) (a : Ac)
    (ha : a.num = 0 → a = fundAc a.cash) (hok' : (S.putA a).Ok) (hA : MapAt encU acV w' m1 (put A a.num a)) (hm : Mod (fun b => b = m1) w w') : LedQ w' l F (S.putA a) := by
  refine ⟨⟨m1, m2, _, B, hm.keep h1 h7.1, hA, h3.mod hm (fun e => h7.2.2 e.symm), hok.put_accs h2.1 h4 a ha, ?_, h6, h7⟩, hok'⟩
  rw [show (S.putA a).poss = S.poss by unfold Led.putA; split <;> rfl]
  exact h5

theorem ca_deposit {w : World} {l : Nat} {F : Nat → Prop} {S : Led} {K : Kont} {n m : Int} (h : LedQ w l F S) (hn : 0 ≤ n ∧ n < 4294967296)
    (hK : ∀ w', LedQ w' l F (S.deposit n m).2 → Mod F w w' → K (.int .i64 (S.deposit n m).1) w') : Ca Try.prog 9 #[lptr l, .int .u32 n, .int .i64 m] w K := by
  have h0 := h
  obtain ⟨⟨m1, m2, A, B, h1, h2, h3, h4, h5, h6, h7⟩, hok⟩ := h
  apply ca9
  unfold F9
  refine ca_ready h0 ?_
  simp [go_sem, lptr, h1]
  refine rx_look2 (enc := encU) (ev := acV) (x := n) (acV ⟨0, 0, false, false⟩) uMapA kU32 zAc (.inr ⟨m1, rfl, h2⟩) ?_
  rw [elim_acV, LedQ.lkA h2 h4]
  generalize hb : (S.getO n).getD ⟨0, 0, false, false⟩ = a
  simp [go_sem, acV]
  refine ca_within ?_
  have hlt := lt_of_heap h1
  have hM : amongB m 1 1000000000000000 = amongB m 1 MF := rfl
  rw [hM]
  have hMF : MF = 1000000000000000 := rfl
  generalize hw1 : w.alloc (.cells #[.int .u32 a.num, .int .i64 a.cash, .bool a.kil, .bool a.dfl] 34) = w1
  have m1' : Mod (fun _ => False) w w1 := by subst hw1; exact (Mod.refl _ w).alloc _
  have hloc : hp w1 w.heap.size = some (.cells #[.int .u32 a.num, .int .i64 a.cash, .bool a.kil, .bool a.dfl] 34 (0, 0)) := by subst hw1; simp [go_sem]
  have h1w := m1'.keep h1 id
  have h2w := h2.mod m1' id
  have q1 := h0.mod m1' fun _ _ h => h
  simp [go_sem, hp_of h1w, run_lenMap uMapA h2w, (show Try.prog.underlying 3 = some (.int .i64) from by kernel_rfl)]
  have hlen : A.length = S.all.length + 1 := by rw [h4.length_eq]; simp [Led.accs]
  unfold Led.deposit at hK
  by_cases hm : amongB m 1 MF = true
  · have hmr : 1 ≤ m ∧ m ≤ 1000000000000000 := amongB_iff.1 hm
    rw [if_pos hm] at hK ⊢
    refine JoinW.at (fun s W => s = (.bool (decide (S.getO n = none ∧ 64 ≤ S.all.length)), ()) ∧ W = w1) ?_ ?_
    · split
      · rename_i hg
        refine ⟨?_, rfl⟩
        congr 2
        rw [decide_eq_decide]
        simp [hg, hlen]; omega
      · rename_i hg
        refine ⟨?_, rfl⟩
        simp [hg]
    rintro _ W ⟨rfl, rfl⟩
    unfold J9_0
    intro _
    by_cases hf : S.getO n = none ∧ 64 ≤ S.all.length
    · rw [if_pos hf] at hK
      simp only [decide_eq_true hf, ifB_bool, if_true]
      exact hK _ q1 (m1'.mono fun _ _ h => h.elim)
    · rw [if_neg hf] at hK
      simp only [decide_eq_false hf, ifB_bool, Bool.false_eq_true, if_false]
      refine ca_funds q1 fun w2 m2' => ?_
      have hfr := hok.funds
      have hloc2 := m2'.keep hloc id
      have h1x := m2'.keep h1w id
      have h2x := h2w.mod m2' id
      have h3x := (h3.mod m1' id).mod m2' id
      have m12 := m1'.trans m2'
      have hwr : IntKind.i64.wrap (S.funds + m) = S.funds + m := by rw [IntKind.wrap_i64]; omega
      simp [go_sem, hwr, hp_of hloc2, hp_of h1x]
      by_cases ho : S.funds + m > MF
      · rw [if_pos ho] at hK
        rw [if_pos (by omega)]
        exact hK _ (q1.mod m2' fun _ _ h => h) (m12.mono fun _ _ h => h.elim)
      · rw [if_neg ho] at hK
        rw [if_neg (by omega)]
        rw [hb] at hK
        have hac : 0 ≤ a.cash ∧ a.cash ≤ MF ∧ (n = 0 → a.kil = false ∧ a.dfl = false) := by
          cases hg : S.getO n with
          | none =>
            rw [hg] at hb; subst hb
            exact ⟨by simp, by simp [MF], fun _ => ⟨rfl, rfl⟩⟩
          | some x =>
            rw [hg] at hb
            simp only [Option.getD_some] at hb
            subst hb
            obtain ⟨g1, g2, g3, g4, g5, g6⟩ := hok.getO hg
            refine ⟨g4, g5, fun hn => ?_⟩
            have := g6 (g1.trans hn)
            rw [this]; exact ⟨rfl, rfl⟩
        have hwr2 : IntKind.i64.wrap (a.cash + m) = a.cash + m := by rw [IntKind.wrap_i64]; omega
        have hne : l ≠ w.heap.size := by omega
        simp [go_sem, hwr2, hp_of hloc2, hp_of h1x, hne]
        generalize hw3 : (w2.setCell ⟨w.heap.size, 0, none⟩ (.int .u32 n)).setCell ⟨w.heap.size, 1, none⟩ (.int .i64 (a.cash + m)) = w3
        have m3 : Mod (fun b => b = w.heap.size) w2 w3 := by subst hw3; exact ((Mod.refl _ w2).setCell (by simp) _ _).setCell (by simp) _ _
        have m13 : Mod (fun _ => False) w w3 := m12.on m3 fun b hb => .inr (by omega)
        let a' : Ac := { a with num := n, cash := a.cash + m }
        refine rux_mapUp (enc := encU) (ev := acV) (x := n) (v := a') uMapA kU32 ((h2.mod m13 id).mod ((Mod.refl (fun _ => False) w3).drew) id) fun w4 hA m4 hs4 => ?_
        have m4' : Mod (fun b => b = m1) w3 w4 := ((Mod.refl _ w3).drew).trans m4
        have hcash : a.cash ≤ S.funds := by
          cases hg : S.getO n with
          | none => rw [hg] at hb; subst hb; exact hfr.1
          | some x =>
            rw [hg] at hb
            simp only [Option.getD_some] at hb
            subst hb
            exact hok.cash_le hg
        refine hK w4 (LedQ.putA (a := a') (m13.keep h1 id) (h2.mod m13 id) (h3.mod m13 id) h4 h5 h6 h7 hok ?_ ?_ hA m4') ?_
        · intro hn0
          have := hac.2.2 hn0
          simp only [fundAc, a', this, Ac.mk.injEq, and_true, true_and]
          exact hn0
        · refine hok.putA hn ⟨by simp only [a']; omega, by simp only [a']; omega⟩ ?_
          simp only [a']
          by_cases hn0 : n = 0
          · exact .inr (.inr hn0)
          · by_cases hg : S.getO n = none
            · exact .inr (.inl (Nat.lt_of_not_le fun h => hf ⟨hg, h⟩))
            · refine .inl ?_
              unfold Led.getO at hg
              rwa [if_neg hn0] at hg
        · exact (m13.mono fun _ _ h => h.elim).on m4' fun b hb => .inl ((h6 b).2 (.inr (.inl hb)))
  · simp only [Bool.not_eq_true] at hm
    rw [if_neg (by simp [hm])] at hK
    rw [if_neg (by simp [hm])]
    exact hK _ q1 (m1'.mono fun _ _ h => h.elim)
end Go.Proofs
