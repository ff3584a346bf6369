/-
  Calls on a ledger as data; the contract of play.
  Conditions: where they ask for any, each theorem names them.
-/
import Derived.Test.YtanjfianhnhhmaaLedY
import Derived.Test.YtanjfianhnhhmaaMarkL
set_option linter.unusedVariables false
set_option linter.unusedSimpArgs false
namespace Go.Proofs
open Go Go.Vc

def U32 (n : Int) : Prop := 0 ≤ n ∧ n < 4294967296
def R64 (n : Int) : Prop := -9223372036854775808 ≤ n ∧ n < 9223372036854775808
structure LOp.Wf (x : LOp) : Prop where
  kind : R64 x.kind
  a : U32 x.a
  b : U32 x.b
  c : U32 x.c
  n : R64 x.n
  m : R64 x.m
  num : U32 x.acc.num
  cash : R64 x.acc.cash
def cellsOp (x : LOp) : List Value := [.int .i64 x.kind, .int .u32 x.a, .int .u32 x.b, .int .u32 x.c, .int .i64 x.n, .int .i64 x.m, .int .u32 x.acc.num, .int .i64 x.acc.cash, .bool x.acc.kil, .bool x.acc.dfl]

theorem equalIn_func_nil {P : Program} {w : World} {t : TypeId} {d1 d2 : Array TypeId} {d3 : Bool} {f : Fn} {first cap : Array Value} (d : Nat) (h : P.underlying t = some (.func d1 d2 d3)) : (Op.equalIn (d + 1) t (.func f first cap) .nilFunc).run P w = .ok false w := by
  unfold Op.equalIn
  simp [run_underlying h, Result.andThen]
theorem equal_func_nil {P : Program} {w : World} {t : TypeId} {d1 d2 : Array TypeId} {d3 : Bool} {f : Fn} {first cap : Array Value} (h : P.underlying t = some (.func d1 d2 d3)) : (Op.equal t (.func f first cap) .nilFunc).run P w = .ok false w := equalIn_func_nil 9999 h
theorem eql_func_nil {P : Program} {w : World} {t : TypeId} {d1 d2 : Array TypeId} {d3 : Bool} {f : Fn} {first cap : Array Value} (h : P.underlying t = some (.func d1 d2 d3)) : (binOp .eql t (.func f first cap) .nilFunc).run P w = .ok (.bool false) w := by
  simp only [binOp]
  simp [equal_func_nil h]
theorem tSeqP : Try.prog.underlying 48 = some (.func #[83] #[] false) := by kernel_rfl
theorem tSeqA : Try.prog.underlying 54 = some (.func #[84] #[] false) := by kernel_rfl
theorem retD_all {W : World} {K : World → Prop} : ∀ {ds : List Nat}, ds.Nodup → (∀ d ∈ ds, hp W d = some (.deferred (some []))) → (∀ W', Mod (fun b => b ∈ ds) W W' → K W') → retD ds W K := by
  intro ds
  induction ds generalizing W with
  | nil => intro _ _ hK; exact retD_nil.2 (hK W (Mod.refl _ _))
  | cons d ds ih =>
    intro hn hd hK
    obtain ⟨h1, h2⟩ := List.nodup_cons.1 hn
    refine retD_hp.2 ⟨hd d List.mem_cons_self, ih h2 (fun x hx => ?_) fun W' m => hK W' ?_⟩
    · rw [hp_putObj, if_neg (fun e : x = d => h1 (e ▸ hx))]
      exact hd x (List.mem_cons_of_mem _ hx)
    · exact ((Mod.refl (fun b => b ∈ d :: ds) W).putObj (b := d) (.inl List.mem_cons_self) _).trans (m.mono fun b _ hb => List.mem_cons_of_mem _ hb)

theorem mark_snd (S : Led) (c price : Int) (cl : Bool) : (S.mark c price cl).2.2 = if c = 0 ∨ amongB price 1 MP = false then S else S.marked (S.holders c) price cl := by
  unfold Led.mark
  split <;> rfl

set_option maxRecDepth 10000 in
theorem ca_play {w : World} {l : Nat} {F : Nat → Prop} {S : Led} {K : Kont} {x : LOp} (h : LedQ w l F S) (hx : x.Wf) (hl : S.held.length < 4294967295)
    (hK : ∀ w', LedQ w' l F (S.play x).2 → Mod F w w' → K (.int .i64 (S.play x).1) w') : Ca Try.prog 16 #[lptr l, .agg (cellsOp x).toArray] w K := by
  have hlt := h.lt h.self
  have h0 := h
  apply ca16
  unfold F16
  simp [go_sem, cellsOp]
  generalize hw1 : World.alloc _ _ = w1
  have m1 : Mod (fun _ => False) w w1 := by subst hw1; exact (Mod.refl _ w).alloc _
  have hloc : hp w1 w.heap.size = some (.cells #[.int .i64 x.kind, .int .u32 x.a, .int .u32 x.b, .int .u32 x.c, .int .i64 x.n, .int .i64 x.m, .int .u32 x.acc.num, .int .i64 x.acc.cash, .bool x.acc.kil, .bool x.acc.dfl] 40 (0, 0)) := by subst hw1; simp [go_sem]
  have q1 := h0.mod m1 fun _ _ h => h
  have hne : ¬ F w.heap.size := fun hf => by have := h0.lt hf; omega
  have mF : Mod F w w1 := m1.mono fun _ _ h => h.elim
  unfold Led.play at hK
  by_cases k1 : x.kind = 1
  · rw [if_pos k1] at hK
    simp [k1]
    refine ca_deposit q1 hx.a fun w2 q2 m2 => ?_
    have hl2 := m2.keep hloc hne
    have := hK w2 q2 (mF.trans m2)
    by_cases he : (S.deposit x.a x.n).1 = 0
    · simp only [he, if_true] at this
      simp [go_sem, he, hp_of hl2]
      exact this
    · simp only [he, if_false] at this
      simp [go_sem, he]
      exact this
  · rw [if_neg k1] at hK
    simp [k1]
    by_cases k2 : x.kind = 2
    · rw [if_pos k2] at hK
      simp [k2]
      refine ca_withdraw q1 hx.a fun w2 q2 m2 => ?_
      have hl2 := m2.keep hloc hne
      have := hK w2 q2 (mF.trans m2)
      by_cases he : (S.withdraw x.a x.n).1 = 0
      · have hn : IntKind.i64.wrap (-x.n) = -x.n := by
          have h1 : 1 ≤ x.n := by
            unfold Led.withdraw at he
            split at he
            · cases he
            · rename_i hh
              have : amongB x.n 1 MF = true := by
                cases hb : amongB x.n 1 MF with
                | true => rfl
                | false => exact absurd (.inr hb) hh
              exact (amongB_iff.1 this).1
          have h2 := hx.n.2
          rw [IntKind.wrap_i64]; omega
        simp only [he, if_true] at this
        simp [go_sem, he, hp_of hl2, hn]
        exact this
      · simp only [he, if_false] at this
        simp [go_sem, he]
        exact this
    · rw [if_neg k2] at hK
      simp [k2]
      by_cases k5 : x.kind = 5
      · rw [if_pos k5] at hK
        simp [k5]
        exact ca_trade q1 hx.c fun w2 q2 m2 => hK w2 q2 (mF.trans m2)
      · rw [if_neg k5] at hK
        simp [k5]
        by_cases k6 : x.kind = 6
        · rw [if_pos k6] at hK
          simp [k6]
          exact ca_mark q1 hl fun w2 v q2 _ m2 _ => hK w2 q2 (mF.trans m2)
        · rw [if_neg k6] at hK
          simp [k6]
          exact hK w1 q1 mF
end Go.Proofs
