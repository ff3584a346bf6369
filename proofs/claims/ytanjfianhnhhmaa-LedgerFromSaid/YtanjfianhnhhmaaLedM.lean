/-
  A ledger as plain data: fund, accounts and positions by rising numbers; what its calls do; laws of lists and of maps as lists.
  Conditions: where they ask for any, each theorem names them.
-/
import Derived.Test.YtanjfianhnhhmaaVcRange
set_option linter.unusedVariables false
set_option linter.unusedSimpArgs false
namespace Go.Proofs
open Go Go.Vc

/-! ### Maps as lists, up to their order -/
section
variable {κ ν : Type} [DecidableEq κ]
theorem mem_lk {L : List (κ × ν)} (hn : (L.map (·.1)).Nodup) {k : κ} {v : ν} (h : (k, v) ∈ L) : lk L k = some v := by
  induction L with
  | nil => cases h
  | cons p L ih =>
    obtain ⟨a, b⟩ := p
    simp only [List.map_cons, List.nodup_cons] at hn
    rcases List.mem_cons.1 h with h | h
    · cases h; simp [lk]
    · have : a ≠ k := fun e => hn.1 (e ▸ List.mem_map_of_mem (f := (·.1)) h)
      simp only [lk, if_neg this]
      exact ih hn.2 h
theorem lk_iff {L : List (κ × ν)} (hn : (L.map (·.1)).Nodup) {k : κ} {v : ν} : lk L k = some v ↔ (k, v) ∈ L := ⟨lk_mem, mem_lk hn⟩
theorem lk_perm {A L : List (κ × ν)} (hn : (A.map (·.1)).Nodup) (h : A.Perm L) (k : κ) : lk A k = lk L k := by
  have hn' : (L.map (·.1)).Nodup := (h.map _).nodup_iff.1 hn
  cases hA : lk A k with
  | some v => exact (mem_lk hn' (h.mem_iff.1 (lk_mem hA))).symm
  | none =>
    cases hL : lk L k with
    | none => rfl
    | some v => rw [mem_lk hn (h.mem_iff.2 (lk_mem hL))] at hA; cases hA
theorem put_perm' {L : List (κ × ν)} (hn : (L.map (·.1)).Nodup) (k : κ) (v : ν) : (put L k v).Perm ((k, v) :: L.filter (fun p => p.1 ≠ k)) := by
  induction L with
  | nil => exact List.Perm.refl _
  | cons p L ih =>
    obtain ⟨a, b⟩ := p
    simp only [List.map_cons, List.nodup_cons] at hn
    simp only [put]
    by_cases h : a = k
    · subst h
      rw [if_pos rfl, List.filter_cons_of_neg (by simp)]
      refine List.Perm.cons _ ?_
      rw [List.filter_eq_self.2 fun x hx => ?_]
      have : x.1 ≠ a := fun e => hn.1 (e ▸ List.mem_map_of_mem hx)
      simpa using this
    · rw [if_neg h, List.filter_cons_of_pos (by simpa using h)]
      exact ((ih hn.2).cons _).trans (List.Perm.swap ..)
theorem put_perm {A L : List (κ × ν)} (hn : (A.map (·.1)).Nodup) (h : A.Perm L) (k : κ) (v : ν) : (put A k v).Perm ((k, v) :: L.filter (fun p => p.1 ≠ k)) :=
  (put_perm' hn k v).trans ((h.filter _).cons _)
theorem del_perm' {L : List (κ × ν)} (hn : (L.map (·.1)).Nodup) (k : κ) : del L k = L.filter (fun p => p.1 ≠ k) := by
  induction L with
  | nil => rfl
  | cons p L ih =>
    obtain ⟨a, b⟩ := p
    simp only [List.map_cons, List.nodup_cons] at hn
    simp only [del]
    by_cases h : a = k
    · subst h
      rw [if_pos rfl, List.filter_cons_of_neg (by simp)]
      rw [List.filter_eq_self.2 fun x hx => ?_]
      have : x.1 ≠ a := fun e => hn.1 (e ▸ List.mem_map_of_mem hx)
      simpa using this
    · rw [if_neg h, List.filter_cons_of_pos (by simpa using h), ih hn.2]
theorem del_perm {A L : List (κ × ν)} (hn : (A.map (·.1)).Nodup) (h : A.Perm L) (k : κ) : (del A k).Perm (L.filter (fun p => p.1 ≠ k)) := by
  rw [del_perm' hn]
  exact h.filter _
end
theorem perm_sum {l l' : List Int} (h : l.Perm l') : l.sum = l'.sum := by
  induction h with
  | nil => rfl
  | cons x _ ih => simp [ih]
  | swap x y l => simp; omega
  | trans _ _ h1 h2 => exact h1.trans h2

/-! ### The ledger -/
structure Ac where
  num : Int
  cash : Int
  kil : Bool
  dfl : Bool
deriving DecidableEq
structure Po where
  c : Int
  a : Int
  q : Int
  b : Int
deriving DecidableEq
structure Led where
  fund : Int
  all : List Ac
  held : List Po
instance : Inhabited Ac := ⟨⟨0, 0, false, false⟩⟩
instance : Inhabited Po := ⟨⟨0, 0, 0, 0⟩⟩

def Po.key (p : Po) : Int × Int := (p.c, p.a)
def Po.isZ (p : Po) : Bool := decide (p.q = 0 ∧ p.b = 0)
def klt (x y : Int × Int) : Bool := decide (x.1 < y.1 ∨ (x.1 = y.1 ∧ x.2 < y.2))
theorem klt_iff {x y : Int × Int} : klt x y = true ↔ (x.1 < y.1 ∨ (x.1 = y.1 ∧ x.2 < y.2)) := by simp [klt]
theorem klt_tri (x y : Int × Int) : klt x y = true ∨ x = y ∨ klt y x = true := by
  rw [klt_iff, klt_iff, Prod.ext_iff]; omega
theorem klt_trans {x y z : Int × Int} (h : klt x y = true) (h' : klt y z = true) : klt x z = true := by
  rw [klt_iff] at *; omega
theorem klt_irr {x : Int × Int} : klt x x = false := by
  rw [Bool.eq_false_iff, Ne, klt_iff]; omega
theorem klt_ne {x y : Int × Int} (h : klt x y = true) : x ≠ y := by
  intro e; subst e; rw [klt_irr] at h; cases h
theorem klt_asymm {x y : Int × Int} (h : klt x y = true) : klt y x = false := by
  rw [klt_iff] at h; rw [Bool.eq_false_iff, Ne, klt_iff]; omega

def insA (l : List Ac) (a : Ac) : List Ac := l.filter (fun x => decide (x.num < a.num)) ++ a :: l.filter (fun x => decide (a.num < x.num))
def insP (l : List Po) (p : Po) : List Po := l.filter (fun x => klt x.key p.key) ++ ((if p.isZ then [] else [p]) ++ l.filter (fun x => klt p.key x.key))

def SortA (l : List Ac) : Prop := l.Pairwise fun x y => x.num < y.num
def SortP (l : List Po) : Prop := l.Pairwise fun x y => klt x.key y.key = true

theorem mem_insA {l : List Ac} {a x : Ac} : x ∈ insA l a ↔ (x ∈ l ∧ x.num ≠ a.num) ∨ x = a := by
  simp only [insA, List.mem_append, List.mem_cons, List.mem_filter, decide_eq_true_eq]
  constructor
  · rintro (⟨h, h'⟩ | h | ⟨h, h'⟩)
    · exact .inl ⟨h, by omega⟩
    · exact .inr h
    · exact .inl ⟨h, by omega⟩
  · rintro (⟨h, h'⟩ | h)
    · rcases Int.lt_or_gt_of_ne h' with h2 | h2
      · exact .inl ⟨h, h2⟩
      · exact .inr (.inr ⟨h, h2⟩)
    · exact .inr (.inl h)
theorem mem_insP {l : List Po} {p x : Po} : x ∈ insP l p ↔ (x ∈ l ∧ x.key ≠ p.key) ∨ (x = p ∧ p.isZ = false) := by
  have hz : x ∈ (if p.isZ = true then [] else [p]) ↔ x = p ∧ p.isZ = false := by
    cases p.isZ <;> simp
  simp only [insP, List.mem_append, List.mem_filter, hz]
  constructor
  · rintro (⟨h, h'⟩ | h | ⟨h, h'⟩)
    · exact .inl ⟨h, klt_ne h'⟩
    · exact .inr h
    · exact .inl ⟨h, fun e => klt_ne h' e.symm⟩
  · rintro (⟨h, h'⟩ | h)
    · rcases klt_tri x.key p.key with h2 | h2 | h2
      · exact .inl ⟨h, h2⟩
      · exact absurd h2 h'
      · exact .inr (.inr ⟨h, h2⟩)
    · exact .inr (.inl h)
theorem insA_sort {l : List Ac} (h : SortA l) (a : Ac) : SortA (insA l a) := by
  unfold SortA insA
  rw [List.pairwise_append, List.pairwise_cons]
  refine ⟨h.filter _, ⟨fun x hx => by simpa using (List.mem_filter.1 hx).2, h.filter _⟩, fun x hx y hy => ?_⟩
  have h1 : x.num < a.num := by simpa using (List.mem_filter.1 hx).2
  rcases List.mem_cons.1 hy with rfl | hy
  · exact h1
  · have h2 : a.num < y.num := by simpa using (List.mem_filter.1 hy).2
    omega
theorem insP_sort {l : List Po} (h : SortP l) (p : Po) : SortP (insP l p) := by
  unfold SortP insP
  rw [List.pairwise_append, List.pairwise_append]
  have hz : ∀ x ∈ (if p.isZ = true then [] else [p]), x = p := fun x hx => by cases hq : p.isZ <;> simp_all
  refine ⟨h.filter _, ⟨?_, h.filter _, fun x hx y hy => ?_⟩, fun x hx y hy => ?_⟩
  · cases p.isZ <;> simp
  · rw [hz x hx]; exact (List.mem_filter.1 hy).2
  · have h1 : klt x.key p.key = true := (List.mem_filter.1 hx).2
    rcases List.mem_append.1 hy with hy | hy
    · rw [hz y hy]; exact h1
    · exact klt_trans h1 (List.mem_filter.1 hy).2
theorem SortA.nodup {l : List Ac} (h : SortA l) : (l.map (·.num)).Nodup := by
  rw [List.Nodup, List.pairwise_map]
  exact h.imp fun h => by omega
theorem SortP.nodup {l : List Po} (h : SortP l) : (l.map Po.key).Nodup := by
  rw [List.Nodup, List.pairwise_map]
  exact h.imp fun h => klt_ne h
theorem filter_split {α : Type} (l : List α) (p q : α → Bool) (h : ∀ x ∈ l, p x = true → q x = false) : (l.filter p ++ l.filter q).Perm (l.filter fun x => p x || q x) := by
  induction l with
  | nil => exact List.Perm.refl _
  | cons x l ih =>
    have ih := ih fun y hy => h y (List.mem_cons_of_mem _ hy)
    cases hp : p x with
    | true =>
      have hq := h x List.mem_cons_self hp
      rw [List.filter_cons_of_pos hp, List.filter_cons_of_neg (by simp [hq]), List.filter_cons_of_pos (by simp [hp])]
      exact ih.cons x
    | false =>
      cases hq : q x with
      | true =>
        rw [List.filter_cons_of_neg (by simp [hp]), List.filter_cons_of_pos hq, List.filter_cons_of_pos (by simp [hq])]
        exact List.perm_middle.trans (ih.cons x)
      | false =>
        rw [List.filter_cons_of_neg (by simp [hp]), List.filter_cons_of_neg (by simp [hq]), List.filter_cons_of_neg (by simp [hp, hq])]
        exact ih
theorem insA_perm (l : List Ac) (a : Ac) : (insA l a).Perm (a :: l.filter fun x => decide (x.num ≠ a.num)) := by
  refine List.perm_middle.trans (List.Perm.cons _ ((filter_split l _ _ fun x _ h => ?_).trans (List.Perm.of_eq (List.filter_congr fun x _ => ?_))))
  · have : x.num < a.num := by simpa using h
    simp; omega
  · rw [Bool.eq_iff_iff]; simp; omega
theorem insP_perm (l : List Po) (p : Po) : (insP l p).Perm ((if p.isZ then [] else [p]) ++ l.filter fun x => decide (x.key ≠ p.key)) := by
  refine List.perm_append_comm_assoc .. |>.trans (List.Perm.append_left _ ((filter_split l _ _ fun x _ h => ?_).trans (List.Perm.of_eq (List.filter_congr fun x _ => ?_))))
  · exact klt_asymm h
  · rw [Bool.eq_iff_iff]
    have := klt_tri x.key p.key
    simp only [Bool.or_eq_true, decide_eq_true_eq]
    constructor
    · rintro (h | h) e
      · exact klt_ne h e
      · exact klt_ne h e.symm
    · intro h
      rcases this with h2 | h2 | h2
      · exact .inl h2
      · exact absurd h2 h
      · exact .inr h2
theorem sortA_eq {l l' : List Ac} (h : SortA l) (h' : SortA l') (hp : l.Perm l') : l = l' :=
  hp.eq_of_pairwise (fun a b _ _ h1 h2 => by omega) h h'
theorem sortP_eq {l l' : List Po} (h : SortP l) (h' : SortP l') (hp : l.Perm l') : l = l' :=
  hp.eq_of_pairwise (fun a b _ _ h1 h2 => by rw [klt_asymm h1] at h2; cases h2) h h'

/-! ### What the calls do -/
def Led.find (S : Led) (n : Int) : Option Ac := S.all.find? fun x => decide (x.num = n)
def Led.pos? (S : Led) (k : Int × Int) : Option Po := S.held.find? fun x => decide (x.key = k)
def fundAc (f : Int) : Ac := ⟨0, f, false, false⟩
def Led.getO (S : Led) (n : Int) : Option Ac := if n = 0 then some (fundAc S.fund) else S.find n
def Led.funds (S : Led) : Int := S.fund + (S.all.map (·.cash)).sum
def Led.putA (S : Led) (a : Ac) : Led := if a.num = 0 then { S with fund := a.cash } else { S with all := insA S.all a }
def Led.putP (S : Led) (p : Po) : Led := { S with held := insP S.held p }
def amongB (n lo hi : Int) : Bool := decide (lo ≤ n ∧ n ≤ hi)
def MF : Int := 1000000000000000
def MP : Int := 10000000

def Led.deposit (S : Led) (n m : Int) : Int × Led :=
  if amongB m 1 MF then
    if S.getO n = none ∧ 64 ≤ S.all.length then (9, S)
    else if S.funds + m > MF then (6, S)
    else (0, S.putA { (S.getO n).getD ⟨0, 0, false, false⟩ with num := n, cash := ((S.getO n).getD ⟨0, 0, false, false⟩).cash + m })
  else (2, S)
def Led.withdraw (S : Led) (n m : Int) : Int × Led :=
  if n = 0 ∨ amongB m 1 MF = false then (2, S)
  else match S.find n with
    | none => (7, S)
    | some a => if a.cash < m then (90, S) else (0, S.putA { a with cash := a.cash - m })
def Led.set (S : Led) (a : Ac) : Int × Led :=
  if amongB a.cash 0 MF = false ∨ (a.num = 0 ∧ (a.kil = true ∨ a.dfl = true)) then (2, S)
  else if S.getO a.num = none then (7, S) else (0, S.putA a)
def Led.position (S : Led) (c a : Int) : Po := (S.pos? (c, a)).getD ⟨c, a, 0, 0⟩
def Led.trade (S : Led) (c b s p n : Int) : Int × Led :=
  if c = 0 ∨ b = 0 ∨ s = 0 ∨ b = s ∨ amongB p 1 MP = false ∨ amongB n 1 MP = false then (2, S)
  else if S.find b = none ∨ S.find s = none then (7, S)
  else
    let x : Po := ⟨c, b, (S.position c b).q + n, (S.position c b).b + p * n⟩
    let y : Po := ⟨c, s, (S.position c s).q - n, (S.position c s).b - p * n⟩
    if MP < x.q ∨ y.q < -MP ∨ MF < x.b ∨ y.b < -MF then (6, S) else (0, (S.putP x).putP y)
def Led.holders (S : Led) (c : Int) : List Po := S.held.filter fun p => decide (p.c = c)
def Led.ofA (S : Led) (a : Int) : List Po := S.held.filter fun p => decide (p.a = a)
/-- A position, marked. -/
def Po.mark (p : Po) (price : Int) (cl : Bool) : Po := if cl then ⟨p.c, p.a, 0, 0⟩ else { p with b := p.q * price }
def Led.marked (S : Led) (l : List Po) (price : Int) (cl : Bool) : Led := l.foldl (fun S p => S.putP (p.mark price cl)) S
def Led.mark (S : Led) (c price : Int) (cl : Bool) : Int × List (Int × Int) × Led :=
  if c = 0 ∨ amongB price 1 MP = false then (2, [], S)
  else (0, (S.holders c).map (fun p => (p.a, p.q * price - p.b)), S.marked (S.holders c) price cl)

/-- What every ledger is. -/
structure Led.Ok (S : Led) : Prop where
  fund : 0 ≤ S.fund ∧ S.fund ≤ MF
  sa : SortA S.all
  sp : SortP S.held
  len : S.all.length ≤ 64
  acc : ∀ a ∈ S.all, 0 < a.num ∧ a.num < 4294967296 ∧ 0 ≤ a.cash ∧ a.cash ≤ MF
  pos : ∀ p ∈ S.held, 0 < p.c ∧ p.c < 4294967296 ∧ p.isZ = false ∧ -MP ≤ p.q ∧ p.q ≤ MP ∧ -MF ≤ p.b ∧ p.b ≤ MF ∧ ∃ a ∈ S.all, a.num = p.a

def Led.accs (S : Led) : List (Int × Ac) := (0, fundAc S.fund) :: S.all.map fun a => (a.num, a)
def Led.poss (S : Led) : List ((Int × Int) × Po) := S.held.map fun p => (p.key, p)

theorem lk_mapA (l : List Ac) (n : Int) : lk (l.map fun a => (a.num, a)) n = l.find? fun x => decide (x.num = n) := by
  induction l with
  | nil => rfl
  | cons a l ih =>
    simp only [List.map_cons, lk, ih, List.find?_cons]
    by_cases h : a.num = n <;> simp [h]
theorem lk_mapP (l : List Po) (k : Int × Int) : lk (l.map fun p => (p.key, p)) k = l.find? fun x => decide (x.key = k) := by
  induction l with
  | nil => rfl
  | cons a l ih =>
    simp only [List.map_cons, lk, ih, List.find?_cons]
    by_cases h : a.key = k <;> simp [h]
theorem Led.lk_accs (S : Led) (n : Int) : lk S.accs n = S.getO n := by
  simp only [Led.accs, lk, lk_mapA, Led.getO, Led.find]
  by_cases h : n = 0
  · simp [h]
  · rw [if_neg (fun e => h e.symm), if_neg h]
theorem Led.lk_poss (S : Led) (k : Int × Int) : lk S.poss k = S.pos? k := lk_mapP _ _
theorem Led.Ok.nodupA {S : Led} (h : S.Ok) : (S.accs.map (·.1)).Nodup := by
  simp only [Led.accs, List.map_cons, List.map_map, List.nodup_cons]
  refine ⟨fun hm => ?_, ?_⟩
  · obtain ⟨a, ha, e⟩ := List.mem_map.1 hm
    have := (h.acc a ha).1
    simp only [Function.comp_apply] at e
    omega
  · exact h.sa.nodup
theorem Led.Ok.nodupP {S : Led} (h : S.Ok) : (S.poss.map (·.1)).Nodup := by
  simp only [Led.poss, List.map_map]
  exact h.sp.nodup
theorem filter_mapA (l : List Ac) (n : Int) : (l.map fun a => (a.num, a)).filter (fun p => decide (p.1 ≠ n)) = (l.filter fun x => decide (x.num ≠ n)).map fun a => (a.num, a) := by
  rw [List.filter_map]; rfl
theorem filter_mapP (l : List Po) (k : Int × Int) : (l.map fun p => (p.key, p)).filter (fun p => decide (p.1 ≠ k)) = (l.filter fun x => decide (x.key ≠ k)).map fun p => (p.key, p) := by
  rw [List.filter_map]; rfl
theorem Led.Ok.put_accs {S : Led} (h : S.Ok) {A : List (Int × Ac)} (hn : (A.map (·.1)).Nodup) (hp : A.Perm S.accs) (a : Ac) (h0 : a.num = 0 → a = fundAc a.cash) : (put A a.num a).Perm (S.putA a).accs := by
  refine (put_perm hn hp _ _).trans ?_
  unfold Led.putA
  by_cases hz : a.num = 0
  · rw [if_pos hz]
    simp only [Led.accs]
    rw [List.filter_cons_of_neg (by simp [hz]), filter_mapA, hz]
    rw [List.filter_eq_self.2 fun x hx => by have := (h.acc x hx).1; simp; omega]
    rw [← h0 hz]
  · rw [if_neg hz]
    simp only [Led.accs]
    rw [List.filter_cons_of_pos (by simpa using fun e => hz e.symm), filter_mapA]
    refine (List.Perm.swap ..).trans (List.Perm.cons _ ?_)
    exact ((insA_perm S.all a).map fun a => (a.num, a)).symm
theorem Led.put_poss {S : Led} {B : List ((Int × Int) × Po)} (hn : (B.map (·.1)).Nodup) (hp : B.Perm S.poss) (p : Po) (hz : p.isZ = false) : (put B p.key p).Perm (S.putP p).poss := by
  refine (put_perm hn hp _ _).trans ?_
  simp only [Led.poss, Led.putP]
  rw [filter_mapP]
  have := (insP_perm S.held p).map fun p => (p.key, p)
  rw [hz] at this
  exact this.symm
theorem Led.del_poss {S : Led} {B : List ((Int × Int) × Po)} (hn : (B.map (·.1)).Nodup) (hp : B.Perm S.poss) (p : Po) (hz : p.isZ = true) : (del B p.key).Perm (S.putP p).poss := by
  refine (del_perm hn hp _).trans ?_
  simp only [Led.poss, Led.putP]
  rw [filter_mapP]
  have := (insP_perm S.held p).map fun p => (p.key, p)
  rw [hz] at this
  exact this.symm

theorem Led.find_mem {S : Led} {n : Int} {a : Ac} (h : S.find n = some a) : a ∈ S.all ∧ a.num = n := by
  unfold Led.find at h
  exact ⟨List.mem_of_find?_eq_some h, by simpa using List.find?_some h⟩
theorem Led.pos_mem {S : Led} {k : Int × Int} {p : Po} (h : S.pos? k = some p) : p ∈ S.held ∧ p.key = k := by
  unfold Led.pos? at h
  exact ⟨List.mem_of_find?_eq_some h, by simpa using List.find?_some h⟩
theorem Led.find_some {S : Led} (h : SortA S.all) {a : Ac} (ha : a ∈ S.all) : S.find a.num = some a := by
  unfold Led.find
  rw [← lk_mapA]
  exact mem_lk (by rw [List.map_map]; exact h.nodup) (List.mem_map_of_mem (f := fun a : Ac => (a.num, a)) ha)
theorem Led.pos_some {S : Led} (h : SortP S.held) {p : Po} (hp : p ∈ S.held) : S.pos? p.key = some p := by
  unfold Led.pos?
  rw [← lk_mapP]
  exact mem_lk (by rw [List.map_map]; exact h.nodup) (List.mem_map_of_mem (f := fun p : Po => (p.key, p)) hp)

theorem Led.Ok.position {S : Led} (h : S.Ok) (c a : Int) : (S.position c a).c = c ∧ (S.position c a).a = a ∧ -MP ≤ (S.position c a).q ∧ (S.position c a).q ≤ MP ∧ -MF ≤ (S.position c a).b ∧ (S.position c a).b ≤ MF := by
  unfold Led.position
  cases hp : S.pos? (c, a) with
  | none => simp [MP, MF]
  | some p =>
    obtain ⟨h1, h2⟩ := Led.pos_mem hp
    have := h.pos p h1
    simp only [Po.key, Prod.mk.injEq] at h2
    exact ⟨h2.1, h2.2, this.2.2.2.1, this.2.2.2.2.1, this.2.2.2.2.2.1, this.2.2.2.2.2.2.1⟩

theorem length_insA_le (l : List Ac) (a : Ac) : (insA l a).length ≤ l.length + 1 := by
  rw [(insA_perm l a).length_eq]
  simp only [List.length_cons]
  exact Nat.succ_le_succ (List.length_filter_le ..)
theorem length_insA_of {l : List Ac} {a : Ac} (h : ∃ x ∈ l, x.num = a.num) : (insA l a).length ≤ l.length := by
  rw [(insA_perm l a).length_eq]
  obtain ⟨x, hx, e⟩ := h
  simp only [List.length_cons]
  exact List.length_filter_lt_length_iff_exists.2 ⟨x, hx, by simp [e]⟩
theorem length_insP_le (l : List Po) (p : Po) : (insP l p).length ≤ l.length + 1 := by
  rw [(insP_perm l p).length_eq]
  have := List.length_filter_le (fun x : Po => decide (x.key ≠ p.key)) l
  cases p.isZ <;> simp only [if_true, Bool.false_eq_true, if_false, List.nil_append, List.singleton_append, List.length_cons] <;> omega
theorem length_insP_of {l : List Po} {p : Po} (h : ∃ x ∈ l, x.key = p.key) : (insP l p).length ≤ l.length := by
  rw [(insP_perm l p).length_eq]
  obtain ⟨x, hx, e⟩ := h
  have : (l.filter fun x => decide (x.key ≠ p.key)).length < l.length := List.length_filter_lt_length_iff_exists.2 ⟨x, hx, by simp [e]⟩
  cases p.isZ <;> simp only [if_true, Bool.false_eq_true, if_false, List.nil_append, List.singleton_append, List.length_cons] <;> omega

/-- An account is put. -/
theorem Led.Ok.putA {S : Led} (h : S.Ok) {a : Ac} (h1 : 0 ≤ a.num ∧ a.num < 4294967296) (h2 : 0 ≤ a.cash ∧ a.cash ≤ MF) (h3 : S.find a.num ≠ none ∨ S.all.length < 64 ∨ a.num = 0) : (S.putA a).Ok := by
  unfold Led.putA
  by_cases hz : a.num = 0
  · rw [if_pos hz]
    exact { h with fund := h2 }
  · rw [if_neg hz]
    refine { fund := h.fund, sa := insA_sort h.sa a, sp := h.sp, len := ?_, acc := fun x hx => ?_, pos := fun p hp => ?_ }
    · rcases h3 with h3 | h3 | h3
      · obtain ⟨x, hx⟩ := Option.ne_none_iff_exists'.1 h3
        obtain ⟨hx1, hx2⟩ := Led.find_mem hx
        exact Nat.le_trans (length_insA_of ⟨x, hx1, hx2⟩) h.len
      · exact Nat.le_trans (length_insA_le ..) h3
      · exact absurd h3 hz
    · rcases mem_insA.1 hx with ⟨hx, _⟩ | rfl
      · exact h.acc x hx
      · exact ⟨by omega, h1.2, h2⟩
    · obtain ⟨g1, g2, g3, g4, g5, g6, g7, x, hx, hxa⟩ := h.pos p hp
      refine ⟨g1, g2, g3, g4, g5, g6, g7, ?_⟩
      by_cases he : x.num = a.num
      · exact ⟨a, mem_insA.2 (.inr rfl), he.symm.trans hxa⟩
      · exact ⟨x, mem_insA.2 (.inl ⟨hx, he⟩), hxa⟩
theorem Led.Ok.putP {S : Led} (h : S.Ok) {p : Po} (h1 : 0 < p.c ∧ p.c < 4294967296) (h2 : -MP ≤ p.q ∧ p.q ≤ MP) (h3 : -MF ≤ p.b ∧ p.b ≤ MF) (h4 : ∃ a ∈ S.all, a.num = p.a) : (S.putP p).Ok := by
  refine { fund := h.fund, sa := h.sa, sp := insP_sort h.sp p, len := h.len, acc := h.acc, pos := fun x hx => ?_ }
  rcases mem_insP.1 hx with ⟨hx, _⟩ | ⟨rfl, hz⟩
  · exact h.pos x hx
  · exact ⟨h1.1, h1.2, hz, h2.1, h2.2, h3.1, h3.2, h4⟩

theorem Led.Ok.getO {S : Led} (h : S.Ok) {n : Int} {a : Ac} (hg : S.getO n = some a) : a.num = n ∧ 0 ≤ a.num ∧ a.num < 4294967296 ∧ 0 ≤ a.cash ∧ a.cash ≤ MF ∧ (a.num = 0 → a = fundAc a.cash) := by
  unfold Led.getO at hg
  split at hg
  · rename_i hz
    cases hg
    exact ⟨by simp [fundAc, hz], by simp [fundAc], by simp [fundAc], h.fund.1, h.fund.2, fun _ => rfl⟩
  · obtain ⟨h1, h2⟩ := Led.find_mem hg
    obtain ⟨a1, a2, a3, a4⟩ := h.acc a h1
    exact ⟨h2, by omega, a2, a3, a4, by omega⟩
theorem Led.Ok.funds {S : Led} (h : S.Ok) : 0 ≤ S.funds ∧ S.funds ≤ MF * 65 := by
  have key : ∀ l : List Ac, (∀ a ∈ l, 0 ≤ a.cash ∧ a.cash ≤ MF) → 0 ≤ (l.map (·.cash)).sum ∧ (l.map (·.cash)).sum ≤ MF * l.length := by
    intro l hl
    induction l with
    | nil => simp
    | cons a l ih =>
      have h1 := hl a List.mem_cons_self
      have h2 := ih fun x hx => hl x (List.mem_cons_of_mem _ hx)
      simp only [List.map_cons, List.sum_cons, List.length_cons, MF] at *
      omega
  have h1 := key S.all fun a ha => (h.acc a ha).2.2
  have h2 := h.fund
  have h3 := h.len
  unfold Led.funds
  simp only [MF] at *
  omega
theorem sum_ge {l : List Ac} (h : ∀ a ∈ l, 0 ≤ a.cash) : 0 ≤ (l.map (·.cash)).sum ∧ ∀ a ∈ l, a.cash ≤ (l.map (·.cash)).sum := by
  induction l with
  | nil => simp
  | cons a l ih =>
    have h1 := h a List.mem_cons_self
    obtain ⟨h2, h3⟩ := ih fun x hx => h x (List.mem_cons_of_mem _ hx)
    simp only [List.map_cons, List.sum_cons]
    refine ⟨by omega, fun x hx => ?_⟩
    rcases List.mem_cons.1 hx with rfl | hx
    · omega
    · have := h3 x hx; omega
theorem Led.Ok.cash_le {S : Led} (h : S.Ok) {n : Int} {a : Ac} (hg : S.getO n = some a) : a.cash ≤ S.funds := by
  have hs := sum_ge (l := S.all) fun a ha => (h.acc a ha).2.2.1
  have hf := h.fund
  unfold Led.funds
  unfold Led.getO at hg
  split at hg
  · cases hg
    simp only [fundAc]
    omega
  · have := hs.2 a (Led.find_mem hg).1
    omega
theorem amongB_iff {n lo hi : Int} : amongB n lo hi = true ↔ lo ≤ n ∧ n ≤ hi := by simp [amongB]
theorem mul_bd {x y m n : Int} (h1 : -m ≤ x ∧ x ≤ m) (h2 : 0 ≤ y ∧ y ≤ n) : -(m * n) ≤ x * y ∧ x * y ≤ m * n := by
  have hm : 0 ≤ m := by omega
  constructor
  · have h3 : (-x) * y ≤ m * n := Int.mul_le_mul (by omega) h2.2 h2.1 hm
    have : (-x) * y = -(x * y) := Int.neg_mul x y
    omega
  · exact Int.mul_le_mul h1.2 h2.2 h2.1 hm
end Go.Proofs
