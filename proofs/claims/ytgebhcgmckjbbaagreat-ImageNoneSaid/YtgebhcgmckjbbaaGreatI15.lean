/- Part of a proof. -/
import Derived.Test.YtgebhcgmckjbbaaGreatI13
set_option linter.all false
namespace Go.Proofs
open Go
def Od.key (o : Od) : Int × Int × Bool × Int := (o.num, o.acct, o.buy, o.price)
theorem key_num {o o' : Od} (h : o.key = o'.key) : o.num = o'.num := congrArg (·.1) h
theorem key_acct {o o' : Od} (h : o.key = o'.key) : o.acct = o'.acct := congrArg (·.2.1) h
theorem key_buy {o o' : Od} (h : o.key = o'.key) : o.buy = o'.buy := congrArg (·.2.2.1) h
theorem key_price {o o' : Od} (h : o.key = o'.key) : o.price = o'.price := congrArg (·.2.2.2) h
structure SubL (l' l : List Od) : Prop where
  sub : (l'.map Od.key).Sublist (l.map Od.key)
  left : ∀ o ∈ l', 1 ≤ o.left ∧ o.left ≤ 1000000
theorem may_left {o : Od} (h : o.may = true) : 1 ≤ o.left ∧ o.left ≤ 1000000 := Od.left_bd h
theorem may_key {o o' : Od} (h : o.key = o'.key) (hm : o.may = true) (hl : 1 ≤ o'.left ∧ o'.left ≤ 1000000) : o'.may = true := by
  unfold Od.may at *
  rw [← key_num h, ← key_acct h, ← key_price h]
  simp only [Bool.and_eq_true] at hm ⊢
  exact ⟨hm.1, decide_eq_true hl⟩
theorem SubL.refl {l : List Od} (h : ∀ o ∈ l, o.may = true) : SubL l l := ⟨List.Sublist.refl _, fun o ho => may_left (h o ho)⟩
theorem SubL.mem {l' l : List Od} (h : SubL l' l) {o : Od} (ho : o ∈ l') : ∃ o0 ∈ l, o0.key = o.key := by
  have := h.sub.mem (List.mem_map_of_mem (f := Od.key) ho)
  obtain ⟨o0, h0, he⟩ := List.mem_map.1 this
  exact ⟨o0, h0, he⟩
theorem map_num (l : List Od) : l.map (·.num) = (l.map Od.key).map (·.1) := by rw [List.map_map]; rfl
theorem SubL.nums {l' l : List Od} (h : SubL l' l) : (l'.map (·.num)).Sublist (l.map (·.num)) := by
  rw [map_num, map_num]; exact h.sub.map _
theorem SubL.len {l' l : List Od} (h : SubL l' l) : l'.length ≤ l.length := by
  have := h.sub.length_le
  rwa [List.length_map, List.length_map] at this
structure MeetOk (o : Od) (left : Int) (L : List Od) (x : Int × List Od × List Td × List Int × Int) : Prop where
  sub : SubL x.2.1 L
  rest : 0 ≤ x.1 ∧ x.1 ≤ left
  fill : x.2.2.2.2 + x.1 = left
  qty : (x.2.2.1.map (·.qty)).sum = x.2.2.2.2
  tr : ∀ t ∈ x.2.2.1, 1 ≤ t.qty ∧ t.qty ≤ 1000000 ∧ t.acct ≠ o.acct ∧ ∃ b ∈ L, b.num = t.num ∧ b.acct = t.acct ∧ b.price = t.price ∧ t.qty ≤ b.left ∧ crossB o b.price = true
  gone : ∀ g ∈ x.2.2.2.1, ∃ b ∈ L, b.num = g ∧ b.acct = o.acct
theorem meet_ok {o : Od} : ∀ {L : List Od} {left : Int}, 0 ≤ left → (∀ b ∈ L, b.may = true) → MeetOk o left L (meetL o left L)
  | [], left, hl, hm => ⟨⟨List.Sublist.refl _, by simp [meetL]⟩, by simp [meetL]; omega, by simp [meetL], by simp [meetL], by simp [meetL], by simp [meetL]⟩
  | b :: r, left, hl, hm => by
    have hb := may_left (hm b List.mem_cons_self)
    have hr : ∀ x ∈ r, x.may = true := fun x hx => hm x (List.mem_cons_of_mem _ hx)
    by_cases h1 : left ≤ 0 ∨ crossB o b.price = false
    · have e : meetL o left (b :: r) = (left, b :: r, [], [], 0) := by unfold meetL; rw [if_pos h1]
      rw [e]
      exact ⟨SubL.refl hm, ⟨hl, Int.le_refl _⟩, by simp, by simp, by simp, by simp⟩
    · have hc : crossB o b.price = true := by
        cases h : crossB o b.price with
        | true => rfl
        | false => exact absurd (.inr h) h1
      by_cases h2 : b.acct = o.acct
      · have ih := meet_ok (o := o) (L := r) hl hr
        have e : meetL o left (b :: r) = ((meetL o left r).1, (meetL o left r).2.1, (meetL o left r).2.2.1, b.num :: (meetL o left r).2.2.2.1, (meetL o left r).2.2.2.2) := by
          conv => lhs; unfold meetL
          rw [if_neg h1, if_pos h2]
        rw [e]
        refine ⟨⟨ih.sub.sub.trans (List.sublist_cons_self _ _), ih.sub.left⟩, ih.rest, ih.fill, ih.qty, fun t ht => ?_, fun g hg => ?_⟩
        · obtain ⟨t1, t2, t3, b', hb', t4⟩ := ih.tr t ht
          exact ⟨t1, t2, t3, b', List.mem_cons_of_mem _ hb', t4⟩
        · rcases List.mem_cons.1 hg with rfl | hg
          · exact ⟨b, List.mem_cons_self, rfl, h2⟩
          · obtain ⟨b', hb', t4⟩ := ih.gone g hg
            exact ⟨b', List.mem_cons_of_mem _ hb', t4⟩
      · by_cases h3 : left < b.left
        · have e : meetL o left (b :: r) = (0, { b with left := b.left - left } :: r, [⟨b.price, left, b.num, b.acct⟩], [], left) := by unfold meetL; rw [if_neg h1, if_neg h2, if_pos h3]
          rw [e]
          refine ⟨⟨List.Sublist.refl _, fun o' ho => ?_⟩, ⟨Int.le_refl _, hl⟩, by simp, by simp, fun t ht => ?_, by simp⟩
          · rcases List.mem_cons.1 ho with rfl | ho
            · show 1 ≤ b.left - left ∧ b.left - left ≤ 1000000
              omega
            · exact may_left (hr o' ho)
          · rw [List.mem_singleton.1 ht]
            exact ⟨by show 1 ≤ left; omega, by show left ≤ 1000000; omega, h2, b, List.mem_cons_self, rfl, rfl, rfl, by show left ≤ b.left; omega, hc⟩
        · have ih := meet_ok (o := o) (L := r) (left := left - b.left) (by omega) hr
          have e : meetL o left (b :: r) = ((meetL o (left - b.left) r).1, (meetL o (left - b.left) r).2.1, ⟨b.price, b.left, b.num, b.acct⟩ :: (meetL o (left - b.left) r).2.2.1, (meetL o (left - b.left) r).2.2.2.1, b.left + (meetL o (left - b.left) r).2.2.2.2) := by
            conv => lhs; unfold meetL
            rw [if_neg h1, if_neg h2, if_neg h3]
          rw [e]
          have i2 := ih.rest
          have i3 := ih.fill
          refine ⟨⟨ih.sub.sub.trans (List.sublist_cons_self _ _), ih.sub.left⟩, ⟨i2.1, by show _ ≤ left; omega⟩, by show _ + _ + _ = left; omega, ?_, fun t ht => ?_, fun g hg => ?_⟩
          · show (List.map _ (_ :: _)).sum = _
            rw [List.map_cons, List.sum_cons, ih.qty]
          · rcases List.mem_cons.1 ht with rfl | ht
            · exact ⟨hb.1, hb.2, h2, b, List.mem_cons_self, rfl, rfl, rfl, Int.le_refl _, hc⟩
            · obtain ⟨t1, t2, t3, b', hb', t4⟩ := ih.tr t ht
              exact ⟨t1, t2, t3, b', List.mem_cons_of_mem _ hb', t4⟩
          · obtain ⟨b', hb', t4⟩ := ih.gone g hg
            exact ⟨b', List.mem_cons_of_mem _ hb', t4⟩
def BkMay (B : Bk) : Prop := ∀ d, ∀ o ∈ B d, o.may = true ∧ o.buy = d
theorem sdIns_perm (buy : Bool) (l : List Od) (o : Od) : (sdIns buy l o).Perm (o :: l) := by
  unfold sdIns
  refine List.perm_middle.trans ?_
  rw [List.take_append_drop]
theorem sdAdd_cases {buy : Bool} {l : List Od} {o : Od} (hm : o.may = true) (hb : o.buy = buy) :
    ((sdAdd buy l o).2 = l ∧ (sdAdd buy l o).1 ≠ 0) ∨ ((sdAdd buy l o).2.Perm (o :: l) ∧ l.length < 100 ∧ (∀ x ∈ l, x.num ≠ o.num) ∧ (sdAdd buy l o).2 = sdIns buy l o) := by
  unfold sdAdd
  rw [if_neg (by simp [hm, hb])]
  by_cases h1 : (l.any fun x => decide (x.num = o.num)) = true
  · rw [if_pos h1]; exact .inl ⟨rfl, by simp⟩
  · rw [if_neg h1]
    by_cases h2 : 100 ≤ l.length
    · rw [if_pos h2]; exact .inl ⟨rfl, by simp⟩
    · rw [if_neg h2]
      refine .inr ⟨sdIns_perm _ _ _, by omega, fun x hx he => h1 ?_, rfl⟩
      rw [List.any_eq_true]
      exact ⟨x, hx, decide_eq_true he⟩
structure ComeOk (B : Bk) (o : Od) (x : Bk × Pm) : Prop where
  opp : SubL (x.1 (!o.buy)) (B !o.buy)
  own : x.1 o.buy = B o.buy ∨ (0 < x.2.left ∧ x.1 o.buy = sdIns o.buy (B o.buy) { o with left := x.2.left } ∧ (B o.buy).length < 100 ∧ ∀ y ∈ B o.buy, y.num ≠ o.num)
  fill : 0 ≤ x.2.left ∧ 0 ≤ x.2.filled ∧ x.2.filled + x.2.left ≤ o.left
  qty : (x.2.trades.map (·.qty)).sum = x.2.filled
  tr : ∀ t ∈ x.2.trades, 1 ≤ t.qty ∧ t.qty ≤ 1000000 ∧ t.acct ≠ o.acct ∧ ∃ b ∈ B !o.buy, b.num = t.num ∧ b.acct = t.acct ∧ b.price = t.price ∧ t.qty ≤ b.left ∧ crossB o b.price = true
theorem Bk.set_ne (B : Bk) {d e : Bool} (l : List Od) (h : e ≠ d) : B.set d l e = B e := if_neg h
theorem come_ok {B : Bk} {o : Od} {rests : Bool} (hB : BkMay B) (ho : o.may = true) : ComeOk B o (bkCome B o rests) := by
  have hl := may_left ho
  have hm := meet_ok (o := o) (L := B !o.buy) (left := o.left) (by omega) fun b hb => (hB _ b hb).1
  obtain ⟨x, hx⟩ : ∃ x, x = meetL o o.left (B !o.buy) := ⟨_, rfl⟩
  rw [← hx] at hm
  have m2 := hm.rest
  have m3 := hm.fill
  have hq : 0 ≤ x.2.2.2.2 := by omega
  have hne : o.buy ≠ !o.buy := by cases o.buy <;> simp
  unfold bkCome
  simp only [← hx]
  by_cases hr : rests = true ∧ 0 < x.1
  · rw [if_pos hr]
    have h1 := may_key (o := o) (o' := { o with left := x.1 }) rfl ho (by show 1 ≤ x.1 ∧ x.1 ≤ 1000000; omega)
    refine ⟨?_, ?_, by show 0 ≤ x.1 ∧ 0 ≤ x.2.2.2.2 ∧ x.2.2.2.2 + x.1 ≤ o.left; omega, hm.qty, hm.tr⟩
    · show SubL (Bk.set _ _ _ _) _
      rw [Bk.set_other, Bk.set_self]; exact hm.sub
    · show Bk.set _ _ _ _ = _ ∨ (0 < x.1 ∧ Bk.set _ _ _ _ = sdIns _ _ { o with left := x.1 } ∧ _)
      rw [Bk.set_self, Bk.set_ne _ _ hne]
      rcases sdAdd_cases (l := B o.buy) (buy := o.buy) h1 rfl with ⟨h2, -⟩ | ⟨h2, h3, h4, h5⟩
      · exact .inl h2
      · exact .inr ⟨hr.2, h5, h3, h4⟩
  · rw [if_neg hr]
    refine ⟨?_, .inl ?_, by show (0:Int) ≤ 0 ∧ 0 ≤ x.2.2.2.2 ∧ x.2.2.2.2 + 0 ≤ o.left; omega, hm.qty, hm.tr⟩
    · show SubL (Bk.set _ _ _ _) _
      rw [Bk.set_self]; exact hm.sub
    · show Bk.set _ _ _ _ = _
      rw [Bk.set_ne _ _ hne]
theorem mem_all {B : Bk} {o : Od} : o ∈ B.all ↔ ∃ d, o ∈ B d := by
  unfold Bk.all
  rw [List.mem_append]
  constructor
  · rintro (h | h)
    · exact ⟨true, h⟩
    · exact ⟨false, h⟩
  · rintro ⟨d, h⟩
    cases d
    · exact .inr h
    · exact .inl h
end Go.Proofs
namespace Go.Proofs
open Go Go.Vc
def sumF (g : Po → Int) (l : List Po) : Int := (l.map g).sum
def gq (c : Int) (p : Po) : Int := if p.c = c then p.q else 0
def gb (c : Int) (p : Po) : Int := if p.c = c then p.b else 0
def Led.Zero (S : Led) : Prop := ∀ c, sumF (gq c) S.held = 0 ∧ sumF (gb c) S.held = 0
theorem Led.empty_zero : Led.Zero ⟨0, [], []⟩ := fun c => ⟨rfl, rfl⟩
end Go.Proofs
namespace Go.Proofs
open Go
structure Cal.Ok (C : Cal) : Prop where
  len : C.l.length ≤ 16
  day : U32' C.day
  ok : ∀ k ∈ C.l, k.Ok
  srt : Rising C.l
def Ven.ords (S : Ven) (n : Int) : List Od := (S.bk n).all ++ S.bd n
def Led.Stands (L : Led) (a : Int) : Prop := ∃ x, L.find a = some x ∧ x.kil = false ∧ x.dfl = false
structure Ven.Std (S : Ven) (o : Od) : Prop where
  may : o.may = true
  fit : o.Fit
  num : o.num < S.next
  acc : S.led.Stands o.acct
structure OkO (S : Ven) : Prop where
  out : ∀ n, calAlive S.cal.l n ≠ 0 → S.ords n = []
  side : ∀ n d, (S.bk n d).length ≤ 100 ∧ ∀ o ∈ S.bk n d, o.buy = d
  std : ∀ n, ∀ o ∈ S.ords n, S.Std o
  nd : ∀ n, ((S.ords n).map (·.num)).Nodup
  apart : ∀ n m o o', o ∈ S.ords n → o' ∈ S.ords m → o.num = o'.num → n = m
  bdl : ∀ n, (S.bd n).length ≤ 50
structure OkL (C : Cal) (L : Led) : Prop where
  led : L.Ok
  held : ∀ p ∈ L.held, calAlive C.l p.c = 0
  zero : L.Zero
structure Ven.Ok (S : Ven) : Prop where
  cal : S.cal.Ok
  led : OkL S.cal S.led
  ord : OkO S
  next : 1 ≤ S.next ∧ S.next ≤ maxNum + 1
  fnd : S.led.funds ≤ MF
theorem mem_bk {S : Ven} {n : Int} {d : Bool} {o : Od} (h : o ∈ S.bk n d) : o ∈ S.ords n := List.mem_append_left _ (mem_all.2 ⟨d, h⟩)
theorem mem_bd {S : Ven} {n : Int} {o : Od} (h : o ∈ S.bd n) : o ∈ S.ords n := List.mem_append_right _ h
theorem mem_ords {S : Ven} {n : Int} {o : Od} (h : o ∈ S.ords n) : (∃ d, o ∈ S.bk n d) ∨ o ∈ S.bd n := (List.mem_append.1 h).imp mem_all.1 id
theorem OkO.bkMay {S : Ven} (h : OkO S) (n : Int) : BkMay (S.bk n) := fun d o ho => ⟨(h.std n o (mem_bk ho)).may, (h.side n d).2 o ho⟩
theorem OkO.bdMay {S : Ven} (h : OkO S) (n : Int) : ∀ o ∈ S.bd n, o.may = true := fun o ho => (h.std n o (mem_bd ho)).may
theorem nodup_sub3 {a a' b b' c c' : List Int} (ha : a'.Sublist a) (hb : b'.Sublist b) (hc : c'.Sublist c) (h : (a ++ b ++ c).Nodup) : (a' ++ b' ++ c').Nodup := h.sublist ((ha.append hb).append hc)
theorem ords_map (S : Ven) (n : Int) : (S.ords n).map (·.num) = (S.bk n true).map (·.num) ++ (S.bk n false).map (·.num) ++ (S.bd n).map (·.num) := by
  unfold Ven.ords Bk.all; rw [List.map_append, List.map_append]
theorem fit_key {o o' : Od} (h : o.key = o'.key) (hf : o.Fit) (hl : 1 ≤ o'.left ∧ o'.left ≤ 1000000) : o'.Fit := by
  unfold Od.Fit at *
  rw [← key_num h, ← key_acct h, ← key_price h]
  exact ⟨hf.1, hf.2.1, hf.2.2.1, by constructor <;> omega⟩
theorem OkO.addBk {S : Ven} (h : OkO S) {n : Int} {x : Od} {B : Bk} {nx : Int} (hal : calAlive S.cal.l n = 0) (hm : x.may = true) (hf : x.Fit) (hx : x.num < nx) (hst : S.led.Stands x.acct) (hfr : ∀ m, ∀ o ∈ S.ords m, o.num ≠ x.num)
    (opp : SubL (B !x.buy) (S.bk n !x.buy)) (own : B x.buy = S.bk n x.buy ∨ ((B x.buy).Perm (x :: S.bk n x.buy) ∧ (S.bk n x.buy).length < 100)) (hnx : S.next ≤ nx) : OkO { S with bk := upd S.bk n B, next := nx } := by
  have hmay := h.bkMay
  have hbdm := h.bdMay
  
  have back : ∀ m, ∀ o ∈ ({ S with bk := upd S.bk n B, next := nx } : Ven).ords m, (∃ o0 ∈ S.ords m, o0.key = o.key ∧ 1 ≤ o.left ∧ o.left ≤ 1000000) ∨ (o = x ∧ m = n) := by
    intro m o ho
    by_cases hmn : m = n
    · subst hmn
      rcases mem_ords ho with ⟨d, h1⟩ | h1
      · replace h1 : o ∈ upd S.bk m B m d := h1
        rw [upd_self] at h1
        by_cases hd : d = x.buy
        · subst hd
          rcases own with h2 | ⟨h2, -⟩
          · rw [h2] at h1; exact .inl ⟨o, mem_bk h1, rfl, may_left (hmay m _ o h1).1⟩
          · rcases List.mem_cons.1 (h2.mem_iff.1 h1) with rfl | h3
            · exact .inr ⟨rfl, rfl⟩
            · exact .inl ⟨o, mem_bk h3, rfl, may_left (hmay m _ o h3).1⟩
        · obtain rfl : d = !x.buy := by cases d <;> cases hx : x.buy <;> simp_all
          obtain ⟨o0, h3, h4⟩ := opp.mem h1
          exact .inl ⟨o0, mem_bk h3, h4, opp.left o h1⟩
      · exact .inl ⟨o, mem_bd h1, rfl, may_left (hbdm m o h1)⟩
    · have : o ∈ S.ords m := by
        have e : ({ S with bk := upd S.bk n B, next := nx } : Ven).ords m = S.ords m := by
          show (upd S.bk n B m).all ++ S.bd m = _
          rw [upd_ne _ _ _ hmn]; rfl
        rwa [e] at ho
      exact .inl ⟨o, this, rfl, may_left (h.std m o this).may⟩
  have hsid : ∀ d, ((B d).map (·.num)).Sublist ((S.bk n d).map (·.num)) ∨ (d = x.buy ∧ ((B d).map (·.num)).Perm (x.num :: (S.bk n d).map (·.num))) := fun d => by
    by_cases hd : d = x.buy
    · subst hd
      rcases own with h2 | ⟨h2, -⟩
      · rw [h2]; exact .inl (List.Sublist.refl _)
      · exact .inr ⟨rfl, h2.map _⟩
    · obtain rfl : d = !x.buy := by cases d <;> cases hx : x.buy <;> simp_all
      exact .inl opp.nums
  refine ⟨fun m hm' => ?_, fun m d => ?_, fun m o ho => ?_, fun m => ?_, fun m1 m2 o o' ho ho' he => ?_, h.bdl⟩
  · have hmn : m ≠ n := fun e => by subst e; exact hm' hal
    show (upd S.bk n B m).all ++ S.bd m = []
    rw [upd_ne _ _ _ hmn]; exact h.out m hm'
  · show (upd S.bk n B m d).length ≤ 100 ∧ ∀ o ∈ upd S.bk n B m d, _
    by_cases hmn : m = n
    · subst hmn
      rw [upd_self]
      by_cases hd : d = x.buy
      · subst hd
        rcases own with h2 | ⟨h2, h3⟩
        · rw [h2]; exact h.side m _
        · refine ⟨by have := h2.length_eq; rw [List.length_cons] at this; omega, fun o ho => ?_⟩
          rcases List.mem_cons.1 (h2.mem_iff.1 ho) with rfl | h4
          · rfl
          · exact (h.side m _).2 o h4
      · obtain rfl : d = !x.buy := by cases d <;> cases hx : x.buy <;> simp_all
        refine ⟨Nat.le_trans opp.len (h.side m _).1, fun o ho => ?_⟩
        obtain ⟨o0, h3, h4⟩ := opp.mem ho
        rw [← key_buy h4]; exact (h.side m _).2 o0 h3
    · rw [upd_ne _ _ _ hmn]; exact h.side m d
  · rcases back m o ho with ⟨o0, h2, h3, h4⟩ | ⟨rfl, rfl⟩
    · have hs := h.std m o0 h2
      exact ⟨may_key h3 hs.may h4, fit_key h3 hs.fit h4, by rw [← key_num h3]; exact Int.lt_of_lt_of_le hs.num hnx, by rw [← key_acct h3]; exact hs.acc⟩
    · exact ⟨hm, hf, hx, hst⟩
  · by_cases hmn : m = n
    · subst hmn
      rw [ords_map]
      show (List.map _ (upd S.bk m B m true) ++ List.map _ (upd S.bk m B m false) ++ List.map _ (S.bd m)).Nodup
      rw [upd_self]
      have h0 := h.nd m
      have hfn : x.num ∉ (S.ords m).map (·.num) := fun hc => by
        obtain ⟨o, ho, he⟩ := List.mem_map.1 hc
        exact hfr m o ho he
      rw [ords_map] at h0 hfn
      have h1 : (x.num :: ((S.bk m true).map (·.num) ++ (S.bk m false).map (·.num) ++ (S.bd m).map (·.num))).Nodup := List.nodup_cons.2 ⟨hfn, h0⟩
      rcases hsid true with ht | ⟨et, ht⟩
      · rcases hsid false with hF | ⟨ef, hF⟩
        · exact nodup_sub3 ht hF (List.Sublist.refl _) h0
        · have hp : ((S.bk m true).map (·.num) ++ (B false).map (·.num) ++ (S.bd m).map (·.num)).Perm (x.num :: ((S.bk m true).map (·.num) ++ (S.bk m false).map (·.num) ++ (S.bd m).map (·.num))) := by
            refine ((List.Perm.append_left _ hF).append_right _).trans ?_
            rw [List.append_assoc, List.append_assoc]
            exact List.perm_middle
          exact nodup_sub3 ht (List.Sublist.refl _) (List.Sublist.refl _) (hp.nodup_iff.2 h1)
      · rcases hsid false with hF | ⟨ef, hF⟩
        · have hp : ((B true).map (·.num) ++ (S.bk m false).map (·.num) ++ (S.bd m).map (·.num)).Perm (x.num :: ((S.bk m true).map (·.num) ++ (S.bk m false).map (·.num) ++ (S.bd m).map (·.num))) :=
            (ht.append_right _).append_right _
          exact nodup_sub3 (List.Sublist.refl _) hF (List.Sublist.refl _) (hp.nodup_iff.2 h1)
        · rw [← ef] at et; cases et
    · show (((upd S.bk n B m).all ++ S.bd m).map (·.num)).Nodup
      rw [upd_ne _ _ _ hmn]; exact h.nd m
  · rcases back m1 o ho with ⟨a, h2, h3, -⟩ | ⟨rfl, rfl⟩
    · rcases back m2 o' ho' with ⟨b, h4, h5, -⟩ | ⟨rfl, rfl⟩
      · exact h.apart _ _ a b h2 h4 (by rw [key_num h3, key_num h5]; exact he)
      · exact absurd ((key_num h3).trans he) (hfr _ a h2)
    · rcases back m2 o' ho' with ⟨b, h4, h5, -⟩ | ⟨rfl, rfl⟩
      · exact absurd ((key_num h5).trans he.symm) (hfr _ b h4)
      · rfl
theorem OkO.addBd {S : Ven} (h : OkO S) {n : Int} {x : Od} {nx : Int} (hal : calAlive S.cal.l n = 0) (hm : x.may = true) (hf : x.Fit) (hx : x.num < nx) (hst : S.led.Stands x.acct) (hfr : ∀ m, ∀ o ∈ S.ords m, o.num ≠ x.num)
    (hl : (S.bd n).length < 50) (hnx : S.next ≤ nx) : OkO { S with bd := upd S.bd n (S.bd n ++ [x]), next := nx } := by
  have back : ∀ m, ∀ o ∈ ({ S with bd := upd S.bd n (S.bd n ++ [x]), next := nx } : Ven).ords m, o ∈ S.ords m ∨ (o = x ∧ m = n) := by
    intro m o ho
    by_cases hmn : m = n
    · subst hmn
      rcases mem_ords ho with ⟨d, h1⟩ | h1
      · exact .inl (mem_bk h1)
      · replace h1 : o ∈ upd S.bd m (S.bd m ++ [x]) m := h1
        rw [upd_self] at h1
        rcases List.mem_append.1 h1 with h2 | h2
        · exact .inl (mem_bd h2)
        · exact .inr ⟨List.mem_singleton.1 h2, rfl⟩
    · left
      have e : ({ S with bd := upd S.bd n (S.bd n ++ [x]), next := nx } : Ven).ords m = S.ords m := by
        show (S.bk m).all ++ upd S.bd n _ m = _
        rw [upd_ne _ _ _ hmn]; rfl
      rwa [e] at ho
  refine ⟨fun m hm' => ?_, h.side, fun m o ho => ?_, fun m => ?_, fun m1 m2 o o' ho ho' he => ?_, fun m => ?_⟩
  · have hmn : m ≠ n := fun e => by subst e; exact hm' hal
    show (S.bk m).all ++ upd S.bd n _ m = []
    rw [upd_ne _ _ _ hmn]; exact h.out m hm'
  · rcases back m o ho with h2 | ⟨rfl, rfl⟩
    · have hs := h.std m o h2
      exact ⟨hs.may, hs.fit, Int.lt_of_lt_of_le hs.num hnx, hs.acc⟩
    · exact ⟨hm, hf, hx, hst⟩
  · by_cases hmn : m = n
    · subst hmn
      show (((S.bk m).all ++ upd S.bd m _ m).map (·.num)).Nodup
      rw [upd_self, ← List.append_assoc, List.map_append, List.nodup_append]
      refine ⟨h.nd m, by simp, fun a ha b hb => ?_⟩
      obtain ⟨o, ho, rfl⟩ := List.mem_map.1 ha
      rw [List.map_cons, List.map_nil, List.mem_singleton] at hb
      rw [hb]; exact hfr m o ho
    · show (((S.bk m).all ++ upd S.bd n _ m).map (·.num)).Nodup
      rw [upd_ne _ _ _ hmn]; exact h.nd m
  · rcases back m1 o ho with h2 | ⟨rfl, rfl⟩
    · rcases back m2 o' ho' with h4 | ⟨rfl, rfl⟩
      · exact h.apart _ _ o o' h2 h4 he
      · exact absurd he (hfr _ o h2)
    · rcases back m2 o' ho' with h4 | ⟨rfl, rfl⟩
      · exact absurd he.symm (hfr _ o' h4)
      · rfl
  · show (upd S.bd n _ m).length ≤ 50
    by_cases hmn : m = n
    · subst hmn; rw [upd_self, List.length_append]; show (S.bd m).length + 1 ≤ 50; omega
    · rw [upd_ne _ _ _ hmn]; exact h.bdl m
end Go.Proofs
namespace Go.Proofs
open Go
theorem alive_get {l : List Ct} {n : Int} (h : calAlive l n = 0) : ∃ k, calGet l n = some k ∧ k.st ≠ 3 ∧ k.spec.num = n ∧ k ∈ l := by
  unfold calAlive at h
  cases hg : calGet l n with
  | none => rw [hg] at h; cases h
  | some k =>
    rw [hg] at h
    refine ⟨k, rfl, fun h3 => ?_, by simpa using List.find?_some hg, calGet_mem hg⟩
    simp only at h
    rw [if_pos h3] at h; cases h
theorem fit_left {o : Od} (h : o.Fit) {x : Int} (hx : 0 ≤ x ∧ x ≤ 1000000) : ({ o with left := x } : Od).Fit := ⟨h.1, h.2.1, h.2.2.1, by constructor <;> show _ <;> simp only <;> omega⟩
theorem come_addBk {S : Ven} (h : OkO S) {n : Int} {o : Od} {rests : Bool} {nx : Int} (hal : calAlive S.cal.l n = 0) (hm : o.may = true) (hf : o.Fit) (hx : o.num < nx) (hst : S.led.Stands o.acct) (hfr : ∀ m, ∀ y ∈ S.ords m, y.num ≠ o.num) (hnx : S.next ≤ nx) :
    OkO { S with bk := upd S.bk n (bkCome (S.bk n) o rests).1, next := nx } := by
  have hc := come_ok (B := S.bk n) (o := o) (rests := rests) (h.bkMay n) hm
  have hl := may_left hm
  rcases hc.own with h1 | ⟨h1, h2, h3, h4⟩
  · exact h.addBk hal hm hf hx hst hfr hc.opp (.inl h1) hnx
  · have hf2 := hc.fill
    refine h.addBk (x := { o with left := (bkCome (S.bk n) o rests).2.left }) hal (may_key (o := o) rfl hm ⟨h1, ?_⟩) (fit_left hf ?_) hx hst hfr hc.opp (.inr ⟨?_, h3⟩) hnx
    · show (bkCome (S.bk n) o rests).2.left ≤ 1000000
      omega
    · omega
    · show List.Perm ((bkCome (S.bk n) o rests).1 o.buy) _
      rw [h2]; exact sdIns_perm _ _ _
theorem place_0 {B : Bk} {o : Od} {k : Int} (h : (bkPlace B o k).1 = 0) : bkPlace B o k = (0, bkCome B o (decide (k = 1 ∨ k = 4))) ∧ o.may = true ∧ 1 ≤ k ∧ k ≤ 4 := by
  unfold bkPlace at h ⊢
  split at h
  · cases h
  · rename_i h1
    rw [if_neg h1]
    split at h
    · cases h
    · rename_i h2
      rw [if_neg h2]
      split at h
      · cases h
      · rename_i h3
        rw [if_neg h3]
        split at h
        · cases h
        · rename_i h4
          rw [if_neg h4]
          split at h
          · cases h
          · rename_i h5
            rw [if_neg h5]
            simp only [not_or] at h1
            exact ⟨rfl, by simpa using h1.1, by omega, by omega⟩
end Go.Proofs
namespace Go.Proofs
open Go
theorem empty_ok : Ven.empty.Ok := by
  refine ⟨⟨by show (0:Nat) ≤ 16; omega, ⟨by show (0:Int) ≤ 0; omega, by show (0:Int) < 4294967296; omega⟩, fun k hk => (by cases hk), List.Pairwise.nil⟩, ⟨⟨⟨by show (0:Int) ≤ 0; omega, by show (0:Int) ≤ MF; unfold MF; omega⟩, List.Pairwise.nil, List.Pairwise.nil, by show (0:Nat) ≤ 64; omega, fun a ha => (by cases ha), fun p hp => (by cases hp)⟩, fun p hp => (by cases hp), Led.empty_zero⟩,
    ⟨fun n _ => rfl, fun n d => ⟨by show (0:Nat) ≤ 100; omega, fun o ho => (by cases ho)⟩, fun n o ho => (by cases ho), fun n => List.nodup_nil, fun n m o o' ho => (by cases ho), fun n => (by show (0:Nat) ≤ 50; omega)⟩, ⟨by show (1:Int) ≤ 1; omega, by show (1:Int) ≤ maxNum + 1; unfold maxNum; omega⟩, by show (0 + (0:Int)) ≤ MF; unfold MF; omega⟩
end Go.Proofs
