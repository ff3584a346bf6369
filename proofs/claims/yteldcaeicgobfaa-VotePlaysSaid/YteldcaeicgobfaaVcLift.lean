/-
  From a contract to a given statement: the arguments opened, and what a law leaves.
  Conditions: none; nothing here speaks of a program.
-/
import Derived.Test.YteldcaeicgobfaaVcIter
import Derived.ProofKit
import Derived.ChangeReads
import Derived.OpenShut
set_option linter.unusedSimpArgs false
set_option linter.unusedVariables false
namespace Go.Vc
open Go Go.ChangeShapes Go.WideShapes Go.ChangeAt Go.RowKit

section
variable {H : Type} {enc : TypeId × Value → H} {P : Program}

theorem Mod.same {W W' : World} (h : Mod (fun _ => False) W W') {p : MemPlace} (hp : p.block < W.heap.size) : W.sameAt W' p := by
  cases p with
  | cell b o => exact World.cell?_of_block (w := W) (h.blk b hp id)
  | map b => exact h.blk b hp id
theorem Mod.frame {W W' : World} (h : Mod (fun _ => False) W W') (may : MemPlace → Prop) : W.keptBut W' may := by
  refine ⟨h.os, h.out, fun i hi => ?_⟩
  rw [h.blk i hi id]
  split <;> simp_all

theorem trodAll_carry {W W' : World} (hl : laidOutB P = true) (hm : Mod (fun _ => False) W W') : ∀ {ts : List TypeId} {vs : List Value} {ds : List (DataW H)} {ps : List MemPlace},
    (∀ t ∈ ts, P.readableRec t = true ∧ t < P.types.size) → (∀ x ∈ ps, x.block < W.heap.size) → DataW.TrodAll enc P W 0 (fun _ => true) true ts vs ds ps →
    DataW.TrodAll enc P W' 0 (fun b => decide (b < W.heap.size)) true ts vs ds ps
  | [], [], [], _, _, _, h => h
  | t :: ts, v :: vs, d :: ds, ps, ht, hp, ⟨p, q, h1, h2, h3⟩ => by
    subst h3
    refine ⟨p, q, ?_, trodAll_carry hl hm (fun t h => ht t (List.mem_cons_of_mem _ h)) (fun x hx => hp x (List.mem_append_right _ hx)) h2, rfl⟩
    have hh := ht t List.mem_cons_self
    exact WideElems.Trod_stays hl hh.1 hh.2 h1 (fun x hx => hm.same (hp x (List.mem_append_left _ hx))) (fun x hx => by simpa using hp x (List.mem_append_left _ hx))

/-- What a law leaves that answers true and turns nothing that was there. -/
theorem post_of_mod {f : Func} {s : ChangeSpec} {fresh handsOn : Bool} {W W' : World} {args : Array Value} {ds gs : List (DataW H)} {before : List MemPlace} {tb : TypeId}
    (hl : laidOutB P = true) (ht : (f.params.toList.all fun t => P.readableRec t && Nat.blt t P.types.size) = true) (hv : s.vars = [])
    (hW : DataW.Whole enc P f.params.toList s.vars false W args.toList ds gs before) (hm : Mod (fun _ => False) W W')
    (hres : f.resultTypes = #[tb]) (htb : P.underlying tb = some .bool) (hfn : s.fn H (ds ++ gs) = { results := [.lit (.bool true)], args := ds }) :
    s.post enc P f false fresh handsOn false W args (.bool true) W' := by
  have hW0 := hW
  obtain ⟨p, q, hA, hV, rfl, hfz, hnd⟩ := hW
  rw [hv] at hV
  obtain ⟨rfl, rfl⟩ := trodVars_none hV
  have ht' : ∀ t ∈ f.params.toList, P.readableRec t = true ∧ t < P.types.size := fun t h => by
    have := List.all_eq_true.1 ht t h
    simp only [Bool.and_eq_true, Nat.blt_eq] at this
    exact this
  have hlt := hW0.lt
  refine ⟨ds, [], p ++ [], [], p, [], hW0, ?_, ?_, ?_, hm.frame _, fun h => by cases h⟩
  · rw [hfn, hres]
    exact trodAll_cons_mk (shut_bool htb true) trodAll_mk0
  · rw [hfn]
    exact trodAll_carry hl hm ht' (fun x hx => hlt x (by simpa using hx)) hA
  · rw [hv, hfn]
    rfl

theorem cell_block {w : World} {a : Addr} {v : Value} (h : w.cell? a = some v) : a.spot = none ∧ ∃ C e fz, w.heap[a.block]? = some (.cells C e fz) ∧ C[a.off]? = some v := by
  unfold World.cell? at h
  cases hh : w.heap[a.block]? with
  | none => rw [hh] at h; cases h
  | some o =>
    rw [hh] at h
    cases o <;> simp at h
    obtain ⟨hs, hc⟩ := h
    exact ⟨hs, _, _, _, rfl, hc⟩

/-- A slice whose elements are read, cell by cell. -/
theorem rd_of_cells {w : World} {a : Addr} {n cap sz : Nat} {cs : List Value} (hc : n ≤ cap) (hl : cs.length = n * sz) (hcell : ∀ i v, cs[i]? = some v → w.cell? (a.add i) = some v) (hz : 0 < sz) : Rd w sz (.slice (some a) n cap) n cs := by
  by_cases h0 : n = 0
  · subst h0
    exact ⟨hl, .inl ⟨rfl, _, _, rfl⟩⟩
  have hpos : 0 < cs.length := by rw [hl]; exact Nat.mul_pos (by omega) hz
  obtain ⟨b, off, spot⟩ := a
  obtain ⟨hsp, C, e, fz, hC, -⟩ := cell_block (by have := hcell 0 _ (List.getElem?_eq_getElem hpos); simpa [Addr.add] using this)
  simp only at hsp hC
  subst hsp
  have hget : ∀ i v, cs[i]? = some v → C[off + i]? = some v := by
    intro i v hi
    have h1 := hcell i v hi
    have e1 : (Addr.add ⟨b, off, none⟩ i) = ⟨b, off + i, none⟩ := addr_add b off i
    rw [e1] at h1
    simpa [World.cell?, hC] using h1
  have hsz : off + (cs.length - 1) < C.size := (Array.getElem?_eq_some_iff.1 (hget (cs.length - 1) _ (List.getElem?_eq_getElem (by omega)))).1
  refine ⟨hl, .inr ⟨b, off, cap, rfl, hc, C, e, fz, hC, by omega, ?_⟩⟩
  apply List.ext_getElem?
  intro i
  rw [List.getElem?_take]
  by_cases hi : i < cs.length
  · rw [if_pos hi, List.getElem?_drop, Array.getElem?_toList, hget i _ (List.getElem?_eq_getElem hi), List.getElem?_eq_getElem hi]
  · rw [if_neg hi, List.getElem?_eq_none (by omega)]

/-- A slice of integers, read. -/
theorem rd_ints {t e : TypeId} {k : IntKind} {w : World} {base : Nat} {spare : Nat → Bool} {held : Bool} {fuel : Nat} {cs : List Value} {x : DataW H × List MemPlace}
    (ht : P.underlying t = some (.slice e)) (he : P.underlying e = some (.int k)) (hc : P.cellsOf e = 1) (hd : DataW.trod enc P w base spare held fuel t cs = some x) :
    ∃ v, cs = [v] ∧ ∃ zs : List Int, Rd w 1 v zs.length (zs.map fun n => .int k n) ∧ ∀ n ∈ zs, (Lit.int k n).wf = true := by
  rcases open_ints ht he hc hd with ⟨rfl, -⟩ | ⟨a, len, cap, zs, rfl, -, hlc, -, hl, -, hcell, hwf⟩
  · exact ⟨_, rfl, [], ⟨rfl, .inl ⟨rfl, _, _, rfl⟩⟩, by simp⟩
  · have hll : len ≤ zs.length := by rw [hl]; split <;> omega
    refine ⟨_, rfl, zs.take len, ?_, fun n hn => hwf n (List.mem_of_mem_take hn)⟩
    have e : (zs.take len).length = len := by simp; omega
    rw [e]
    refine rd_of_cells hlc (by simp; omega) (fun i v hi => ?_) (by omega)
    have hi' : i < len := by
      have := (List.getElem?_eq_some_iff.1 hi).1
      simp at this; omega
    rw [hcell i (by omega), ← hi]
    simp [List.getElem?_map, List.getElem?_take, hi', show i < zs.length by omega, List.getD]

/-- A slice of integers among the arguments. -/
theorem open_sl {t e : TypeId} {k : IntKind} {r : Reach} {b0 : Nat} {w : World} {v : Value} {d : DataW H} {ps : List MemPlace} (ht : P.underlying t = some (.slice e)) (he : P.underlying e = some (.int k)) (hc : P.cellsOf e = 1)
    (hval : Value.okWide P w r b0 t v) (hd : DataW.Trod enc P w 0 (fun _ => true) true t v d ps) :
    ∃ zs : List Int, Rd w 1 v zs.length (zs.map fun n => .int k n) ∧ ∀ n ∈ zs, (Lit.int k n).wf = true := by
  have hag : v.cells.toList = [v] := by
    unfold Value.okWide at hval
    rw [ht] at hval
    simp only [Cell.okWide, ht] at hval
    unfold Cell.ok at hval
    rw [ht] at hval
    cases v <;> first | rfl | exact hval.elim
  obtain ⟨fuel, hd⟩ := hd
  rw [hag] at hd
  obtain ⟨v', e, h⟩ := rd_ints ht he hc hd
  cases e
  exact h

theorem bv_of_ints {zs : List Int} (h : ∀ n ∈ zs, (Lit.int .u8 n).wf = true) : bv (zs.map fun n => UInt8.ofNat n.toNat) = zs.map fun n => .int .u8 n := by
  simp only [bv, List.map_map]
  refine List.map_congr_left fun n hn => ?_
  have hw := h n hn
  simp [Lit.wf, IntKind.min, IntKind.max, IntKind.signed, IntKind.bits] at hw
  simp only [Function.comp, Value.int.injEq, true_and]
  simp
  omega
/-- A slice of bytes, read. -/
theorem rd_bytes {t e : TypeId} {w : World} {base : Nat} {spare : Nat → Bool} {held : Bool} {fuel : Nat} {cs : List Value} {x : DataW H × List MemPlace}
    (ht : P.underlying t = some (.slice e)) (he : P.underlying e = some (.int .u8)) (hc : P.cellsOf e = 1) (hd : DataW.trod enc P w base spare held fuel t cs = some x) :
    ∃ v, cs = [v] ∧ ∃ l : List UInt8, Rd w 1 v l.length (bv l) := by
  obtain ⟨v, e, zs, h1, h2⟩ := rd_ints ht he hc hd
  refine ⟨v, e, zs.map fun n => UInt8.ofNat n.toNat, ?_⟩
  rw [bv_of_ints h2, List.length_map]
  exact h1
/-- A slice of bytes. -/
theorem open_bs {t e : TypeId} {r : Reach} {b0 : Nat} {w : World} {v : Value} {d : DataW H} {ps : List MemPlace} (ht : P.underlying t = some (.slice e)) (he : P.underlying e = some (.int .u8)) (hc : P.cellsOf e = 1)
    (hval : Value.okWide P w r b0 t v) (hd : DataW.Trod enc P w 0 (fun _ => true) true t v d ps) :
    ∃ l : List UInt8, Rd w 1 v l.length (bv l) := by
  obtain ⟨zs, h1, h2⟩ := open_sl ht he hc hval hd
  refine ⟨zs.map fun n => UInt8.ofNat n.toNat, ?_⟩
  rw [bv_of_ints h2, List.length_map]
  exact h1
end
end Go.Vc
