/-
  From a contract to a given statement: the arguments opened, and what a law leaves.
  Conditions: none; nothing here speaks of a program.
-/
import Derived.Test.YteldcaeicgobfaaVcIter
import Derived.ProofKit
import Derived.ChangeReads
import Derived.OpenShut
set_option linter.unusedSimpArgs false
set_option linter.unusedVariables false
namespace Go.Vc
open Go Go.ChangeShapes Go.WideShapes Go.ChangeAt Go.RowKit

section
variable {H : Type} {enc : TypeId × Value → H} {P : Program}

theorem Mod.same {W W' : World} (h : Mod (fun _ => False) W W') {p : MemPlace} (hp : p.block < W.heap.size) : W.sameAt W' p := by
  cases p with
  | cell b o => exact World.cell?_of_block (w := W) (h.blk b hp id)
  | map b => exact h.blk b hp id
theorem Mod.frame {W W' : World} (h : Mod (fun _ => False) W W') (may : MemPlace → Prop) : W.keptBut W' may := by
  refine ⟨h.os, h.out, fun i hi => ?_⟩
  rw [h.blk i hi id]
  split <;> simp_all

theorem trodAll_carry {W W' : World} (hl : laidOutB P = true) (hm : Mod (fun _ => False) W W') : ∀ {ts : List TypeId} {vs : List Value} {ds : List (DataW H)} {ps : List MemPlace},
    (∀ t ∈ ts, P.readableRec t = true ∧ t < P.types.size) → (∀ x ∈ ps, x.block < W.heap.size) → DataW.TrodAll enc P W 0 (fun _ => true) true ts vs ds ps →
    DataW.TrodAll enc P W' 0 (fun b => decide (b < W.heap.size)) true ts vs ds ps
  | [], [], [], _, _, _, h => h
  | t :: ts, v :: vs, d :: ds, ps, ht, hp, ⟨p, q, h1, h2, h3⟩ => by
    subst h3
    refine ⟨p, q, ?_, trodAll_carry hl hm (fun t h => ht t (List.mem_cons_of_mem _ h)) (fun x hx => hp x (List.mem_append_right _ hx)) h2, rfl⟩
    have hh := ht t List.mem_cons_self
    exact WideElems.Trod_stays hl hh.1 hh.2 h1 (fun x hx => hm.same (hp x (List.mem_append_left _ hx))) (fun x hx => by simpa using hp x (List.mem_append_left _ hx))

/-- What a law leaves that answers true and turns nothing that was there. -/
theorem post_of_mod {f : Func} {s : ChangeSpec} {fresh handsOn : Bool} {W W' : World} {args : Array Value} {ds gs : List (DataW H)} {before : List MemPlace} {tb : TypeId}
    (hl : laidOutB P = true) (ht : (f.params.toList.all fun t => P.readableRec t && Nat.blt t P.types.size) = true) (hv : s.vars = [])
    (hW : DataW.Whole enc P f.params.toList s.vars false W args.toList ds gs before) (hm : Mod (fun _ => False) W W')
    (hres : f.resultTypes = #[tb]) (htb : P.underlying tb = some .bool) (hfn : s.fn H (ds ++ gs) = { results := [.lit (.bool true)], args := ds }) :
    s.post enc P f false fresh handsOn false W args (.bool true) W' := by
  have hW0 := hW
  obtain ⟨p, q, hA, hV, rfl, hfz, hnd⟩ := hW
  rw [hv] at hV
  obtain ⟨rfl, rfl⟩ := trodVars_none hV
  have ht' : ∀ t ∈ f.params.toList, P.readableRec t = true ∧ t < P.types.size := fun t h => by
    have := List.all_eq_true.1 ht t h
    simp only [Bool.and_eq_true, Nat.blt_eq] at this
    exact this
  have hlt := hW0.lt
  refine ⟨ds, [], p ++ [], [], p, [], hW0, ?_, ?_, ?_, hm.frame _, fun h => by cases h⟩
  · rw [hfn, hres]
    exact trodAll_cons_mk (shut_bool htb true) trodAll_mk0
  · rw [hfn]
    exact trodAll_carry hl hm ht' (fun x hx => hlt x (by simpa using hx)) hA
  · rw [hv, hfn]
    rfl

/-- A slice of integers among the arguments. -/
theorem open_sl {t e : TypeId} {k : IntKind} {r : Reach} {b0 : Nat} {w : World} {v : Value} {d : DataW H} {ps : List MemPlace} (ht : P.underlying t = some (.slice e)) (he : P.underlying e = some (.int k)) (hc : P.cellsOf e = 1)
    (hval : Value.okWide P w r b0 t v) (hd : DataW.Trod enc P w 0 (fun _ => true) true t v d ps) :
    ∃ zs : List Int, Rd w 1 v zs.length (zs.map fun n => .int k n) ∧ (∀ n ∈ zs, (Lit.int k n).wf = true) ∧ ∀ b, inSl v b → b < w.heap.size := by
  have hok : Cell.ok P w r b0 t v := by
    unfold Value.okWide at hval
    rw [ht] at hval
    simp only [Cell.okWide, ht] at hval
    exact hval
  unfold Cell.ok at hok
  rw [ht] at hok
  have hvs : v = .slice none 0 0 ∨ ∃ a len cap, v = .slice (some a) len cap ∧ len ≤ cap ∧ w.has P r b0 a e cap := by
    cases v <;> simp only [] at hok <;> try exact hok.elim
    rename_i a len cap
    cases a with
    | none =>
      cases len <;> cases cap <;> simp only [] at hok <;> first | exact .inl rfl | exact hok.elim
    | some a => exact .inr ⟨a, len, cap, rfl, hok.1, hok.2.2⟩
  rcases hvs with rfl | ⟨a, len, cap, rfl, hlc, -, hsp, row, cells, hsh, -⟩
  · exact ⟨[], ⟨rfl, .inl ⟨rfl, rfl⟩⟩, by simp, fun b hb => by cases hb⟩
  obtain ⟨b, off, spot⟩ := a
  simp only at hsp
  subst hsp
  obtain ⟨fuel, hd⟩ := hd
  simp only [World.shape?] at hsh
  have hb : ∃ C fz, w.heap[b]? = some (.cells C row fz) := by
    cases hh : w.heap[b]? with
    | none => rw [hh] at hsh; cases hsh
    | some o => rw [hh] at hsh; cases o <;> simp at hsh; obtain ⟨rfl, rfl⟩ := hsh; exact ⟨_, _, rfl⟩
  obtain ⟨C, fz, hC⟩ := hb
  rcases open_ints ht he hc hd with ⟨h, -⟩ | ⟨a', len', cap', zs, hcs, -, -, -, hl, -, hcell, hwf⟩
  · simp [Value.cells] at h
  · simp only [Value.cells, List.cons.injEq, Value.slice.injEq, Option.some.injEq, and_true] at hcs
    obtain ⟨rfl, rfl, rfl⟩ := hcs
    simp only [if_true] at hl
    refine ⟨zs.take len, ⟨by simp, .inr ⟨b, off, cap, ?_, ?_, ?_⟩⟩, fun n hn => hwf n (List.mem_of_mem_take hn), fun b' hb' => ?_⟩
    · rw [List.length_take, Nat.min_eq_left (by omega)]
    · rw [List.length_take]; omega
    · by_cases h0 : len = 0
      · subst h0; exact .inl (by simp)
      right
      have hget : ∀ i, i < len → C[off + i]? = some (.int k (zs.getD i 0)) := by
        intro i hi
        have h1 := hcell i (by omega)
        have e1 : (Addr.add ⟨b, off, none⟩ i) = ⟨b, off + i, none⟩ := addr_add b off i
        rw [e1] at h1
        simpa [World.cell?, hC] using h1
      have hsz : off + (len - 1) < C.size := (Array.getElem?_eq_some_iff.1 (hget (len - 1) (by omega))).1
      refine ⟨C, row, fz, hC, by simp; omega, ?_⟩
      apply List.ext_getElem?
      intro i
      simp only [List.length_map, List.length_take]
      rw [List.getElem?_take]
      by_cases hi : i < len
      · rw [if_pos (by omega), List.getElem?_drop, Array.getElem?_toList, hget i hi]
        simp [List.getElem?_map, List.getElem?_take, hi, show i < zs.length by omega, List.getD]
      · rw [if_neg (by omega)]
        simp [List.getElem?_map, List.getElem?_take, hi]
    · cases hb'
      exact (Array.getElem?_eq_some_iff.1 hC).1

/-- A slice of bytes. -/
theorem open_bs {t e : TypeId} {r : Reach} {b0 : Nat} {w : World} {v : Value} {d : DataW H} {ps : List MemPlace} (ht : P.underlying t = some (.slice e)) (he : P.underlying e = some (.int .u8)) (hc : P.cellsOf e = 1)
    (hval : Value.okWide P w r b0 t v) (hd : DataW.Trod enc P w 0 (fun _ => true) true t v d ps) :
    ∃ l : List UInt8, Rd w 1 v l.length (bv l) ∧ ∀ b, inSl v b → b < w.heap.size := by
  obtain ⟨zs, h1, h2, h3⟩ := open_sl ht he hc hval hd
  refine ⟨zs.map fun n => UInt8.ofNat n.toNat, ?_, h3⟩
  have e : bv (zs.map fun n => UInt8.ofNat n.toNat) = zs.map fun n => .int .u8 n := by
    simp only [bv, List.map_map]
    refine List.map_congr_left fun n hn => ?_
    have hw := h2 n hn
    simp [Lit.wf, IntKind.min, IntKind.max, IntKind.signed, IntKind.bits] at hw
    simp only [Function.comp, Value.int.injEq, true_and]
    simp
    omega
  rw [e, List.length_map]
  exact h1
end
end Go.Vc
