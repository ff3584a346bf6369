/-
  The contract of 'last'.
  Conditions: the memory holds the disk.
-/
import Derived.Test.YteldcaeicgobfaaDisk1
set_option linter.unusedSimpArgs false
set_option linter.unusedVariables false
namespace Go.Proofs
open Go Go.Vc

theorem uPlace : Try.prog.underlying 113 = some (.struct (Try.prog.fieldsOf 113)) := by kernel_rfl
theorem fPlace : Try.prog.fieldsOf 113 = #[{ name := "file", type := 3, offset := 0, embedded := false, tag := "", pkgPath := "broadside/disk", byteOffset := 0 }, { name := "at", type := 3, offset := 1, embedded := false, tag := "", pkgPath := "broadside/disk", byteOffset := 8 }] := by kernel_rfl
theorem ckint (b : Bool) (n : Nat) (k : IntKind) (f : Int) (w : World) : (Instr.checkKey b (n+1) 3 (.int k f)).run Try.prog w = .ok () w := by
  unfold Instr.checkKey
  simp [go_sem]
theorem eqPlace (w : World) (x y : Pl) : (Op.equal 113 (encP x) (encP y)).run Try.prog w = .ok (decide (x = y)) w := by
  have h : Try.prog.stoodInHeld 113 = false := by kernel_rfl
  obtain ⟨f, a⟩ := x
  obtain ⟨f', a'⟩ := y
  unfold Op.equal Op.maxDepth encP
  rw [run_equalIn_struct w 9999 113 _ _ uPlace h, fPlace]
  have e1 : ∀ (x y : Int) (w : World), (Op.equalIn 9999 3 (.int .i64 x) (.int .i64 y)).run Try.prog w = .ok (x == y) w := fun x y w => run_equalIn_int w 9998 3 .i64 .i64 x y (by kernel_rfl)
  simp [Op.eqFields, part, isAgg, go_sem, e1]
  by_cases h1 : f = f' <;> by_cases h2 : a = a' <;> simp_all
theorem ckPlace (w : World) (b : Bool) (x : Pl) : (Instr.checkKey b 10000 113 (encP x)).run Try.prog w = .ok () w := by
  obtain ⟨f, a⟩ := x
  unfold Instr.checkKey encP
  have e1 : ∀ (x : Int) (w : World), (Instr.checkKey b 9999 3 (.int .i64 x)).run Try.prog w = .ok () w := fun x w => ckint b 9998 .i64 x w
  simp [go_sem, uPlace, fPlace, e1]
theorem kPlace : KeyT Try.prog 113 encP :=
  KeyT.asking uPlace (fun x y => rfl) eqPlace ckPlace (fun x => by simp [encP, Instr.sameBits])
theorem uMap : Try.prog.underlying 52 = some (.map 113 114) := by kernel_rfl

theorem ca_last {w : World} {d : Nat} {F : Nat → Prop} {D : DM} {K : Kont} {p : Pl × Sec} {s : Value} (h : DiskQ w d F D s) (hp2 : p.2.length = 128)
    (hK : ∀ w' F', DiskQ w' d F' { D with lasts := put D.lasts p.1 p.2 } s → Stp F w w' F' → K (.tuple #[]) w') : Ca Try.prog 56 #[dptr d, .agg (cellsPut p).toArray] w K := by
  have h0 := h
  obtain ⟨⟨mb, h1, h2, h3, h4, h5, h6, h7⟩, hl, hw, hle, h8⟩ := h
  have hlt := lt_of_heap h1
  have t1 : isAggT Try.prog 114 = true := by kernel_rfl
  have t2 : Try.prog.cellsOf 114 = 127 + 1 := by kernel_rfl
  apply ca56
  unfold F56
  cases mb with
  | none =>
    have hL : D.lasts = [] := by
      rcases h2 with ⟨_, h2⟩ | ⟨b, h2, _⟩
      · exact h2
      · cases h2
    simp [go_sem, dptr, hp_of h1, olds hlt, cellsPut]
    generalize hW : (((w.alloc _).alloc (.map #[] 0)).setCell _ _).drew = W
    have m1 : Mod (fun b => b = d) w W := by subst hW; exact ((((Mod.refl _ w).alloc _).alloc _).setCell (by simp) _ _).drew
    have f1 : hp W w.heap.size = some (.cells (cellsPut p).toArray 116 (0, 0)) := by subst hW; simp [go_sem, olds hlt, cellsPut]
    have f2 : hp W (w.heap.size + 1) = some (.map #[] 0) := by subst hW; simp [go_sem, olds hlt]
    have f3 : hp W d = some (.cells #[.map (some (w.heap.size + 1)), s, .int .i64 D.left, .bool D.armed, .bool D.off] 55 (0, 0)) := by subst hW; simp [go_sem, olds hlt, hp_of h1]
    have f4 : W.heap.size = w.heap.size + 2 := by subst hW; simp [go_sem]
    refine rdX_bigS (bv p.2) 127 t1 t2 (by simp [hp2]) ⟨_, _, _, f1, by simp [cellsPut]; omega, by simp [cellsPut]; exact List.take_of_length_le (by simp)⟩ ?_
    refine rux_mapUp (enc := encP) (ev := encS) (L := []) (x := p.1) (v := p.2) uMap kPlace ⟨by simp, #[], 0, f2, by simp, by simp, by simp⟩ fun w' g1 g2 g3 => ?_
    have g4 : w'.heap[d]? = _ := g2.keep f3 (by show ¬ d = w.heap.size + 1; omega)
    refine hK w' (fun b => F b ∨ b = w.heap.size + 1) ⟨⟨some (w.heap.size + 1), g4, .inr ⟨_, rfl, by rw [hL]; exact g1⟩, ?_, ?_, ?_, h6, ?_⟩, ?_, hw, hle, h8⟩ ⟨?_, ?_⟩
    · exact (h3.mod m1 fun b hb e => h6 (e ▸ hb)).mod g2 fun b hb e => by have := h3.lt hb; omega
    · intro b
      rw [h4 b]
      simp
      constructor
      · rintro ((h | h) | h)
        · exact .inl h
        · exact .inr (.inr h)
        · exact .inr (.inl h.symm)
      · rintro (h | h | h)
        · exact .inl (.inl h)
        · exact .inr h.symm
        · exact .inl (.inr h)
    · simp; omega
    · rintro b hb hb'
      cases hb
      have := h3.lt hb'; omega
    · intro q hq
      rcases mem_put hq with rfl | hq
      · exact hp2
      · exact hl q hq
    · exact (m1.mono fun b _ hb => (h4 b).2 (.inl hb)).on g2 fun b hb => .inr (by omega)
    · rintro b (hb | rfl)
      · exact .inl hb
      · exact .inr (by omega)
  | some m =>
    simp [go_sem, dptr, hp_of h1, olds hlt, cellsPut]
    generalize hW : (w.alloc _).drew = W
    have hM : MapAt encP encS w m D.lasts := by
      rcases h2 with ⟨h2, _⟩ | ⟨b, h2, h2'⟩
      · cases h2
      · cases h2; exact h2'
    have m1 : Mod (fun _ => False) w W := by subst hW; exact ((Mod.refl _ w).alloc _).drew
    have f1 : hp W w.heap.size = some (.cells (cellsPut p).toArray 116 (0, 0)) := by subst hW; simp [go_sem, olds hlt, cellsPut]
    refine rdX_bigS (bv p.2) 127 t1 t2 (by simp [hp2]) ⟨_, _, _, f1, by simp [cellsPut]; omega, by simp [cellsPut]; exact List.take_of_length_le (by simp)⟩ ?_
    refine rux_mapUp (enc := encP) (ev := encS) (L := D.lasts) (x := p.1) (v := p.2) uMap kPlace (hM.mod m1 id) fun w' g1 g2 g3 => ?_
    have m2 : Mod (fun b => b = m) w w' := (m1.mono fun _ _ hb => hb.elim).on g2 fun b hb => .inl hb
    have hmd : m ≠ d := fun e => h5 (by rw [e])
    have fm : F m := (h4 m).2 (.inr (.inl rfl))
    refine hK w' F ⟨⟨some m, m2.keep h1 (fun e => hmd e.symm), .inr ⟨_, rfl, g1⟩, h3.mod m2 fun b hb e => h7 m rfl (e ▸ hb), h4, h5, h6, h7⟩, ?_, hw, hle, h8⟩ ⟨m2.mono fun b _ hb => by subst hb; exact fm, fun b hb => .inl hb⟩
    intro q hq
    rcases mem_put hq with rfl | hq
    · exact hp2
    · exact hl q hq
end Go.Proofs
