/-
  The contract of Copy.
  Conditions: the memory holds the disk.
-/
import Derived.Test.YteldcaeicgobfaaRef4
set_option linter.unusedSimpArgs false
set_option linter.unusedVariables false
namespace Go.Proofs
open Go Go.Vc

theorem clone_find : Extern.find Try.f82 = some Extern.MapsClone.clone := by kernel_rfl
theorem clone_next : Extern.findNext Try.f82 = none := by kernel_rfl
theorem clone_name : (Try.f82.name == "runtime.NumGoroutine") = false := by kernel_rfl
theorem clone_body : Try.f82.body.isNone = true := by kernel_rfl

theorem run_clone {w : World} {r : Nat} {es : Array MapEntry} {c : Nat} {t : TypeId} (h : w.heap[r]? = some (.map es c)) :
    (callFunc 82 #[.iface t (.map (some r))]).run Try.prog w = .ok (.value (.iface t (.map (some w.heap.size)))) (w.alloc (.map es c)) := by
  unfold callFunc
  have e : Extern.MapsClone.clone #[.iface t (.map (some r))] = (getObj r >>= fun o => match o with
      | .map entries clock => (newObj (.map entries clock) >>= fun n => pure (.iface t (.map (some n))))
      | _ => stuck "maps.clone: a map expected") := rfl
  have hpr : ∀ w, Sem.run Try.prog program w = .ok Try.prog w := fun _ => rfl
  have hmk : ∀ m w, Sem.run Try.prog (mark m) w = .ok () w := fun _ _ => rfl
  simp only [Sem.run_bind, hpr, hmk, Result.andThen, Try.func82, clone_name, clone_body, clone_next, clone_find, Bool.false_eq_true, if_false, if_true]
  rw [e]
  simp [MapKept.run_getObj_map h, Result.andThen]

theorem ca_mclone_nil {w : World} {K : Kont} (hK : K (.map none) w) : Ca Try.prog 61 #[.map none] w K := by
  apply ca61
  unfold F61
  simp [go_sem, Try.underlying52]
  exact hK
theorem run_assert {w : World} {v : Value} : (Instr.typeAssert (.iface 52 v) 20 52 false).run Try.prog w = .ok v w := by
  unfold Instr.typeAssert
  simp [run_underlying Try.underlying52, Result.andThen]
theorem ca_mclone {w : World} {K : Kont} {b : Nat} {es : Array MapEntry} {c : Nat} (h : w.heap[b]? = some (.map es c)) (hK : K (.map (some w.heap.size)) (w.alloc (.map es c))) : Ca Try.prog 61 #[.map (some b)] w K := by
  apply ca61
  unfold F61
  have hcc : Try.prog.concrete 52 = true := by kernel_rfl
  simp [go_sem, Try.underlying52, hcc]
  refine ⟨?_⟩
  rw [rn_iff]
  unfold rnD
  rw [run_clone h]
  simp only [go_sem, run_assert]
  exact hK

theorem ca_sclone {w : World} {K : Kont} {s : Value} {n : Nat} {l : List (Pl × Sec)} (h : Own w 116 130 s l.length (l.flatMap cellsPut)) (hn : l.length < 549755813888) (hz : l = [] → s = .slice none 0 0)
    (hK : ∀ s' w', Own w' 116 130 s' l.length (l.flatMap cellsPut) → Mod (fun _ => False) w w' → (∀ b, inSl s' b → w.heap.size ≤ b) → (l = [] → s' = .slice none 0 0) → K s' w') : Ca Try.prog 62 #[s] w K := by
  obtain ⟨a, c, rfl, hc⟩ := h.isSl
  apply ca62
  unfold F62
  by_cases h0 : l = []
  · have := hz h0
    subst h0
    rw [this] at h ⊢
    simp [go_sem, Try.underlying53]
    exact hK _ _ h (Mod.refl _ _) (fun b hb => by cases hb) fun _ => rfl
  · have ha : a ≠ none := by
      rintro rfl
      obtain ⟨hl, ⟨he, h1⟩ | ⟨b, cap, rest, he, _⟩⟩ := h
      · exact h0 (List.length_eq_zero_iff.1 h1)
      · cases he
    obtain ⟨a, rfl⟩ := Option.ne_none_iff_exists'.1 ha
    simp [go_sem, Try.underlying53]
    refine rx_lit [] Try.underlying53 (elemT_of pE) rfl rfl (by simp) (by decide) ?_
    have hA : hp (w.alloc (.cells (([] : List Value).flatMap (·.cells.toList)).toArray 116)) w.heap.size = some (.cells #[] 116 (0, 0)) := by simp [go_sem]
    have mA : Mod (fun _ => False) w (w.alloc (.cells (([] : List Value).flatMap (·.cells.toList)).toArray 116)) := (Mod.refl _ w).alloc _
    generalize (w.alloc (.cells (([] : List Value).flatMap (·.cells.toList)).toArray 116)) = W at hA mA
    refine rx_append (n := 0) (m := l.length) (cs := []) (news := l.flatMap cellsPut) Try.underlying53 Try.underlying53 (elemT_of pE) ⟨rfl, .inr ⟨_, 0, [], rfl, Nat.le_refl _, hA, by simp, by simp⟩⟩ (h.mod mA fun _ _ h => h).rd ?_ (by omega) fun s' w' o m n => ?_
    · exact List.all_eq_true.2 fun v hv => by
        obtain ⟨p, hp, hv⟩ := List.mem_flatMap.1 hv
        exact List.all_eq_true.1 (cellsPut_one p) v hv
    have lA := mA.size
    refine hK _ _ (by simpa using o) (mA.on m fun b hb => .inr ?_) (fun b hb => ?_) fun h => absurd h h0
    · have : b = w.heap.size := by cases hb; rfl
      omega
    · rcases n b hb with h | h
      · have : b = w.heap.size := by cases h; rfl
        omega
      · omega

theorem ca_copy {w : World} {d : Nat} {F : Nat → Prop} {D : DM} {K : Kont} (h : DiskR w d F D) (hn : D.waits.length < 549755813888)
    (hK : ∀ w' d' F', DiskR w' d' F' D → Mod (fun _ => False) w w' → (∀ b, F' b → w.heap.size ≤ b) → K (dptr d') w') : Ca Try.prog 28 #[dptr d] w K := by
  obtain ⟨s, hq⟩ := h
  have hq0 := hq
  obtain ⟨⟨mb, h1, h2, h3, h4, h5, h6, h7⟩, hl, hw, hle, h8⟩ := hq
  obtain ⟨sa, sc, rfl, hsc⟩ := h3.isSl
  apply ca28
  unfold F28
  have hdl := lt_of_heap h1
  simp [go_sem, dptr, hp_of h1, olds hdl]
  generalize hW : (w.alloc (.cells #[.map mb, .slice sa D.waits.length sc, .int .i64 D.left, .bool D.armed, .bool D.off] 55)).drew = W
  have k0 : hp W w.heap.size = some (.cells #[.map mb, .slice sa D.waits.length sc, .int .i64 D.left, .bool D.armed, .bool D.off] 55 (0, 0)) := by subst hW; simp [go_sem]
  have mW : Mod (fun _ => False) w W := by subst hW; exact ((Mod.refl _ w).alloc _).drew
  clear hW
  have lW := lt_of_heap k0
  -- behind the map's copy
  have key : ∀ (mb' : Option Nat) (W2 : World), Mod (fun _ => False) W W2 → MapV encP encS W2 (.map mb') D.lasts → (∀ b, mb' = some b → W.heap.size ≤ b) →
      (∀ v16 w17, Own w17 116 130 v16 D.waits.length (D.waits.flatMap cellsPut) → Mod (fun _ => False) W2 w17 → (∀ b, inSl v16 b → W2.heap.size ≤ b) → (D.waits = [] → v16 = .slice none 0 0) →
        K (.pointer (some ⟨w.heap.size, 0, none⟩)) ((w17.setCell ⟨w.heap.size, 0, none⟩ (.map mb')).setCell ⟨w.heap.size, 1, none⟩ v16)) := by
    intro mb' W2 m2 g2 g3 v16 w17 o m n hz
    have k17 : hp w17 w.heap.size = _ := m.keep (m2.keep k0 id) id
    have mS : Mod (fun b => b = w.heap.size) w17 ((w17.setCell ⟨w.heap.size, 0, none⟩ (.map mb')).setCell ⟨w.heap.size, 1, none⟩ v16) := ((Mod.refl _ w17).setCell (by simp) _ _).setCell (by simp) _ _
    have l2 := m2.size
    refine hK _ w.heap.size (fun b => b = w.heap.size ∨ mb' = some b ∨ inSl v16 b) ⟨v16, ⟨mb', by show hp _ _ = _; simp [go_sem, k17], ?_, ?_, fun _ => Iff.rfl, ?_, ?_, ?_⟩, hl, hw, hle, hz⟩ (((mW.trans m2).trans m).on mS fun b hb => .inr (by omega)) ?_
    · rcases g2 with ⟨g2, g2'⟩ | ⟨b, g2, g2'⟩
      · exact .inl ⟨g2, g2'⟩
      · refine .inr ⟨b, g2, (g2'.mod m id).mod mS ?_⟩
        have := g3 b (by cases g2; rfl)
        show ¬ _ = _
        omega
    · exact o.mod mS fun b hb e => by have := n b hb; omega
    · intro e
      have := g3 _ e
      omega
    · intro e
      have := n _ e
      omega
    · intro b hb hb'
      have h1 := n b hb'
      rcases g2 with ⟨g2, g2'⟩ | ⟨b', g2, g2'⟩
      · cases g2; cases hb
      · have h2 := g2'.lt
        cases g2; cases hb
        omega
    · rintro b (hb | hb | hb)
      · omega
      · have := g3 _ hb; omega
      · have := n _ hb; omega
  have hd1 : ∀ W2, Mod (fun _ => False) W W2 → hp W2 d = some (.cells #[.map mb, .slice sa D.waits.length sc, .int .i64 D.left, .bool D.armed, .bool D.off] 55 (0, 0)) := fun W2 m2 => m2.keep (mW.keep h1 id) id
  have hs1 : ∀ W2, Mod (fun _ => False) W W2 → Own W2 116 130 (.slice sa D.waits.length sc) D.waits.length (D.waits.flatMap cellsPut) := fun W2 m2 => (h3.mod mW fun _ _ h => h).mod m2 fun _ _ h => h
  rcases h2 with ⟨h2, h2'⟩ | ⟨b, h2, h2'⟩
  · cases h2
    refine ca_mclone_nil ?_
    simp only [hd1 W (Mod.refl _ _)]
    refine ⟨rfl, ca_sclone (n := 0) (hs1 W (Mod.refl _ _)) hn h8 fun v16 w17 o m n hz => ?_⟩
    have k17 : hp w17 w.heap.size = _ := m.keep k0 id
    have := key none W (Mod.refl _ _) (.inl ⟨rfl, h2'⟩) (fun b hb => by cases hb) v16 w17 o m n hz
    obtain ⟨va, vc, rfl, -⟩ := o.isSl
    simp [go_sem, k17]
    exact this
  · cases h2
    obtain ⟨hn', es, clock, he, hr⟩ := h2'.mod mW id
    refine ca_mclone he ?_
    have m2 : Mod (fun _ => False) W (W.alloc (.map es clock)) := (Mod.refl _ W).alloc _
    have g2 : MapAt encP encS (W.alloc (.map es clock)) W.heap.size D.lasts := ⟨hn', es, clock, by rw [heap_alloc, if_pos rfl], hr⟩
    generalize W.alloc (.map es clock) = W2 at m2 g2
    simp only [hd1 W2 m2]
    refine ⟨rfl, ca_sclone (n := 0) (hs1 W2 m2) hn h8 fun v16 w17 o m n hz => ?_⟩
    have k17 : hp w17 w.heap.size = _ := m.keep (m2.keep k0 id) id
    have := key (some W.heap.size) W2 m2 (.inr ⟨_, rfl, g2⟩) (fun b hb => by cases hb; exact Nat.le_refl _) v16 w17 o m n hz
    obtain ⟨va, vc, rfl, -⟩ := o.isSl
    simp [go_sem, k17]
    exact this
end Go.Proofs
