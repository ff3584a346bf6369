/-
  The walk of DiskPlays.
  Conditions: the memory holds the calls.
-/
import Derived.Test.YteldcaeicgobfaaPlays4
set_option linter.unusedSimpArgs false
set_option linter.unusedVariables false
namespace Go.Proofs
open Go Go.Vc

set_option maxRecDepth 10000 in
theorem ca_plays {w : World} {K : Kont} {l : List OpM} {a0 : Value} (h : Rd w 5 a0 l.length (l.flatMap opCells)) (hok : ∀ o ∈ l, OpOk w o) (hK : ∀ w', Mod (fun _ => False) w w' → K (.bool true) w') :
    Ca Try.prog 5 #[a0] w K := by
  obtain ⟨la, lc, rfl⟩ := h.isSl
  apply ca5
  unfold F5
  refine ca_tame h hok ?_
  simp [go_sem]
  by_cases ht' : (100 : Int) < l.length ∨ (131072 : Int) < tot l
  · rw [if_pos ht']
    exact ca_known hK
  · rw [if_neg ht']
    have ht : (l.length : Int) ≤ 100 ∧ (tot l : Int) ≤ 131072 := by omega
    refine ca_new fun w1 d1 m1 => ?_
    have h2 : hp (w1.alloc (.cells #[.slice none 0 0, .slice none 0 0, .int .i64 0, .bool false, .bool false] 46)) w1.heap.size = some (.cells #[.slice none 0 0, .slice none 0 0, .int .i64 0, .bool false, .bool false] 46 (0, 0)) := by simp [go_sem]
    have m2 : Mod (fun _ => False) w1 (w1.alloc (.cells #[.slice none 0 0, .slice none 0 0, .int .i64 0, .bool false, .bool false] 46)) := (Mod.refl _ w1).alloc _
    generalize (w1.alloc (.cells #[.slice none 0 0, .slice none 0 0, .int .i64 0, .bool false, .bool false] 46)) = w2 at h2 m2
    have hd1 := d1.lt rfl
    have l1 := m1.size
    have B0 : Both w w2 w.heap.size w1.heap.size (fun b => b = w.heap.size) (fun b => b = w1.heap.size) DM.new DM.new :=
      ⟨d1.mod m2 fun _ _ h => h, ref_new h2, Sim.new, m1.trans m2, fun b hb => by omega, fun b hb => by omega, fun b hb hg => by omega⟩
    generalize w1.heap.size = r at B0
    clear h2 m2 m1 d1 hd1 l1
    unfold L5_6
    refine loopK (fun s W => ∃ (i : Nat) (x : Value) (d : Nat) (F G : Nat → Prop) (D R : DM), i ≤ l.length ∧ s = (x, dptr d, .int .i64 i, ()) ∧ Both w W d r F G D R ∧ D.waits.length ≤ tot (l.take i) ∧ R.lasts.length + R.waits.length ≤ tot (l.take i) + i)
      (fun s _ => match s.2.2.1 with | .int _ i => l.length - i.toNat | _ => 0) ⟨0, _, _, _, _, _, _, by omega, rfl, B0, by simp [DM.new], by simp [DM.new]⟩ ?_
    clear B0
    rintro ⟨_, _⟩ W ⟨i, x, d, F, G, D, R, hi, ⟨⟩, hB, hb1, hb2⟩ KN hKN _
    by_cases hlt : i < l.length
    · obtain ⟨b, off, cap, C, e, fz, hv, hC, c0, c1, c2, c3, c4⟩ := op_cells h hlt
      have ho := hok _ (List.getElem_mem hlt)
      have hC' : hp W b = some (.cells C e fz) := hB.mod.keep hC id
      have htot := tot_le l (i + 1)
      rw [tot_take l i hlt] at htot
      obtain ⟨o, hoo⟩ : ∃ o, l[i] = o := ⟨_, rfl⟩
      rw [hoo] at c0 c1 c2 c3 c4 ho htot
      obtain ⟨ba, bc, hoB⟩ := ho.rd.isSl
      rw [hoB] at c4
      rw [hv]
      simp [go_sem, hlt, hC', c0, c1, c2, c3, c4]
      have hP : hp (W.alloc (.cells #[.int .i64 o.kind, .int .i64 o.file, .int .i64 o.at_, .int .i64 o.n, .slice ba o.bs.length bc] 48)) W.heap.size = some (.cells (opCells o).toArray 48 (0, 0)) := by simp [go_sem, opCells, hoB]
      have mP : Mod (fun _ => False) W (W.alloc (.cells #[.int .i64 o.kind, .int .i64 o.file, .int .i64 o.at_, .int .i64 o.n, .slice ba o.bs.length bc] 48)) := (Mod.refl _ W).alloc _
      generalize (W.alloc (.cells #[.int .i64 o.kind, .int .i64 o.file, .int .i64 o.at_, .int .i64 o.n, .slice ba o.bs.length bc] 48)) = W1 at hP mP
      obtain ⟨p, hpp⟩ : ∃ p, W.heap.size = p := ⟨_, rfl⟩
      rw [hpp] at hP ⊢
      have lw := hB.mod.size
      have pF : ¬ F p ∧ ¬ G p := ⟨fun h => by have := hB.disk.lt h; omega, fun h => by have := hB.ref.lt h; omega⟩
      refine joinK (fun s W2 => ∃ q cap2 rest, s = (.slice (some ⟨q, 0, none⟩) o.bs.length cap2, ()) ∧ Rnd w W2 o p q cap2 rest d r F G D R) (fun JJ hJJ => ?_) ?_
      · have ld : ∀ W2, hp W2 p = some (.cells (opCells o).toArray 48 (0, 0)) → (opCells o).toArray[4]? = some (.slice ba o.bs.length bc) := fun _ _ => by simp [opCells, hoB]
        have ld := ld W1 hP
        have hsm := ho.small
        have rB : Rd W1 1 (.slice ba o.bs.length bc) o.bs.length (bv o.bs) := by
          have := ho.rd
          rw [hoB] at this
          exact (this.mod hB.mod fun _ _ h => h).mod mP fun _ _ h => h
        have sW : D.waits.length + R.lasts.length < 4398046511104 := by omega
        have plW : ∀ b, W1.heap.size ≤ b → W.heap.size ≤ b ∧ b ≠ p := fun b hb => by have := lt_of_heap hP; have := mP.size; omega
        have fin : ∀ v40 w41, Mod (fun _ => False) W1 w41 → Own w41 5 1 v40 (0 + o.bs.length + 1) (bv [] ++ bv o.bs ++ bv [77]) → (∀ b, inSl v40 b → W1.heap.size ≤ b) →
            ∃ v, (∀ w, Sem.run Try.prog (Instr.sliceAt 23 v40 none (some (.int .i64 (o.bs.length : Int))) none) w = .ok v w) ∧ JJ (v, ()) w41 := by
          intro v40 w41 m41 o41 n41
          obtain ⟨q, cap2, rest, rfl, hR⟩ := in_made hB (mP.trans m41) (m41.keep hP id) (by omega) pF o41 (fun b hb => plW b (n41 b hb)) sW
          have hc1 := hR.cap1
          have hc2 : o.bs.length ≤ cap2 := by omega
          refine ⟨.slice (some ⟨q, 0, none⟩) o.bs.length cap2, fun w => ?_, hJJ _ _ ⟨q, cap2, rest, rfl, hR⟩⟩
          simp [go_sem, hc2]
        refine ⟨lit0 fun va wa oa ma na => ?_, lit1 (u := 77) fun vb wb ob mb nb => ?_⟩
        · have ma : Mod (fun _ => False) W1 wa := ((Mod.refl _ W1).drew).trans ma
          have pa : hp wa p = some (.cells (opCells o).toArray 48 (0, 0)) := ma.keep hP id
          refine ⟨by simp only [pa, ld], ?_, ?_⟩
          · refine rx_append Try.underlying23 Try.underlying23 (elemT_of uT1) oa (rB.mod ma fun _ _ h => h) (bv_one _) (by omega) fun vc wc oc mc nc => ?_
            have nc' : ∀ b, inSl vc b → W1.heap.size ≤ b := fun b hb => by
              rcases nc b hb with h | h
              · exact na b h
              · have := ma.size; omega
            have mc' : Mod (fun _ => False) W1 wc := ma.on mc fun b hb => .inr (na b hb)
            have pc : hp wc p = some (.cells (opCells o).toArray 48 (0, 0)) := mc'.keep hP id
            refine ⟨by simp only [pc, ld], ?_⟩
            refine lit1 (u := 77) fun vd wd od md nd => ?_
            have pd : hp wd p = some (.cells (opCells o).toArray 48 (0, 0)) := md.keep pc id
            refine ⟨by simp only [pd, ld], ?_⟩
            refine rx_append Try.underlying23 Try.underlying23 (elemT_of uT1) (oc.mod md fun _ _ h => h) od.rd (bv_one _) (by omega) fun ve we oe me ne => ?_
            have me' : Mod (fun _ => False) W1 we := (mc'.trans md).on me fun b hb => .inr (nc' b hb)
            have pe : hp we p = some (.cells (opCells o).toArray 48 (0, 0)) := me'.keep hP id
            refine ⟨by simp only [pe, ld], ?_⟩
            exact fin ve we me' oe fun b hb => by
              rcases ne b hb with h | h
              · exact nc' b h
              · have := (mc'.trans md).size; omega
          · refine lit1 (u := 77) fun vd wd od md nd => ?_
            have md' : Mod (fun _ => False) W1 wd := ma.trans md
            have pd : hp wd p = some (.cells (opCells o).toArray 48 (0, 0)) := md'.keep hP id
            refine ⟨by simp only [pd, ld], ?_⟩
            refine rx_append Try.underlying23 Try.underlying23 (elemT_of uT1) (oa.mod md fun _ _ h => h) (rB.mod md' fun _ _ h => h) (bv_one _) (by omega) fun vc wc oc mc nc => ?_
            have ladd := ma.size
            have ladd' := md'.size
            have nc' : ∀ b, inSl vc b → W1.heap.size ≤ b := fun b hb => by
              rcases nc b hb with h | h
              · exact na b h
              · omega
            have mc' : Mod (fun _ => False) W1 wc := md'.on mc fun b hb => .inr (na b hb)
            have pc : hp wc p = some (.cells (opCells o).toArray 48 (0, 0)) := mc'.keep hP id
            refine ⟨by simp only [pc, ld], ?_⟩
            have hdis : ∀ b, inSl vd b → ¬ inSl va b := fun b h1 h2 => by
              have := oa.lt h2; have := nd b h1; omega
            refine rx_append Try.underlying23 Try.underlying23 (elemT_of uT1) oc (od.mod mc hdis).rd (bv_one _) (by omega) fun ve we oe me ne => ?_
            have me' : Mod (fun _ => False) W1 we := mc'.on me fun b hb => .inr (nc' b hb)
            have pe : hp we p = some (.cells (opCells o).toArray 48 (0, 0)) := me'.keep hP id
            refine ⟨by simp only [pe, ld], ?_⟩
            exact fin ve we me' oe fun b hb => by
              rcases ne b hb with h | h
              · exact nc' b h
              · have := mc'.size; omega
        · have mb : Mod (fun _ => False) W1 wb := ((Mod.refl _ W1).drew).trans mb
          have pb : hp wb p = some (.cells (opCells o).toArray 48 (0, 0)) := mb.keep hP id
          refine ⟨by simp only [pb, ld], ?_⟩
          refine lit0 fun va wa oa ma na => ?_
          have ma' : Mod (fun _ => False) W1 wa := mb.trans ma
          have pa : hp wa p = some (.cells (opCells o).toArray 48 (0, 0)) := ma'.keep hP id
          refine ⟨by simp only [pa, ld], ?_⟩
          refine rx_append Try.underlying23 Try.underlying23 (elemT_of uT1) oa (rB.mod ma' fun _ _ h => h) (bv_one _) (by omega) fun vc wc oc mc nc => ?_
          have lb := mb.size
          have la := ma'.size
          have nc' : ∀ b, inSl vc b → W1.heap.size ≤ b := fun b hb => by
            rcases nc b hb with h | h
            · have := na b h; omega
            · omega
          have mc' : Mod (fun _ => False) W1 wc := ma'.on mc fun b hb => .inr (by have := na b hb; omega)
          have pc : hp wc p = some (.cells (opCells o).toArray 48 (0, 0)) := mc'.keep hP id
          refine ⟨by simp only [pc, ld], ?_⟩
          have hdis : ∀ b, inSl vb b → ¬ inSl va b := fun b h1 h2 => by
            have := na b h2; have := ob.lt h1; omega
          refine rx_append Try.underlying23 Try.underlying23 (elemT_of uT1) oc ((ob.mod ma fun _ _ h => h).mod mc hdis).rd (bv_one _) (by omega) fun ve we oe me ne => ?_
          have me' : Mod (fun _ => False) W1 we := mc'.on me fun b hb => .inr (nc' b hb)
          have pe : hp we p = some (.cells (opCells o).toArray 48 (0, 0)) := me'.keep hP id
          refine ⟨by simp only [pe, ld], ?_⟩
          exact fin ve we me' oe fun b hb => by
            rcases ne b hb with h | h
            · exact nc' b h
            · have := mc'.size; omega
      rintro _ W2 ⟨q, cap2, rest, rfl, hR⟩
      clear hP mP hpp pF lw
      refine plays_round (i := i) (T := tot (l.take i)) hR ho hb1 hb2 (by omega) (by omega) fun W' d' F' G' D' R' hB' h1 h2 => hKN _ _ ⟨i + 1, _, d', F', G', D', R', hlt, rfl, hB', ?_, ?_⟩ (by simp; omega)
      · rw [tot_take l i hlt, hoo]; exact h1
      · rw [tot_take l i hlt, hoo]; exact h2
    · have hil : i = l.length := by omega
      subst hil
      simp [go_sem]
      exact ca_known fun w' m' => hK _ (hB.mod.trans m')
end Go.Proofs
