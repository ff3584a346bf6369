/-
  The rounds of ShotsPlays: a crash; a save; the power armed.
  Conditions: where they ask for any, each theorem names them.
-/
import Derived.Test.YteldcaeicgobfaaShotR
set_option linter.unusedVariables false
set_option linter.unusedSimpArgs false
namespace Go.Proofs
open Go Go.Vc

set_option maxRecDepth 10000 in
theorem sround_crash {w W : World} {d q1 q2 p k : Nat} {F : Nat → Prop} {D : DM} {x x2 : ShotM} {y : Option ShotM} {sl1 sl2 : Value} {o : SOp} {K : Kont} {J35 : Value × Value × Value × Unit → World → Prop} {s26 : Value × Value × Value × Value × Unit}
    (hS : SSt w W d q1 q2 F D k x y x2 sl1 sl2) (hP : hp W p = some (.cells (sopCells o).toArray 98 (0, 0))) (pF : ¬ F p) (ho : SOpOk w o) (hk : o.kind = 2) (hn0 : 0 ≤ o.n) (ht : triedB o.ts = true)
    (hJ : ∀ W' v' off', SGood w W' d q1 q2 v' off' → J35 (.bool off', v', s26.1, ()) W') :
    J11_3 J35 s26 (.pointer (some ⟨p, 0, none⟩)) (dptr d) K (.pointer (some ⟨q1, 0, none⟩)) (.pointer (some ⟨q2, 0, none⟩)) (.bool false, ()) W := by
  obtain ⟨sa, sc, hoS⟩ := ho.sl.isSl
  obtain ⟨ba, bc, hoB⟩ := ho.rd.isSl
  obtain ⟨ma, mc, hoM⟩ := ho.more.isSl
  obtain ⟨f0, f1, f2, f3, f4, hld⟩ := sop_ld (p := p) (o := o) ⟨_, _, _, hoS⟩ ⟨_, _, _, hoB⟩ ⟨_, _, _, hoM⟩
  unfold J11_3
  intro _
  rw [ifB_bool, if_neg (by simp)]
  refine rv_of (f0 W) ?_
  refine rv_of (hld W hP).1 ?_
  refine rv_of (v := .bool true) (w' := W) (by simp [go_sem, hk]) ?_
  rw [ifB_bool, if_pos rfl]
  refine joinK (fun s W2 => s = (.bool false, ()) ∧ ∃ F2 D2, SSt w W2 d q1 q2 F2 D2 k x y x2 sl1 sl2 ∧ SPend D2 fs42 k x y ∧ D2.armed = false) (fun JJ hJJ => ?_) ?_
  · obtain ⟨-, l1, -, -, -, l5, -⟩ := hld W hP
    refine rv_of (f1 W) ?_
    refine rv_of l1 ?_
    refine rv_of (f3 W) ?_
    refine rv_of l5 ?_
    have hk64 := ho.n
    obtain ⟨kp, hkp⟩ : ∃ kp : Nat, o.n = (kp : Int) := ⟨o.n.toNat, by omega⟩
    rw [hkp] at hk64 ⊢
    have hfew := hS.few
    refine ca_crash (keep := kp) (torn := o.bs) hS.disk (by omega) (by have := hk64.2; omega) (ho.rd.mod hS.mod fun _ _ h => h) (fun b' hb' => ?_) fun W2 F2 d2 s2 => ?_
    · have := ho.rd.lt hb'
      exact ⟨fun h => by have := hS.new b' h; omega, by have := hS.mod.size; omega⟩
    have pe := hS.pend kp o.bs
    have S2 : SSt w W2 d q1 q2 F2 (D.crash kp o.bs) k x y x2 sl1 sl2 := hS.step d2 s2 (by simp [DM.crash]) fun keep torn => pe.crash keep torn
    have hP2 := s2.mod.keep hP pF
    obtain ⟨-, -, -, -, -, -, l6⟩ := hld W2 hP2
    refine rv_of (v := .bool false) (w' := W2) (by simp [go_sem]) ?_
    rw [ifB_bool, if_neg (by simp)]
    refine rv_of (f4 W2) ?_
    refine rv_of l6 ?_
    refine ca_broken21 (w0 := w) d2 pe rfl ho.more ho.tries ht S2.mod S2.new fun W3 F3 D3 d3 p3 a3 s3 => ?_
    refine rv_of (v := .bool false) (w' := W3) (by simp [go_sem]) ?_
    exact hJJ _ _ ⟨rfl, F3, D3, S2.step d3 s3 (by rw [p3.waits]; simp) (fun keep torn => p3.crash keep torn), p3, a3⟩
  rintro _ W2 ⟨rfl, F2, D2, S2, p2, a2⟩
  unfold J11_1
  intro _
  rw [ifB_bool, if_neg (by simp)]
  obtain ⟨o1, o2, o3, o4⟩ := open_law S2.disk.len fs42_ne fs42_ok p2
  have h0 := o3 a2
  obtain ⟨-, hid, hmn⟩ := o1.resolve_right fun h => by rw [h0] at h; exact absurd h.1 (by decide)
  refine ca_sopen (fs := fs42) S2.disk (by rw [p2.waits]; decide) (fun W3 F3 he _ _ => absurd h0 he) fun W3 F3 v G R he d3 s3 hv nG => ?_
  generalize (D2.sopen fs42).2 = X at d3 hv o2 o4 hid hmn
  obtain ⟨D3, z, k3, cl3, ms⟩ := X
  simp only at d3 hv o2 o4 hid hmn
  have S3 : SSt w W3 d q1 q2 F3 D3 k x y x2 sl1 sl2 := S2.step d3 s3 (by omega) o2
  obtain ⟨zl, z0⟩ := spend_shot d3.len hid
  have gW : ∀ u, G u ∨ R u → W2.heap.size ≤ u := fun u hu => (nG u hu).1
  have w2 := S2.mod.size
  have q1l := lt_of_heap S2.sure.at_
  have q2l := lt_of_heap S2.may.at_
  refine rv_of (v := dptr v) (w' := W3) (by simp [go_sem]) ?_
  refine rv_of (v := .int .i64 0) (w' := W3) (by simp [go_sem]) ?_
  -- what is read, in a variable
  have key : ∀ (W4 : World) (a : Option Addr) (n c : Nat) (e : Int), Mod (fun _ => False) W3 W4 → ShR W4 z (.slice a n c) → (∀ u, inRd (.slice a n c) u → W3.heap.size ≤ u) → ((z.idx = 0 ∧ e = 7) ∨ (z.idx ≠ 0 ∧ e = 0)) →
      rv Try.prog (Instr.extract (.tuple #[.agg (shotC z (.slice a n c)).toArray, .int .i64 e]) 0) W4 fun v115 w116 =>
      rv Try.prog (Instr.extract (.tuple #[.agg (shotC z (.slice a n c)).toArray, .int .i64 e]) 1) w116 fun v117 w118 =>
      rv Try.prog (Instr.alloc 83 true (.tuple #[])) w118 fun v119 w120 =>
      ru Try.prog (Instr.storeAt 83 v119 v115) w120 fun w121 =>
      JoinW (S := Value × Unit) (fun J124 =>
      rv Try.prog (bin .neq 28 true (.int .i64 0) (.int .i64 0)) w121 fun v125 w126 =>
      ifB v125
      (J124 ((.bool true), ()) w126)
      (rv Try.prog (bin .neq 28 true v117 (.int .i64 0)) w126 fun v127 w128 =>
      ifB v127
      (rv Try.prog (bin .neq 28 true v117 (.int .i64 7)) w128 fun v129 w130 =>
      ifB v129
      (J124 ((.bool true), ()) w130)
      (rv Try.prog (bin .eql 28 true v117 (.int .i64 7)) w130 fun v131 w132 =>
      rv Try.prog (Instr.fieldAt 83 v119 0) w132 fun v133 w134 =>
      rv Try.prog (Instr.loadAt 27 v133) w134 fun v135 w136 =>
      rv Try.prog (bin .eql 27 true v135 (.int .u64 0)) w136 fun v137 w138 =>
      rv Try.prog (bin .neq 4 false v131 v137) w138 fun v139 w140 =>
      ifB v139
      (J124 ((.bool true), ()) w140)
      (rv Try.prog (Instr.loadAt 83 v119) w140 fun v141 w142 =>
      rv Try.prog (Instr.loadAt 83 (.pointer (some ⟨q1, 0, none⟩))) w142 fun v143 w144 =>
      Ca Try.prog 47 #[v141, v143] w144 fun v145 w146 =>
      rv Try.prog (Op.unary .not v145) w146 fun v147 w148 =>
      ifB v147
      (rv Try.prog (Instr.loadAt 83 v119) w148 fun v149 w150 =>
      rv Try.prog (Instr.loadAt 83 (.pointer (some ⟨q2, 0, none⟩))) w150 fun v151 w152 =>
      Ca Try.prog 47 #[v149, v151] w152 fun v153 w154 =>
      rv Try.prog (Op.unary .not v153) w154 fun v155 w156 =>
      J124 (v155, ()) w156)
      (J124 ((.bool false), ()) w148))))
      (rv Try.prog (bin .eql 28 true v117 (.int .i64 7)) w128 fun v157 w158 =>
      rv Try.prog (Instr.fieldAt 83 v119 0) w158 fun v159 w160 =>
      rv Try.prog (Instr.loadAt 27 v159) w160 fun v161 w162 =>
      rv Try.prog (bin .eql 27 true v161 (.int .u64 0)) w162 fun v163 w164 =>
      rv Try.prog (bin .neq 4 false v157 v163) w164 fun v165 w166 =>
      ifB v165
      (J124 ((.bool true), ()) w166)
      (rv Try.prog (Instr.loadAt 83 v119) w166 fun v167 w168 =>
      rv Try.prog (Instr.loadAt 83 (.pointer (some ⟨q1, 0, none⟩))) w168 fun v169 w170 =>
      Ca Try.prog 47 #[v167, v169] w170 fun v171 w172 =>
      rv Try.prog (Op.unary .not v171) w172 fun v173 w174 =>
      ifB v173
      (rv Try.prog (Instr.loadAt 83 v119) w174 fun v175 w176 =>
      rv Try.prog (Instr.loadAt 83 (.pointer (some ⟨q2, 0, none⟩))) w176 fun v177 w178 =>
      Ca Try.prog 47 #[v175, v177] w178 fun v179 w180 =>
      rv Try.prog (Op.unary .not v179) w180 fun v181 w182 =>
      J124 (v181, ()) w182)
      (J124 ((.bool false), ()) w174)))))
      (J11_0 K v119 (.pointer (some ⟨q1, 0, none⟩)) (.pointer (some ⟨q2, 0, none⟩)) J35 (dptr v) s26) := by
    intro W4 a n c e m4 hr4 fr hze
    refine rv_of (v := .agg (shotC z (.slice a n c)).toArray) (w' := W4) (by simp [go_sem]) ?_
    refine rv_of (v := .int .i64 e) (w' := W4) (by simp [go_sem]) ?_
    refine rv_shvar fun W5 q m5 hq5 hp5 z5 => ?_
    refine ru_shot hp5 ⟨_, _, _, rfl⟩ fun W6 m6 hp6 => ?_
    have m46 : Mod (fun _ => False) W4 W6 := m5.on m6 fun b hb => .inr (by omega)
    have m36 := m4.trans m46
    have S6 := S3.mod0 m36
    have r6 : ShR W6 z (.slice a n c) := hr4.mod m46 fun _ _ h => h
    refine joinK (fun s W7 => s = (.bool false, ()) ∧ Mod (fun _ => False) W6 W7) (fun JJ hJJ => ?_) ?_
    · obtain ⟨g0, -⟩ := sfield (q := q) (o := 0)
      have li := (sload hp6).1
      refine rv_of (v := .bool false) (w' := W6) (by simp [go_sem]) ?_
      rw [ifB_bool, if_neg (by simp)]
      rcases hze with ⟨hz, rfl⟩ | ⟨hz, rfl⟩
      · refine rv_of (v := .bool true) (w' := W6) (by simp [go_sem]) ?_
        rw [ifB_bool, if_pos rfl]
        refine rv_of (v := .bool false) (w' := W6) (by simp [go_sem]) ?_
        rw [ifB_bool, if_neg (by simp)]
        refine rv_of (v := .bool true) (w' := W6) (by simp [go_sem]) ?_
        refine rv_of (g0 _) ?_
        refine rv_of li ?_
        refine rv_of (v := .bool true) (w' := W6) (by simp [go_sem, hz]) ?_
        refine rv_of (v := .bool false) (w' := W6) (by simp [go_sem]) ?_
        rw [ifB_bool, if_neg (by simp)]
        exact same_two S6 hp6 r6 hmn fun W7 m7 => hJJ _ _ ⟨rfl, m7⟩
      · refine rv_of (v := .bool false) (w' := W6) (by simp [go_sem]) ?_
        rw [ifB_bool, if_neg (by simp)]
        refine rv_of (v := .bool false) (w' := W6) (by simp [go_sem]) ?_
        refine rv_of (g0 _) ?_
        refine rv_of li ?_
        refine rv_of (v := .bool false) (w' := W6) (by have : ¬ ((z.idx : Int) = 0) := by omega
                                                       simp [go_sem, hz]) ?_
        refine rv_of (v := .bool false) (w' := W6) (by simp [go_sem]) ?_
        rw [ifB_bool, if_neg (by simp)]
        exact same_two S6 hp6 r6 hmn fun W7 m7 => hJJ _ _ ⟨rfl, m7⟩
    rintro _ W7 ⟨rfl, m7⟩
    have S7 := S6.mod0 m7
    have hp7 := m7.keep hp6 id
    have r7 : ShR W7 z (.slice a n c) := r6.mod m7 fun _ _ h => h
    have hv7 := hv.mod (m36.trans m7) fun _ _ h => h
    unfold J11_0
    intro _
    rw [ifB_bool, if_neg (by simp)]
    refine rv_of (sload hp7).2.2.2 ?_
    refine ru_shot S7.sure.at_ ⟨_, _, _, rfl⟩ fun W8 m8 h8 => ?_
    have qq1 : q ≠ q1 := by have := m4.size; have := s3.mod.size; omega
    have qq2 : q ≠ q2 := by have := m4.size; have := s3.mod.size; omega
    refine rv_of (sload (m8.keep hp7 qq1)).2.2.2 ?_
    refine ru_shot (m8.keep S7.may.at_ fun e => S7.q12 e.symm) ⟨_, _, _, rfl⟩ fun W9 m9 h9 => ?_
    have m79 : Mod (fun b => b = q1 ∨ b = q2) W7 W9 := (m8.mono fun b _ h => .inl h).trans (m9.mono fun b _ h => .inr h)
    have fr2 : ∀ u, inRd (.slice a n c) u → u ≠ q1 ∧ u ≠ q2 := fun u hu => by have := fr u hu; have := s3.mod.size; omega
    have nF9 : ∀ u, inRd (.slice a n c) u → ¬ F3 u := fun u hu h => by have := fr u hu; have := d3.lt h; omega
    have r9 : ShR W9 z (.slice a n c) := r7.mod m79 fun u hu h => by
      obtain ⟨h1, h2⟩ := fr2 u hu
      rcases h with h | h
      · exact h1 h
      · exact h2 h
    have GR2 : ∀ u, G u ∨ R u → u ≠ q1 ∧ u ≠ q2 := fun u hu => by have := gW u hu; omega
    refine hJ W9 (dptr v) false ⟨F3, D3, k3, z, none, z, .slice a n c, .slice a n c, ⟨S7.disk.mod m79 fun b hb h => ?_, S7.mod.on m79 fun b h => .inr ?_, S7.new, S7.q1F, S7.q2F, S7.q12, S7.q1n, S7.q2n, ⟨m9.keep h8 S7.q12, r9, nF9, fr2⟩, ⟨h9, r9, nF9, fr2⟩, .inl ⟨rfl, rfl⟩, by omega, fun keep torn => hid.crash d3.len keep torn⟩, fun _ => ⟨rfl, v, ms, G, R, rfl, hid, hv7.mod m79 fun u hu h => ?_, fun u hu => (nG u hu).2, fun u hu => ?_, GR2, fun u hu => ?_⟩⟩
    · rcases h with rfl | rfl
      · exact S7.q1F hb
      · exact S7.q2F hb
    · rcases h with rfl | rfl
      · exact S7.q1n
      · exact S7.q2n
    · obtain ⟨h1, h2⟩ := GR2 u hu
      rcases h with h | h
      · exact h1 h
      · exact h2 h
    · have := gW u (.inl hu); omega
    · have hlt := hv.lt (.inl hu)
      have : ¬ inRd (.slice a n c) u := fun h => by have := fr u h; omega
      exact ⟨this, this⟩
  refine ca_slast hv (by omega) (fun hz W4 m4 => ?_) fun hz W4 sl' ow m4 fr => ?_
  · have zz := z0 hz
    subst zz
    exact key W4 none 0 0 7 m4 ⟨by simp [shot0], .inl ⟨rfl, _, _, rfl⟩⟩ (fun u hu => by obtain ⟨_, _, _, e, _⟩ := hu; cases e) (.inl ⟨rfl, rfl⟩)
  · obtain ⟨a, c, rfl, -⟩ := ow.isSl
    exact key W4 a _ c 0 m4 ow.rd (fun u hu => fr u hu.sl) (.inr ⟨hz, rfl⟩)
end Go.Proofs
