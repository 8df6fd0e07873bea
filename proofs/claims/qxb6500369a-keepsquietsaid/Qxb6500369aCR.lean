/-
  The real ring's machines: learn, stepCR.
-/
import Derived.Test.Qxb6500369aMach
import Derived.Deep.DeepCutAuto
namespace Go.Proofs.Qxb6500369a
open Go.RowKit Go.Qx
set_option linter.unusedSimpArgs false
set_option linter.unusedVariables false

set_option maxRecDepth 100000 in
set_option maxHeartbeats 2000000 in
theorem learn_any (w : World) (a : Nat) (ns : List N5) (i : Nat) (sp : List Value) (c : N5) (hi : ns[i]? = some c) (hb : Blk w a 80 (flat rc ns ++ sp)) (hf : Flags c) (m : Ms) :
    Calls Try.prog 52 #[.pointer (some ⟨a, i * 4, none⟩), msV m] w (machPost w a ns i sp (learnP c m)) := by
  have hbx := boxed w m
  have hal := hb.lt
  unfold msV
  go_enter Try.func52, Try.ntmps52
  go_wp2
  generalize (w.alloc (.cells #[.int .i64 m.k, .int .i64 m.id, .int .i64 m.hop] 55)).alloc (.cells #[.int .i64 0, .int .i64 0, .int .i64 0, .int .i64 0, .int .i64 0, .int .i64 0] 57) = V at *
  have hbV := hbx.q.blk hb
  obtain ⟨c0, c1, c2, c3⟩ := cellR_of hbV hi
  have m1 := hbx.m.cell 1
  simp [msC] at m1
  have fa2 := hf.a2
  have r0 := hbx.r.cell 0
  have r1 := hbx.r.cell 1
  have r2 := hbx.r.cell 2
  have r3 := hbx.r.cell 3
  have r4 := hbx.r.cell 4
  have r5 := hbx.r.cell 5
  simp at r0 r1 r2 r3 r4 r5
  have g0 := hbx.r.frozen 0
  have g1 := hbx.r.frozen 1
  have g2 := hbx.r.frozen 2
  have g3 := hbx.r.frozen 3
  have g4 := hbx.r.frozen 4
  have g5 := hbx.r.frozen 5
  have nR : w.heap.size + 1 ≠ a := by omega
  have nRa := Ne.symm nR
  have nM : w.heap.size ≠ a := by omega
  have none_fin : Hid (∀ n, learnP c m = (c, o0) → Blk (six (V.drewN n) (w.heap.size + 1) o0) (w.heap.size + 1) 57 (ouC o0) ∧ machPost w a ns i sp (learnP c m) (.returned (ouV o0)) (six (V.drewN n) (w.heap.size + 1) o0)) := by
    intro n e
    obtain ⟨z1, z2, z3⟩ := mach_fin hbx hal ((Chg.refl _ V).drewN n) (hbV.drewN n) o0
    refine ⟨z1, ?_, z2, ?_⟩
    · rw [e]
    · rw [e, set_same hi]; exact z3
  have hbxM := hbx.m
  have hbxH := hide hbx
  have hiH := hide hi
  clear hbx hi hb
  have m0c := hbxM.cell 0
  have m2c := hbxM.cell 2
  simp [msC] at m0c m2c
  by_cases h1 : m.id = c.id
  · have b1 : (m.id == c.id) = true := by simpa using h1
    have e : Hid (learnP c m = (c, o0)) := by show _ = _; simp [learnP, h1]
    clear fa2 h1
    go_big_quiet (fail)
    go_wp2
    exact bodyPost_ret (results_blk (u := 57) (cs := ouC o0) Try.results52 rfl Try.isAgg57 Try.sizeOf57 (unhide none_fin nq (unhide e)).1) rfl (unhide none_fin nq (unhide e)).2
  · have b1 : (m.id == c.id) = false := by simpa using h1
    have e : Hid (learnP c m = ({ c with lead := m.id, st := 1 }, ⟨m, m0⟩)) := by show _ = _; simp [learnP, h1]
    have fa4 := hf.a4
    have fo1 := hf.o1
    have f1 := hbV.frozen (i * 4 + 1)
    have f3 := hbV.frozen (i * 4 + 3)
    have nMa := Ne.symm nM
    clear fa2 h1
    go_big_quiet (fail)
    go_wp2
    go_region_law (fail)
    all_goals
      obtain ⟨q1, q2, q3⟩ := setN (hbV.drewN (nq + 1)) (unhide hiH) 1 (by omega) (.int .i64 m.id) { c with lead := m.id } rfl
      obtain ⟨q4, q5, q6⟩ := setN q1 q2 3 (by omega) (.int .u8 (1 + 4 * c.got)) { c with lead := m.id, st := 1 } rfl
      rw [List.set_set] at q4
      have hch := (((Chg.refl (fun k => k = a) V).drewN (nq + 1)).trans q3).trans q6
      obtain ⟨z1, z2, z3⟩ := mach_fin (unhide hbxH) hal hch q4 ⟨m, m0⟩
      have zH := hide (And.intro z1 (And.intro z2 z3))
      clear q1 q2 q3 q4 q5 q6 hch z1 z2 z3 hbV
      go_wp2
      refine bodyPost_ret (results_blk (u := 57) (cs := ouC ⟨m, m0⟩) Try.results52 rfl Try.isAgg57 Try.sizeOf57 (unhide zH).1) rfl ?_
      rw [unhide e]
      exact ⟨rfl, (unhide zH).2.1, (unhide zH).2.2⟩

/-- What a callee at cell i leaves, laid as the caller's own result. -/
theorem mach_pass {w V Vc : World} {m : Ms} {a : Nat} {ns : List N5} {i : Nat} {sp : List Value} {R : N5 × Ou} (hbx : Boxed w V m) (hal : a < w.heap.size) (hc : Chg (fun k => k = a) V Vc) (hb : Blk Vc a 80 (flat rc (ns.set i R.1) ++ sp)) :
    Blk (six Vc (w.heap.size + 1) R.2) (w.heap.size + 1) 57 (ouC R.2) ∧ machPost w a ns i sp R (.returned (ouV R.2)) (six Vc (w.heap.size + 1) R.2) := by
  obtain ⟨z1, z2, z3⟩ := mach_fin hbx hal hc hb R.2
  exact ⟨z1, rfl, z2, z3⟩

set_option maxRecDepth 100000 in
set_option maxHeartbeats 2000000 in
theorem stepCR_any (w : World) (a : Nat) (ns : List N5) (i : Nat) (sp : List Value) (c : N5) (hi : ns[i]? = some c) (hb : Blk w a 80 (flat rc ns ++ sp)) (hf : Flags c) (m : Ms) :
    Calls Try.prog 39 #[.pointer (some ⟨a, i * 4, none⟩), msV m] w (machPost w a ns i sp (crP c m)) := by
  have hbx := boxed w m
  have hal := hb.lt
  unfold msV
  obtain ⟨mk, mi, mh⟩ := m
  simp only at hbx ⊢
  go_enter Try.func39, Try.ntmps39
  go_upto_region 1 with fail
  generalize (w.alloc (.cells #[.int .i64 mk, .int .i64 mi, .int .i64 mh] 55)).alloc (.cells #[.int .i64 0, .int .i64 0, .int .i64 0, .int .i64 0, .int .i64 0, .int .i64 0] 57) = V at *
  have hbV := hbx.q.blk hb
  have hcw := fun n => crown_any (V.drewN n) a ns i sp c hi (hbV.drewN n) hf ⟨mk, mi, mh⟩
  have hle := learn_any V a ns i sp c hi hbV hf ⟨mk, mi, mh⟩
  unfold msV at hcw hle
  simp only at hcw hle
  obtain ⟨c0, c1, c2, c3⟩ := cellR_of hbV hi
  have f2 := hbV.frozen (i * 4 + 2)
  have m0c := hbx.m.cell 0
  have m1 := hbx.m.cell 1
  have m2 := hbx.m.cell 2
  simp [msC] at m0c m1 m2
  have r0 := hbx.r.cell 0
  have r1 := hbx.r.cell 1
  have r2 := hbx.r.cell 2
  have r3 := hbx.r.cell 3
  have r4 := hbx.r.cell 4
  have r5 := hbx.r.cell 5
  simp at r0 r1 r2 r3 r4 r5
  have g0 := hbx.r.frozen 0
  have g1 := hbx.r.frozen 1
  have g2 := hbx.r.frozen 2
  have g3 := hbx.r.frozen 3
  have g4 := hbx.r.frozen 4
  have g5 := hbx.r.frozen 5
  have nR : w.heap.size + 1 ≠ a := by omega
  have nRa := Ne.symm nR
  have nM : w.heap.size ≠ a := by omega
  have same : Hid (∀ n o, crP c ⟨mk, mi, mh⟩ = (c, o) → Blk (six (V.drewN n) (w.heap.size + 1) o) (w.heap.size + 1) 57 (ouC o) ∧ machPost w a ns i sp (crP c ⟨mk, mi, mh⟩) (.returned (ouV o)) (six (V.drewN n) (w.heap.size + 1) o)) := by
    intro n o e
    have := mach_pass (R := (c, o)) (ns := ns) (i := i) (sp := sp) hbx hal ((Chg.refl _ V).drewN n) (by rw [set_same hi]; exact hbV.drewN n)
    rw [e]; exact this
  have pass : Hid (∀ n R Vc, crP c ⟨mk, mi, mh⟩ = R → Chg (fun k => k = a) (V.drewN n) Vc → Blk Vc a 80 (flat rc (ns.set i R.1) ++ sp) → Blk (six Vc (w.heap.size + 1) R.2) (w.heap.size + 1) 57 (ouC R.2) ∧ machPost w a ns i sp (crP c ⟨mk, mi, mh⟩) (.returned (ouV R.2)) (six Vc (w.heap.size + 1) R.2)) := by
    intro n R Vc e h1 h2
    rw [e]
    exact mach_pass hbx hal (Chg.trans ((Chg.refl _ V).drewN n) h1) h2
  have late : Hid (∀ n Vc, Chg (fun k => k = a) (V.drewN n) Vc → Blk Vc (w.heap.size + 1) 57 [.int .i64 0, .int .i64 0, .int .i64 0, .int .i64 0, .int .i64 0, .int .i64 0]) := by
    intro n Vc h
    exact h.blk (hbx.r.drewN n) nR
  have hbxH := hide hbx
  have hiH := hide hi
  clear hbx hi hb
  by_cases e4 : mk = 4
  · subst e4
    by_cases er : c.reach = 0
    · have e : Hid (crP c ⟨4, mi, mh⟩ = ({ c with reach := 1 }, ⟨⟨1, c.id, 1⟩, m0⟩)) := by show _ = _; simp [crP, er]
      have b1 : (c.reach == 0) = true := by simpa using er
      obtain ⟨q1, q2, q3⟩ := setN hbV (unhide hiH) 2 (by omega) (.int .i64 1) { c with reach := 1 } rfl
      have zH := unhide pass 0 _ _ (unhide e) q3 q1
      have zHH := hide zH
      clear er q1 q2 q3 zH hcw hle hbV
      go_wp2
      exact bodyPost_ret (results_blk (u := 57) (cs := ouC ⟨⟨1, c.id, 1⟩, m0⟩) Try.results39 rfl Try.isAgg57 Try.sizeOf57 (unhide zHH).1) rfl (unhide zHH).2
    · have e : Hid (crP c ⟨4, mi, mh⟩ = (c, o0)) := by show _ = _; simp [crP, er]
      have b1 : (c.reach == 0) = false := by simpa using er
      clear er hcw hle hbV
      go_wp2
      exact bodyPost_ret (results_blk (u := 57) (cs := ouC o0) Try.results39 rfl Try.isAgg57 Try.sizeOf57 (unhide same 0 o0 (unhide e)).1) rfl (unhide same 0 o0 (unhide e)).2
  have k4 : (mk == 4) = false := by simpa using e4
  by_cases e1 : mk = 1
  · subst e1
    by_cases hlt : c.id < mi
    · have e : Hid (crP c ⟨1, mi, mh⟩ = (c, ⟨⟨1, mi, mh⟩, m0⟩)) := by show _ = _; simp [crP, hlt]
      have d1 : decide (c.id < mi) = true := by simpa using hlt
      clear hcw hle hbV e4
      go_wp2
      go_big_quiet (fail)
      go_wp2
      exact bodyPost_ret (results_blk (u := 57) (cs := ouC ⟨⟨1, mi, mh⟩, m0⟩) Try.results39 rfl Try.isAgg57 Try.sizeOf57 (unhide same nq _ (unhide e)).1) rfl (unhide same nq _ (unhide e)).2
    · have e : Hid (crP c ⟨1, mi, mh⟩ = crownP c ⟨1, mi, mh⟩) := by show _ = _; simp [crP, hlt]
      have d1 : decide (c.id < mi) = false := by simpa using hlt
      have d2 : mi ≤ c.id := by omega
      clear hle hbV e4 hlt
      go_wp2
      go_big_quiet (fail)
      go_wp2_with fail
      refine (hcw nq).mono ?_
      rintro e2 Vc ⟨rfl, hc2, hb2⟩
      have zHH := hide (unhide pass nq _ _ (unhide e) hc2 hb2)
      have br := unhide late nq _ hc2
      clear r0 r1 r2 r3 r4 r5 g0 g1 g2 g3 g4 g5 hc2 hb2 hcw m0c m1 m2 c0 c1 c2 c3 f2
      have r0 := br.cell 0
      have r1 := br.cell 1
      have r2 := br.cell 2
      have r3 := br.cell 3
      have r4 := br.cell 4
      have r5 := br.cell 5
      simp at r0 r1 r2 r3 r4 r5
      have g0 := br.frozen 0
      have g1 := br.frozen 1
      have g2 := br.frozen 2
      have g3 := br.frozen 3
      have g4 := br.frozen 4
      have g5 := br.frozen 5
      generalize crownP c ⟨1, mi, mh⟩ = R at *
      unfold ouV
      go_wp2
      exact bodyPost_ret (results_blk (u := 57) (cs := ouC R.2) Try.results39 rfl Try.isAgg57 Try.sizeOf57 (unhide zHH).1) rfl (unhide zHH).2
  have k1 : (mk == 1) = false := by simpa using e1
  by_cases e3 : mk = 3
  · subst e3
    have e : Hid (crP c ⟨3, mi, mh⟩ = learnP c ⟨3, mi, mh⟩) := by show _ = _; simp [crP]
    clear hcw hbV e4 e1
    go_wp2_with fail
    refine hle.mono ?_
    rintro e2 Vc ⟨rfl, hc2, hb2⟩
    have zHH := hide (unhide pass 0 _ _ (unhide e) hc2 hb2)
    have br := unhide late 0 _ hc2
    clear r0 r1 r2 r3 r4 r5 g0 g1 g2 g3 g4 g5 hc2 hb2 hle m0c m1 m2 c0 c1 c2 c3 f2
    have r0 := br.cell 0
    have r1 := br.cell 1
    have r2 := br.cell 2
    have r3 := br.cell 3
    have r4 := br.cell 4
    have r5 := br.cell 5
    simp at r0 r1 r2 r3 r4 r5
    have g0 := br.frozen 0
    have g1 := br.frozen 1
    have g2 := br.frozen 2
    have g3 := br.frozen 3
    have g4 := br.frozen 4
    have g5 := br.frozen 5
    generalize learnP c ⟨3, mi, mh⟩ = R at *
    unfold ouV
    go_wp2
    exact bodyPost_ret (results_blk (u := 57) (cs := ouC R.2) Try.results39 rfl Try.isAgg57 Try.sizeOf57 (unhide zHH).1) rfl (unhide zHH).2
  have k3 : (mk == 3) = false := by simpa using e3
  have e : Hid (crP c ⟨mk, mi, mh⟩ = (c, o0)) := by show _ = _; simp [crP, e4, e1, e3]
  clear hcw hle hbV e4 e1 e3
  go_wp2
  exact bodyPost_ret (results_blk (u := 57) (cs := ouC o0) Try.results39 rfl Try.isAgg57 Try.sizeOf57 (unhide same 0 o0 (unhide e)).1) rfl (unhide same 0 o0 (unhide e)).2
end Go.Proofs.Qxb6500369a
