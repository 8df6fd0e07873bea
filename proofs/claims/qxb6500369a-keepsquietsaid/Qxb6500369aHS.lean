/-
  The real ring's machines: stepHS.
-/
import Derived.Test.Qxb6500369aCR
namespace Go.Proofs.Qxb6500369a
open Go.RowKit Go.Qx
set_option linter.unusedSimpArgs false
set_option linter.unusedVariables false

set_option maxRecDepth 100000 in
set_option maxHeartbeats 4000000 in
theorem stepHS_any (w : World) (a : Nat) (ns : List N5) (i : Nat) (sp : List Value) (c : N5) (hi : ns[i]? = some c) (hb : Blk w a 80 (flat rc ns ++ sp)) (hf : Flags c) (hgot : c.got = 0 ∨ c.got = 1) (hre : c.reach = 0 ∨ c.reach = 1 ∨ c.reach = 2 ∨ c.reach = 4 ∨ c.reach = 8) (dir : Int) (hd : dir = 0 ∨ dir = 1) (m : Ms) (hhop : m.hop ≤ 9223372036854775807) :
    Calls Try.prog 40 #[.pointer (some ⟨a, i * 4, none⟩), .int .i64 dir, msV m] w (machPost w a ns i sp (hsP c dir m)) := by
  have hbx := boxed w m
  have hal := hb.lt
  unfold msV
  obtain ⟨mk, mi, mh⟩ := m
  simp only at hbx hhop ⊢
  go_enter Try.func40, Try.ntmps40
  go_upto_region 1 with fail
  generalize (w.alloc (.cells #[.int .i64 mk, .int .i64 mi, .int .i64 mh] 55)).alloc (.cells #[.int .i64 0, .int .i64 0, .int .i64 0, .int .i64 0, .int .i64 0, .int .i64 0] 57) = V at *
  have hbV := hbx.q.blk hb
  have hcw := fun n => crown_any (V.drewN n) a ns i sp c hi (hbV.drewN n) hf ⟨mk, mi, mh⟩
  have hle := learn_any V a ns i sp c hi hbV hf ⟨mk, mi, mh⟩
  have htw := fun V' d (x : Ms) => toward_any V' d x
  unfold msV at hcw hle htw
  simp only at hcw hle
  obtain ⟨c0, c1, c2, c3⟩ := cellR_of hbV hi
  have f2 := hbV.frozen (i * 4 + 2)
  have f3 := hbV.frozen (i * 4 + 3)
  have m0c := hbx.m.cell 0
  have m1 := hbx.m.cell 1
  have m2 := hbx.m.cell 2
  simp [msC] at m0c m1 m2
  have br := hbx.r
  have r0 := br.cell 0
  have r1 := br.cell 1
  have r2 := br.cell 2
  have r3 := br.cell 3
  have r4 := br.cell 4
  have r5 := br.cell 5
  simp at r0 r1 r2 r3 r4 r5
  have g0 := br.frozen 0
  have g1 := br.frozen 1
  have g2 := br.frozen 2
  have g3 := br.frozen 3
  have g4 := br.frozen 4
  have g5 := br.frozen 5
  clear br
  have nR : w.heap.size + 1 ≠ a := by omega
  have nRa := Ne.symm nR
  have nM : w.heap.size ≠ a := by omega
  have same : Hid (∀ n o, hsP c dir ⟨mk, mi, mh⟩ = (c, o) → Blk (six (V.drewN n) (w.heap.size + 1) o) (w.heap.size + 1) 57 (ouC o) ∧ machPost w a ns i sp (hsP c dir ⟨mk, mi, mh⟩) (.returned (ouV o)) (six (V.drewN n) (w.heap.size + 1) o)) := by
    intro n o e
    have := mach_pass (R := (c, o)) (ns := ns) (i := i) (sp := sp) hbx hal ((Chg.refl _ V).drewN n) (by rw [set_same hi]; exact hbV.drewN n)
    rw [e]; exact this
  have pass : Hid (∀ R Vc, hsP c dir ⟨mk, mi, mh⟩ = R → Chg (fun k => k = a) V Vc → Blk Vc a 80 (flat rc (ns.set i R.1) ++ sp) → Blk (six Vc (w.heap.size + 1) R.2) (w.heap.size + 1) 57 (ouC R.2) ∧ machPost w a ns i sp (hsP c dir ⟨mk, mi, mh⟩) (.returned (ouV R.2)) (six Vc (w.heap.size + 1) R.2)) := by
    intro R Vc e h1 h2
    rw [e]
    exact mach_pass hbx hal h1 h2
  have sameQ : Hid (∀ o Vc, hsP c dir ⟨mk, mi, mh⟩ = (c, o) → Quiet V Vc → Blk (six Vc (w.heap.size + 1) o) (w.heap.size + 1) 57 (ouC o) ∧ machPost w a ns i sp (hsP c dir ⟨mk, mi, mh⟩) (.returned (ouV o)) (six Vc (w.heap.size + 1) o)) := by
    intro o Vc e q
    have := mach_pass (R := (c, o)) (ns := ns) (i := i) (sp := sp) hbx hal (q.chg _) (by rw [set_same hi]; exact q.blk hbV)
    rw [e]; exact this
  have late : Hid (∀ Vc, Chg (fun k => k = a) V Vc → Blk Vc (w.heap.size + 1) 57 [.int .i64 0, .int .i64 0, .int .i64 0, .int .i64 0, .int .i64 0, .int .i64 0]) := by
    intro Vc h
    exact h.blk hbx.r nR
  have hzV : w.heap.size + 1 < V.heap.size := hbx.r.lt
  have hbxH := hide hbx
  have hiH := hide hi
  clear hbx hi hb
  by_cases e4 : mk = 4
  · subst e4
    by_cases er : c.reach = 0
    · have e : Hid (hsP c dir ⟨4, mi, mh⟩ = ({ c with reach := 1 }, openP { c with reach := 1 })) := by show _ = _; simp [hsP, er]
      have b1 : (c.reach == 0) = true := by simpa using er
      have b2 : (c.reach != 0) = false := by rw [bne, b1]; rfl
      obtain ⟨hbc, hic, hch⟩ := setN hbV (unhide hiH) 2 (by omega) (.int .i64 1) { c with reach := 1 } rfl
      clear er hcw hle htw hbV
      go_wp2
      clear c0 c1 c2 c3 f2 f3 m0c m1 m2 r0 r1 r2 r3 r4 r5 g0 g1 g2 g3 g4 g5
      generalize V.setCell ⟨a, i * 4 + 2, none⟩ (.int .i64 1) = Vc at *
      obtain ⟨d0, d1, d2, d3⟩ := cellR_of hbc hic
      simp only at d0 d2
      have hal2 : a < Vc.heap.size := hbc.lt
      have hzc : w.heap.size + 1 < Vc.heap.size := Nat.lt_of_lt_of_le hzV hch.size
      go_region_held3 (fun w' => w'.cell? ⟨a, i * 4, none⟩ = some (.int .i64 c.id) ∧ w'.cell? ⟨a, i * 4 + 2, none⟩ = some (.int .i64 (1))) (go_keep) (fail)
      all_goals
        rename_i hHeld
        clear hHeld d0 d1 d2 d3
        have hch2 : Chg (fun k => k = a) V (Vc.alloc (.cells #[.int .i64 1, .int .i64 c.id, .int .i64 (1)] 55)).drew := (hch.alloc _).drew
        have hbc2 := (hbc.alloc (.cells #[.int .i64 1, .int .i64 c.id, .int .i64 (1)] 55)).drew
        have zHH := hide (unhide pass _ _ (unhide e) hch2 hbc2)
        have br := unhide late _ hch2
        have bn := (Blk.new Vc 55 [.int .i64 1, .int .i64 c.id, .int .i64 (1)]).drew
        generalize (Vc.alloc (.cells #[.int .i64 1, .int .i64 c.id, .int .i64 (1)] 55)).drew = Vd at *
        have n0 := bn.cell 0
        have n1 := bn.cell 1
        have n2 := bn.cell 2
        have r0 := br.cell 0
        have r1 := br.cell 1
        have r2 := br.cell 2
        have r3 := br.cell 3
        have r4 := br.cell 4
        have r5 := br.cell 5
        simp at n0 n1 n2 r0 r1 r2 r3 r4 r5
        have g0 := br.frozen 0
        have g1 := br.frozen 1
        have g2 := br.frozen 2
        have g3 := br.frozen 3
        have g4 := br.frozen 4
        have g5 := br.frozen 5
        go_wp2
        exact bodyPost_ret (results_blk (u := 57) (cs := ouC (openP { c with reach := 1 })) Try.results40 rfl Try.isAgg57 Try.sizeOf57 (unhide zHH).1) rfl (unhide zHH).2
    · have e : Hid (hsP c dir ⟨4, mi, mh⟩ = (c, o0)) := by show _ = _; simp [hsP, er]
      have b1 : (c.reach == 0) = false := by simpa using er
      have b2 : (c.reach != 0) = true := by rw [bne, b1]; rfl
      clear er hcw hle htw hbV
      go_wp2
      exact bodyPost_ret (results_blk (u := 57) (cs := ouC o0) Try.results40 rfl Try.isAgg57 Try.sizeOf57 (unhide same 0 o0 (unhide e)).1) rfl (unhide same 0 o0 (unhide e)).2
  have k4 : (mk == 4) = false := by simpa using e4
  by_cases e1 : mk = 1
  · subst e1
    by_cases hlt : mi ≤ c.id
    · have e : Hid (hsP c dir ⟨1, mi, mh⟩ = crownP c ⟨1, mi, mh⟩) := by show _ = _; simp [hsP, hlt]
      have d1 : decide (mi ≤ c.id) = true := by simpa using hlt
      clear hle htw hbV e4
      go_wp2
      go_big_quiet (fail)
      go_wp2_with fail
      refine (hcw nq).mono ?_
      rintro e2 Vc ⟨rfl, hc2, hb2⟩
      have hc3 := Chg.trans ((Chg.refl _ V).drewN nq) hc2
      have zHH := hide (unhide pass _ _ (unhide e) hc3 hb2)
      have br := unhide late _ hc3
      clear c0 c1 c2 c3 f2 f3 m0c m1 m2 r0 r1 r2 r3 r4 r5 g0 g1 g2 g3 g4 g5 hc2 hb2 hcw hc3
      have r0 := br.cell 0
      have r1 := br.cell 1
      have r2 := br.cell 2
      have r3 := br.cell 3
      have r4 := br.cell 4
      have r5 := br.cell 5
      simp at r0 r1 r2 r3 r4 r5
      have g0 := br.frozen 0
      have g1 := br.frozen 1
      have g2 := br.frozen 2
      have g3 := br.frozen 3
      have g4 := br.frozen 4
      have g5 := br.frozen 5
      generalize crownP c ⟨1, mi, mh⟩ = R at *
      unfold ouV
      go_wp2
      exact bodyPost_ret (results_blk (u := 57) (cs := ouC R.2) Try.results40 rfl Try.isAgg57 Try.sizeOf57 (unhide zHH).1) rfl (unhide zHH).2
    · have d1 : decide (mi ≤ c.id) = false := by simpa using hlt
      have d2 : c.id < mi := by omega
      by_cases hh : 1 < mh
      · have e : Hid (hsP c dir ⟨1, mi, mh⟩ = (c, towardP dir ⟨1, mi, mh - 1⟩)) := by show _ = _; simp [hsP, hlt, hh]
        have hw1 : IntKind.i64.wrap (mh - 1) = mh - 1 := by rw [IntKind.wrap_i64]; omega
        clear hbV e4 hlt
        go_wp2
        go_big_quiet (fail)
        go_wp2_with fail
        refine (htw _ (dir) ⟨1, mi, mh - 1⟩).mono ?_
        rintro e2 Vc ⟨rfl, hq2⟩
        have hq3 : Quiet V Vc := Quiet.trans ((Chg.refl _ V).drewN nq) hq2
        have zHH := hide (unhide sameQ _ _ (unhide e) hq3)
        have br := hq3.blk (unhide hbxH).r
        clear c0 c1 c2 c3 f2 f3 m0c m1 m2 r0 r1 r2 r3 r4 r5 g0 g1 g2 g3 g4 g5 hq2 hcw hle htw
        have r0 := br.cell 0
        have r1 := br.cell 1
        have r2 := br.cell 2
        have r3 := br.cell 3
        have r4 := br.cell 4
        have r5 := br.cell 5
        simp at r0 r1 r2 r3 r4 r5
        have g0 := br.frozen 0
        have g1 := br.frozen 1
        have g2 := br.frozen 2
        have g3 := br.frozen 3
        have g4 := br.frozen 4
        have g5 := br.frozen 5
        generalize towardP (dir) ⟨1, mi, mh - 1⟩ = R at *
        unfold ouV
        go_wp2
        exact bodyPost_ret (results_blk (u := 57) (cs := ouC R) Try.results40 rfl Try.isAgg57 Try.sizeOf57 (unhide zHH).1) rfl (unhide zHH).2
      · have e : Hid (hsP c dir ⟨1, mi, mh⟩ = (c, towardP (1 - dir) ⟨2, mi, 0⟩)) := by show _ = _; simp [hsP, hlt, hh]
        have hh' : mh ≤ 1 := by omega
        have hw1 : IntKind.i64.wrap (1 - dir) = 1 - dir := by rw [IntKind.wrap_i64]; omega
        clear hbV e4 hlt hh
        go_wp2
        go_big_quiet (fail)
        go_wp2_with fail
        refine (htw _ (1 - dir) ⟨2, mi, 0⟩).mono ?_
        rintro e2 Vc ⟨rfl, hq2⟩
        have hq3 : Quiet V Vc := Quiet.trans ((Chg.refl _ V).drewN nq) hq2
        have zHH := hide (unhide sameQ _ _ (unhide e) hq3)
        have br := hq3.blk (unhide hbxH).r
        clear c0 c1 c2 c3 f2 f3 m0c m1 m2 r0 r1 r2 r3 r4 r5 g0 g1 g2 g3 g4 g5 hq2 hcw hle htw
        have r0 := br.cell 0
        have r1 := br.cell 1
        have r2 := br.cell 2
        have r3 := br.cell 3
        have r4 := br.cell 4
        have r5 := br.cell 5
        simp at r0 r1 r2 r3 r4 r5
        have g0 := br.frozen 0
        have g1 := br.frozen 1
        have g2 := br.frozen 2
        have g3 := br.frozen 3
        have g4 := br.frozen 4
        have g5 := br.frozen 5
        generalize towardP (1 - dir) ⟨2, mi, 0⟩ = R at *
        unfold ouV
        go_wp2
        exact bodyPost_ret (results_blk (u := 57) (cs := ouC R) Try.results40 rfl Try.isAgg57 Try.sizeOf57 (unhide zHH).1) rfl (unhide zHH).2
  have k1 : (mk == 1) = false := by simpa using e1
  by_cases e2 : mk = 2
  · subst e2
    by_cases ei : mi = c.id
    · have b1 : (mi == c.id) = true := by simpa using ei
      have b2 : (mi != c.id) = false := by rw [bne, b1]; rfl
      by_cases er : c.reach < 1 ∨ 8 ≤ c.reach
      · have e : Hid (hsP c dir ⟨2, mi, mh⟩ = (c, o0)) := by show _ = _; simp [hsP, ei, er]
        have er' : c.reach = 0 ∨ c.reach = 8 := by omega
        clear hcw hle htw hbV er hre ei e4 e1
        rcases er' with er | er
        · rw [er] at c2
          go_wp2
          go_big_quiet (fail)
          go_wp2
          exact bodyPost_ret (results_blk (u := 57) (cs := ouC o0) Try.results40 rfl Try.isAgg57 Try.sizeOf57 (unhide same nq o0 (unhide e)).1) rfl (unhide same nq o0 (unhide e)).2
        · rw [er] at c2
          go_wp2
          go_big_quiet (fail)
          go_wp2
          exact bodyPost_ret (results_blk (u := 57) (cs := ouC o0) Try.results40 rfl Try.isAgg57 Try.sizeOf57 (unhide same nq o0 (unhide e)).1) rfl (unhide same nq o0 (unhide e)).2
      · have fa4 := hf.a4
        by_cases hg : c.got = 0
        · have e : Hid (hsP c dir ⟨2, mi, mh⟩ = ({ c with got := 1 }, o0)) := by show _ = _; simp [hsP, ei, er, hg]
          have fo4 := hf.o4 hg
          have i1 : 1 ≤ c.reach := by omega
          have i2 : c.reach < 8 := by omega
          have b3 : (4 * c.got == 0) = true := by rw [hg]; rfl
          have bz : Hid (∀ n, Blk ((V.drewN n).setCell ⟨a, i * 4 + 3, none⟩ (.int .u8 (c.st + 4))) a 80 (flat rc (ns.set i { c with got := 1 }) ++ sp) ∧ Chg (fun k => k = a) V ((V.drewN n).setCell ⟨a, i * 4 + 3, none⟩ (.int .u8 (c.st + 4)))) := by
            intro n
            obtain ⟨q1, q2, q3⟩ := setN (hbV.drewN n) (unhide hiH) 3 (by omega) (.int .u8 (c.st + 4)) { c with got := 1 } (by simp [rc])
            exact ⟨q1, Chg.trans ((Chg.refl _ V).drewN n) q3⟩
          clear hcw hle htw hbV er hre ei e4 e1 hg
          go_wp2
          go_big_quiet (fail)
          go_wp2
          have zHH := unhide pass _ _ (unhide e) (unhide bz nq).2 (unhide bz nq).1
          exact bodyPost_ret (results_blk (u := 57) (cs := ouC o0) Try.results40 rfl Try.isAgg57 Try.sizeOf57 zHH.1) rfl zHH.2
        · have hg1 : c.got = 1 := by omega
          have e : Hid (hsP c dir ⟨2, mi, mh⟩ = ({ c with got := 0, reach := 2 * c.reach }, openP { c with got := 0, reach := 2 * c.reach })) := by show _ = _; simp [hsP, ei, er, hg]
          have fn4 := hf.n4
          have i1 : 1 ≤ c.reach := by omega
          have i2 : c.reach < 8 := by omega
          have b3 : (4 * c.got == 0) = false := by rw [hg1]; rfl
          clear hg1 hgot
          have hbz : Hid (∀ n, ∃ Vx, Vx = ((V.drewN n).setCell ⟨a, i * 4 + 3, none⟩ (.int .u8 c.st)).setCell ⟨a, i * 4 + 2, none⟩ (.int .i64 (c.reach * 2)) ∧ Blk Vx a 80 (flat rc (ns.set i { c with got := 0, reach := 2 * c.reach }) ++ sp) ∧ Chg (fun k => k = a) V Vx ∧ (ns.set i { c with got := 0, reach := 2 * c.reach })[i]? = some { c with got := 0, reach := 2 * c.reach }) := by
            intro n
            obtain ⟨q1, q2, q3⟩ := setN (hbV.drewN n) (unhide hiH) 3 (by omega) (.int .u8 c.st) { c with got := 0 } (by simp [rc])
            obtain ⟨q4, q5, q6⟩ := setN q1 q2 2 (by omega) (.int .i64 (c.reach * 2)) { c with got := 0, reach := 2 * c.reach } (by simp [rc, Int.mul_comm])
            rw [List.set_set] at q4 q5
            exact ⟨_, rfl, q4, (Chg.trans ((Chg.refl _ V).drewN n) q3).trans q6, q5⟩
          clear hcw hle htw er hre ei e4 e1 hg hbV
          go_wp2
          go_big_quiet (fail)
          go_wp2
          obtain ⟨Vc, hVc, hbc, hch, hic⟩ := unhide hbz nq
          rw [← hVc]
          clear hVc hbz c0 c1 c2 c3 f2 f3 m0c m1 m2 r0 r1 r2 r3 r4 r5 g0 g1 g2 g3 g4 g5 fn4 fa4
          obtain ⟨d0, d1, d2, d3⟩ := cellR_of hbc hic
          simp only at d0 d2
          have hal2 : a < Vc.heap.size := hbc.lt
          have hzc : w.heap.size + 1 < Vc.heap.size := Nat.lt_of_lt_of_le hzV hch.size
          go_region_held3 (fun w' => w'.cell? ⟨a, i * 4, none⟩ = some (.int .i64 c.id) ∧ w'.cell? ⟨a, i * 4 + 2, none⟩ = some (.int .i64 (2 * c.reach))) (go_keep) (fail)
          all_goals
            rename_i hHeld
            clear hHeld d0 d1 d2 d3
            have hch2 : Chg (fun k => k = a) V (Vc.alloc (.cells #[.int .i64 1, .int .i64 c.id, .int .i64 (2 * c.reach)] 55)).drew := (hch.alloc _).drew
            have hbc2 := (hbc.alloc (.cells #[.int .i64 1, .int .i64 c.id, .int .i64 (2 * c.reach)] 55)).drew
            have zHH := hide (unhide pass _ _ (unhide e) hch2 hbc2)
            have br := unhide late _ hch2
            have bn := (Blk.new Vc 55 [.int .i64 1, .int .i64 c.id, .int .i64 (2 * c.reach)]).drew
            generalize (Vc.alloc (.cells #[.int .i64 1, .int .i64 c.id, .int .i64 (2 * c.reach)] 55)).drew = Vd at *
            have n0 := bn.cell 0
            have n1 := bn.cell 1
            have n2 := bn.cell 2
            have r0 := br.cell 0
            have r1 := br.cell 1
            have r2 := br.cell 2
            have r3 := br.cell 3
            have r4 := br.cell 4
            have r5 := br.cell 5
            simp at n0 n1 n2 r0 r1 r2 r3 r4 r5
            have g0 := br.frozen 0
            have g1 := br.frozen 1
            have g2 := br.frozen 2
            have g3 := br.frozen 3
            have g4 := br.frozen 4
            have g5 := br.frozen 5
            go_wp2
            exact bodyPost_ret (results_blk (u := 57) (cs := ouC (openP { c with got := 0, reach := 2 * c.reach })) Try.results40 rfl Try.isAgg57 Try.sizeOf57 (unhide zHH).1) rfl (unhide zHH).2
    · have b1 : (mi == c.id) = false := by simpa using ei
      have b2 : (mi != c.id) = true := by rw [bne, b1]; rfl
      have e : Hid (hsP c dir ⟨2, mi, mh⟩ = (c, towardP dir ⟨2, mi, mh⟩)) := by show _ = _; simp [hsP, ei]
      clear hbV e4 e1 ei
      go_wp2
      go_big_quiet (fail)
      go_wp2_with fail
      refine (htw _ (dir) ⟨2, mi, mh⟩).mono ?_
      rintro e2 Vc ⟨rfl, hq2⟩
      have hq3 : Quiet V Vc := Quiet.trans ((Chg.refl _ V).drewN nq) hq2
      have zHH := hide (unhide sameQ _ _ (unhide e) hq3)
      have br := hq3.blk (unhide hbxH).r
      clear c0 c1 c2 c3 f2 f3 m0c m1 m2 r0 r1 r2 r3 r4 r5 g0 g1 g2 g3 g4 g5 hq2 hcw hle htw
      have r0 := br.cell 0
      have r1 := br.cell 1
      have r2 := br.cell 2
      have r3 := br.cell 3
      have r4 := br.cell 4
      have r5 := br.cell 5
      simp at r0 r1 r2 r3 r4 r5
      have g0 := br.frozen 0
      have g1 := br.frozen 1
      have g2 := br.frozen 2
      have g3 := br.frozen 3
      have g4 := br.frozen 4
      have g5 := br.frozen 5
      generalize towardP (dir) ⟨2, mi, mh⟩ = R at *
      unfold ouV
      go_wp2
      exact bodyPost_ret (results_blk (u := 57) (cs := ouC R) Try.results40 rfl Try.isAgg57 Try.sizeOf57 (unhide zHH).1) rfl (unhide zHH).2
  have k2 : (mk == 2) = false := by simpa using e2
  by_cases e3 : mk = 3
  · subst e3
    have e : Hid (hsP c dir ⟨3, mi, mh⟩ = learnP c ⟨3, mi, mh⟩) := by show _ = _; simp [hsP]
    clear hcw htw hbV e4 e1 e2
    go_wp2_with fail
    refine hle.mono ?_
    rintro e2 Vc ⟨rfl, hc2, hb2⟩
    have zHH := hide (unhide pass _ _ (unhide e) hc2 hb2)
    have br := unhide late _ hc2
    clear c0 c1 c2 c3 f2 f3 m0c m1 m2 r0 r1 r2 r3 r4 r5 g0 g1 g2 g3 g4 g5 hc2 hb2 hle
    have r0 := br.cell 0
    have r1 := br.cell 1
    have r2 := br.cell 2
    have r3 := br.cell 3
    have r4 := br.cell 4
    have r5 := br.cell 5
    simp at r0 r1 r2 r3 r4 r5
    have g0 := br.frozen 0
    have g1 := br.frozen 1
    have g2 := br.frozen 2
    have g3 := br.frozen 3
    have g4 := br.frozen 4
    have g5 := br.frozen 5
    generalize learnP c ⟨3, mi, mh⟩ = R at *
    unfold ouV
    go_wp2
    exact bodyPost_ret (results_blk (u := 57) (cs := ouC R.2) Try.results40 rfl Try.isAgg57 Try.sizeOf57 (unhide zHH).1) rfl (unhide zHH).2
  have k3 : (mk == 3) = false := by simpa using e3
  have e : Hid (hsP c dir ⟨mk, mi, mh⟩ = (c, o0)) := by show _ = _; simp [hsP, e4, e1, e2, e3]
  clear hcw hle htw hbV e4 e1 e2 e3
  go_wp2
  exact bodyPost_ret (results_blk (u := 57) (cs := ouC o0) Try.results40 rfl Try.isAgg57 Try.sizeOf57 (unhide same 0 o0 (unhide e)).1) rfl (unhide same 0 o0 (unhide e)).2
end Go.Proofs.Qxb6500369a
