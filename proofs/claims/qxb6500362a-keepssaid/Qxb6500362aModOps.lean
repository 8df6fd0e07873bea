/-
  THE MODEL'S BENCH: Add, Sub, Mul, Same, Mul32. (gen2mops.py)
-/
import Derived.Test.Qxb6500362aMod
import Derived.Test.Qxb6500362aQt
namespace Go.Proofs.Qxb6500362a
open Go.RowKit Go.Qx
set_option linter.unusedVariables false
set_option linter.unusedSimpArgs false

set_option maxHeartbeats 4000000 in
theorem madd_any (w : World) (m p q : Nat) (re im : Nat → Int) (R : RepM w m p q re im) (I : Inv re im) (i j : Int) : Calls Try.prog 57 #[ptr m, .int .i64 i, .int .i64 j] w (repPostM w m p q (addE re im i j) (addR re im i j) (addI re im i j)) := by
  have hc := cells_any w i j
  rcases cells_cases i j with ⟨k, l, rfl, rfl, hk, hl, e0⟩ | e0
  · have e1 : Hid (addE re im k l = putE (re k + re l) (im k + im l)) := by show _ = _; simp [addE, e0]
    have e2 : Hid (addR re im k l = putF re k (re k + re l) (im k + im l) (re k + re l)) := by show _ = _; simp [addR, e0]
    have e3 : Hid (addI re im k l = putF im k (re k + re l) (im k + im l) (im k + im l)) := by show _ = _; simp [addI, e0]
    rw [e0] at hc
    rw [unhide e1, unhide e2, unhide e3]
    have c0 := R.blk.cell 0
    have c1 := R.blk.cell 1
    simp at c0 c1
    have r1 := (R.rowR.cell k).trans (rowI_get re k hk)
    have r2 := (R.rowM.cell k).trans (rowI_get im k hk)
    have r3 := (R.rowR.cell l).trans (rowI_get re l hl)
    have r4 := (R.rowM.cell l).trans (rowI_get im l hl)
    have i0 : (0 : Int) ≤ (k : Int) := by omega
    have i1 : (k : Int) < 4 := by omega
    have j0 : (0 : Int) ≤ (l : Int) := by omega
    have j1 : (l : Int) < 4 := by omega
    have q1 := I.r k hk
    have q2 := I.m k hk
    have s1 := I.r l hl
    have s2 := I.m l hl
    have wN : IntKind.i64.wrap (re k + re l) = re k + re l := by rw [IntKind.wrap_i64]; omega
    have wM : IntKind.i64.wrap (im k + im l) = im k + im l := by rw [IntKind.wrap_i64]; omega
    have hput : Hid (∀ W, Quiet w W → Calls Try.prog 67 #[ptr m, .int .i64 k, .int .i64 (re k + re l), .int .i64 (im k + im l)] W (repPostM W m p q (putE (re k + re l) (im k + im l)) (putF re k (re k + re l) (im k + im l) (re k + re l)) (putF im k (re k + re l) (im k + im l) (im k + im l)))) := fun W h => mput_any W m p q re im (R.quiet h) k hk _ _
    unfold repPostM at hput ⊢
    unfold ptr at hput ⊢
    clear e1 e2 e3 e0 q1 q2 s1 s2 R I
    go_enter Try.func57, Try.ntmps57
    go_wp2_with fail
    refine hc.mono ?_
    rintro e w' ⟨rfl, rfl⟩
    go_wp2
    try simp only [List.append_eq, List.cons_append, List.nil_append]
    refine wp_region_qt_lit 32 (by kernel_rfl) (by kernel_rfl) (by kernel_rfl) ?_
    simp only [List.take_succ_cons, List.take_zero, List.drop_succ_cons, List.drop_zero]
    repeat (go_big_quiet_step (fail))
    refine wpQuiet_nil ?_
    intro _ hw'
    obtain ⟨nq, hw''⟩ := hw'
    subst hw''
    go_wp2_with fail
    refine (unhide hput _ ((Chg.refl _ _).drewN _)).mono ?_
    rintro e w2 ⟨rfl, ch2, R2⟩
    go_wp2
    go_ret
    exact ⟨rfl, Chg.trans ((Chg.refl (ownM m p q) w').drewN _) ch2, R2⟩
  · have e1 : Hid (addE re im i j = 1) := by show _ = _; simp [addE, e0]
    have e2 : Hid (addR re im i j = re) := by show _ = _; simp [addR, e0]
    have e3 : Hid (addI re im i j = im) := by show _ = _; simp [addI, e0]
    rw [e0] at hc
    rw [unhide e1, unhide e2, unhide e3]
    have RH := hide R
    unfold repPostM ptr
    clear e1 e2 e3 e0 R I
    go_enter Try.func57, Try.ntmps57
    go_wp2_with fail
    refine hc.mono ?_
    rintro e w' ⟨rfl, rfl⟩
    go_wp2
    go_ret
    exact ⟨rfl, Chg.refl _ _, unhide RH⟩

set_option maxHeartbeats 4000000 in
theorem msub_any (w : World) (m p q : Nat) (re im : Nat → Int) (R : RepM w m p q re im) (I : Inv re im) (i j : Int) : Calls Try.prog 58 #[ptr m, .int .i64 i, .int .i64 j] w (repPostM w m p q (subE re im i j) (subR re im i j) (subI re im i j)) := by
  have hc := cells_any w i j
  rcases cells_cases i j with ⟨k, l, rfl, rfl, hk, hl, e0⟩ | e0
  · have e1 : Hid (subE re im k l = putE (re k - re l) (im k - im l)) := by show _ = _; simp [subE, e0]
    have e2 : Hid (subR re im k l = putF re k (re k - re l) (im k - im l) (re k - re l)) := by show _ = _; simp [subR, e0]
    have e3 : Hid (subI re im k l = putF im k (re k - re l) (im k - im l) (im k - im l)) := by show _ = _; simp [subI, e0]
    rw [e0] at hc
    rw [unhide e1, unhide e2, unhide e3]
    have c0 := R.blk.cell 0
    have c1 := R.blk.cell 1
    simp at c0 c1
    have r1 := (R.rowR.cell k).trans (rowI_get re k hk)
    have r2 := (R.rowM.cell k).trans (rowI_get im k hk)
    have r3 := (R.rowR.cell l).trans (rowI_get re l hl)
    have r4 := (R.rowM.cell l).trans (rowI_get im l hl)
    have i0 : (0 : Int) ≤ (k : Int) := by omega
    have i1 : (k : Int) < 4 := by omega
    have j0 : (0 : Int) ≤ (l : Int) := by omega
    have j1 : (l : Int) < 4 := by omega
    have q1 := I.r k hk
    have q2 := I.m k hk
    have s1 := I.r l hl
    have s2 := I.m l hl
    have wN : IntKind.i64.wrap (re k - re l) = re k - re l := by rw [IntKind.wrap_i64]; omega
    have wM : IntKind.i64.wrap (im k - im l) = im k - im l := by rw [IntKind.wrap_i64]; omega
    have hput : Hid (∀ W, Quiet w W → Calls Try.prog 67 #[ptr m, .int .i64 k, .int .i64 (re k - re l), .int .i64 (im k - im l)] W (repPostM W m p q (putE (re k - re l) (im k - im l)) (putF re k (re k - re l) (im k - im l) (re k - re l)) (putF im k (re k - re l) (im k - im l) (im k - im l)))) := fun W h => mput_any W m p q re im (R.quiet h) k hk _ _
    unfold repPostM at hput ⊢
    unfold ptr at hput ⊢
    clear e1 e2 e3 e0 q1 q2 s1 s2 R I
    go_enter Try.func58, Try.ntmps58
    go_wp2_with fail
    refine hc.mono ?_
    rintro e w' ⟨rfl, rfl⟩
    go_wp2
    try simp only [List.append_eq, List.cons_append, List.nil_append]
    refine wp_region_qt_lit 32 (by kernel_rfl) (by kernel_rfl) (by kernel_rfl) ?_
    simp only [List.take_succ_cons, List.take_zero, List.drop_succ_cons, List.drop_zero]
    repeat (go_big_quiet_step (fail))
    refine wpQuiet_nil ?_
    intro _ hw'
    obtain ⟨nq, hw''⟩ := hw'
    subst hw''
    go_wp2_with fail
    refine (unhide hput _ ((Chg.refl _ _).drewN _)).mono ?_
    rintro e w2 ⟨rfl, ch2, R2⟩
    go_wp2
    go_ret
    exact ⟨rfl, Chg.trans ((Chg.refl (ownM m p q) w').drewN _) ch2, R2⟩
  · have e1 : Hid (subE re im i j = 1) := by show _ = _; simp [subE, e0]
    have e2 : Hid (subR re im i j = re) := by show _ = _; simp [subR, e0]
    have e3 : Hid (subI re im i j = im) := by show _ = _; simp [subI, e0]
    rw [e0] at hc
    rw [unhide e1, unhide e2, unhide e3]
    have RH := hide R
    unfold repPostM ptr
    clear e1 e2 e3 e0 R I
    go_enter Try.func58, Try.ntmps58
    go_wp2_with fail
    refine hc.mono ?_
    rintro e w' ⟨rfl, rfl⟩
    go_wp2
    go_ret
    exact ⟨rfl, Chg.refl _ _, unhide RH⟩

set_option maxHeartbeats 4000000 in
theorem mmul_any (w : World) (m p q : Nat) (re im : Nat → Int) (R : RepM w m p q re im) (I : Inv re im) (i j : Int) : Calls Try.prog 59 #[ptr m, .int .i64 i, .int .i64 j] w (repPostM w m p q (mulE re im i j) (mulR re im i j) (mulI re im i j)) := by
  have hc := cells_any w i j
  rcases cells_cases i j with ⟨k, l, rfl, rfl, hk, hl, e0⟩ | e0
  · have e1 : Hid (mulE re im k l = putE (re k * re l - im k * im l) (re k * im l + im k * re l)) := by show _ = _; simp [mulE, e0]
    have e2 : Hid (mulR re im k l = putF re k (re k * re l - im k * im l) (re k * im l + im k * re l) (re k * re l - im k * im l)) := by show _ = _; simp [mulR, e0]
    have e3 : Hid (mulI re im k l = putF im k (re k * re l - im k * im l) (re k * im l + im k * re l) (re k * im l + im k * re l)) := by show _ = _; simp [mulI, e0]
    rw [e0] at hc
    rw [unhide e1, unhide e2, unhide e3]
    have c0 := R.blk.cell 0
    have c1 := R.blk.cell 1
    simp at c0 c1
    have r1 := (R.rowR.cell k).trans (rowI_get re k hk)
    have r2 := (R.rowM.cell k).trans (rowI_get im k hk)
    have r3 := (R.rowR.cell l).trans (rowI_get re l hl)
    have r4 := (R.rowM.cell l).trans (rowI_get im l hl)
    have i0 : (0 : Int) ≤ (k : Int) := by omega
    have i1 : (k : Int) < 4 := by omega
    have j0 : (0 : Int) ≤ (l : Int) := by omega
    have j1 : (l : Int) < 4 := by omega
    have q1 := I.r k hk
    have q2 := I.m k hk
    have s1 := I.r l hl
    have s2 := I.m l hl
    have p1 := mul_bound q1 s1
    have p2 := mul_bound q2 s2
    have p3 := mul_bound q1 s2
    have p4 := mul_bound q2 s1
    have w1 : IntKind.i64.wrap (re k * re l) = re k * re l := by rw [IntKind.wrap_i64]; omega
    have w2 : IntKind.i64.wrap (im k * im l) = im k * im l := by rw [IntKind.wrap_i64]; omega
    have w3 : IntKind.i64.wrap (re k * im l) = re k * im l := by rw [IntKind.wrap_i64]; omega
    have w4 : IntKind.i64.wrap (im k * re l) = im k * re l := by rw [IntKind.wrap_i64]; omega
    have wN : IntKind.i64.wrap (re k * re l - im k * im l) = re k * re l - im k * im l := by rw [IntKind.wrap_i64]; omega
    have wM : IntKind.i64.wrap (re k * im l + im k * re l) = re k * im l + im k * re l := by rw [IntKind.wrap_i64]; omega
    have hput : Hid (∀ W, Quiet w W → Calls Try.prog 67 #[ptr m, .int .i64 k, .int .i64 (re k * re l - im k * im l), .int .i64 (re k * im l + im k * re l)] W (repPostM W m p q (putE (re k * re l - im k * im l) (re k * im l + im k * re l)) (putF re k (re k * re l - im k * im l) (re k * im l + im k * re l) (re k * re l - im k * im l)) (putF im k (re k * re l - im k * im l) (re k * im l + im k * re l) (re k * im l + im k * re l)))) := fun W h => mput_any W m p q re im (R.quiet h) k hk _ _
    unfold repPostM at hput ⊢
    unfold ptr at hput ⊢
    clear e1 e2 e3 e0 q1 q2 s1 s2 R I
    go_enter Try.func59, Try.ntmps59
    go_wp2_with fail
    refine hc.mono ?_
    rintro e w' ⟨rfl, rfl⟩
    go_wp2
    try simp only [List.append_eq, List.cons_append, List.nil_append]
    refine wp_region_qt_lit 64 (by kernel_rfl) (by kernel_rfl) (by kernel_rfl) ?_
    simp only [List.take_succ_cons, List.take_zero, List.drop_succ_cons, List.drop_zero]
    repeat (go_big_quiet_step (fail))
    refine wpQuiet_nil ?_
    intro _ hw'
    obtain ⟨nq, hw''⟩ := hw'
    subst hw''
    go_wp2_with fail
    refine (unhide hput _ ((Chg.refl _ _).drewN _)).mono ?_
    rintro e w2 ⟨rfl, ch2, R2⟩
    go_wp2
    go_ret
    exact ⟨rfl, Chg.trans ((Chg.refl (ownM m p q) w').drewN _) ch2, R2⟩
  · have e1 : Hid (mulE re im i j = 1) := by show _ = _; simp [mulE, e0]
    have e2 : Hid (mulR re im i j = re) := by show _ = _; simp [mulR, e0]
    have e3 : Hid (mulI re im i j = im) := by show _ = _; simp [mulI, e0]
    rw [e0] at hc
    rw [unhide e1, unhide e2, unhide e3]
    have RH := hide R
    unfold repPostM ptr
    clear e1 e2 e3 e0 R I
    go_enter Try.func59, Try.ntmps59
    go_wp2_with fail
    refine hc.mono ?_
    rintro e w' ⟨rfl, rfl⟩
    go_wp2
    go_ret
    exact ⟨rfl, Chg.refl _ _, unhide RH⟩

set_option maxHeartbeats 4000000 in
theorem msame_any (w : World) (m p q : Nat) (re im : Nat → Int) (R : RepM w m p q re im) (i j : Int) : Calls Try.prog 66 #[ptr m, .int .i64 i, .int .i64 j] w fun e w' => e = .returned (.tuple #[.int .i64 (sameP re im i j).1, .int .i64 (sameP re im i j).2]) ∧ Quiet w w' := by
  have hc := cells_any w i j
  rcases cells_cases i j with ⟨k, l, rfl, rfl, hk, hl, e0⟩ | e0
  · have e1 : Hid (sameP re im k l = (if re k = re l ∧ im k = im l then 1 else 0, 0)) := by show _ = _; simp [sameP, e0]
    rw [e0] at hc
    rw [unhide e1]
    have c0 := R.blk.cell 0
    have c1 := R.blk.cell 1
    simp at c0 c1
    have r1 := (R.rowR.cell k).trans (rowI_get re k hk)
    have r2 := (R.rowM.cell k).trans (rowI_get im k hk)
    have r3 := (R.rowR.cell l).trans (rowI_get re l hl)
    have r4 := (R.rowM.cell l).trans (rowI_get im l hl)
    have i0 : (0 : Int) ≤ (k : Int) := by omega
    have i1 : (k : Int) < 4 := by omega
    have j0 : (0 : Int) ≤ (l : Int) := by omega
    have j1 : (l : Int) < 4 := by omega
    unfold ptr
    clear e1 e0 R
    by_cases h1 : re k = re l
    · have b1 : (re k == re l) = true := by simpa using h1
      by_cases h2 : im k = im l
      · have b2 : (im k == im l) = true := by simpa using h2
        rw [if_pos ⟨h1, h2⟩]
        generalize re k = rk at *
        generalize re l = rl at *
        generalize im k = ik at *
        generalize im l = il at *
        clear h1 h2
        go_enter Try.func66, Try.ntmps66
        go_wp2_with fail
        refine hc.mono ?_
        rintro e w' ⟨rfl, rfl⟩
        go_wp2
        go_quiet (fail)
        go_wp2
        go_ret2
        exact ⟨rfl, (Chg.refl _ _).drewN _⟩
      · have b2 : (im k == im l) = false := by simpa using h2
        rw [if_neg (fun h => h2 h.2)]
        generalize re k = rk at *
        generalize re l = rl at *
        generalize im k = ik at *
        generalize im l = il at *
        clear h1 h2
        go_enter Try.func66, Try.ntmps66
        go_wp2_with fail
        refine hc.mono ?_
        rintro e w' ⟨rfl, rfl⟩
        go_wp2
        go_quiet (fail)
        go_wp2
        go_ret2
        exact ⟨rfl, (Chg.refl _ _).drewN _⟩
    · have b1 : (re k == re l) = false := by simpa using h1
      rw [if_neg (fun h => h1 h.1)]
      generalize re k = rk at *
      generalize re l = rl at *
      generalize im k = ik at *
      generalize im l = il at *
      clear h1
      go_enter Try.func66, Try.ntmps66
      go_wp2_with fail
      refine hc.mono ?_
      rintro e w' ⟨rfl, rfl⟩
      go_wp2
      go_quiet (fail)
      go_wp2
      go_ret2
      exact ⟨rfl, (Chg.refl _ _).drewN _⟩
  · have e1 : Hid (sameP re im i j = (0, 1)) := by show _ = _; simp [sameP, e0]
    rw [e0] at hc
    rw [unhide e1]
    unfold ptr
    clear e1 e0 R
    go_enter Try.func66, Try.ntmps66
    go_wp2_with fail
    refine hc.mono ?_
    rintro e w' ⟨rfl, rfl⟩
    go_wp2
    go_ret2
    exact ⟨rfl, Chg.refl _ _⟩

set_option maxHeartbeats 4000000 in
theorem mmul32_any (w : World) (m p q : Nat) (re im : Nat → Int) (R : RepM w m p q re im) (I : Inv re im) (i j : Int) : Calls Try.prog 60 #[ptr m, .int .i64 i, .int .i64 j] w (repPostM w m p q (mul32E re im i j) (mul32R re im i j) (mul32I re im i j)) := by
  have hc := cells_any w i j
  have RH := hide R
  rcases cells_cases i j with ⟨k, l, rfl, rfl, hk, hl, e0⟩ | e0
  · rw [e0] at hc
    have c0 := R.blk.cell 0
    have c1 := R.blk.cell 1
    simp at c0 c1
    have r1 := (R.rowR.cell k).trans (rowI_get re k hk)
    have r2 := (R.rowM.cell k).trans (rowI_get im k hk)
    have r3 := (R.rowR.cell l).trans (rowI_get re l hl)
    have r4 := (R.rowM.cell l).trans (rowI_get im l hl)
    have i0 : (0 : Int) ≤ (k : Int) := by omega
    have i1 : (k : Int) < 4 := by omega
    have j0 : (0 : Int) ≤ (l : Int) := by omega
    have j1 : (l : Int) < 4 := by omega
    have h1 := fun W => fits_any W (re k) (im k) 2048 (by omega)
    have h2 := fun W => fits_any W (re l) (im l) 2048 (by omega)
    have h3 := fun W (h : Quiet w W) => mmul_any W m p q re im ((unhide RH).quiet h) I k l
    clear R
    by_cases g1 : inP (re k) (im k) 2048 = true
    · by_cases g2 : inP (re l) (im l) 2048 = true
      · have e1 : Hid (mul32E re im k l = mulE re im k l) := by show _ = _; simp [mul32E, e0, m32ok, g1, g2]
        have e2 : Hid (mul32R re im k l = mulR re im k l) := by show _ = _; simp [mul32R, e0, m32ok, g1, g2]
        have e3 : Hid (mul32I re im k l = mulI re im k l) := by show _ = _; simp [mul32I, e0, m32ok, g1, g2]
        rw [unhide e1, unhide e2, unhide e3]
        rw [g1] at h1
        rw [g2] at h2
        generalize mulE re im k l = ME at *
        generalize mulR re im k l = MR at *
        generalize mulI re im k l = MI at *
        have h3H := hide h3
        generalize re k = rk at *
        generalize re l = rl at *
        generalize im k = ik at *
        generalize im l = il at *
        clear e1 e2 e3 e0 g1 g2 I h3
        unfold repPostM ptr at *
        go_enter Try.func60, Try.ntmps60
        go_wp2_with fail
        refine hc.mono ?_
        rintro e w' ⟨rfl, rfl⟩
        go_wp2
        go_quiet ((go_at_call 46; exact Calls.quiet_of_same (h1 _)))
        go_wp2
        go_quiet ((go_at_call 46; exact (h2 _).mono (fun e w2 hh => ⟨hh.1, _, hh.2⟩)))
        go_wp2_with fail
        refine ((unhide h3H) _ ((Chg.refl _ _).drewN _)).mono ?_
        rintro e w3 ⟨rfl, h4, h5⟩
        go_wp2
        go_ret
        exact ⟨rfl, Chg.trans ((Chg.refl _ _).drewN _) h4, h5⟩
      · have g2' : inP (re l) (im l) 2048 = false := by simpa using g2
        have e1 : Hid (mul32E re im k l = 2) := by show _ = _; simp [mul32E, e0, m32ok, g1, g2']
        have e2 : Hid (mul32R re im k l = re) := by show _ = _; simp [mul32R, e0, m32ok, g1, g2']
        have e3 : Hid (mul32I re im k l = im) := by show _ = _; simp [mul32I, e0, m32ok, g1, g2']
        rw [unhide e1, unhide e2, unhide e3]
        rw [g1] at h1
        rw [g2'] at h2
        generalize re k = rk at *
        generalize re l = rl at *
        generalize im k = ik at *
        generalize im l = il at *
        clear e1 e2 e3 e0 g1 g2 g2' I h3
        unfold repPostM ptr at *
        go_enter Try.func60, Try.ntmps60
        go_wp2_with fail
        refine hc.mono ?_
        rintro e w' ⟨rfl, rfl⟩
        go_wp2
        go_quiet ((go_at_call 46; exact Calls.quiet_of_same (h1 _)))
        go_wp2
        go_quiet ((go_at_call 46; exact (h2 _).mono (fun e w2 hh => ⟨hh.1, _, hh.2⟩)))
        go_wp2
        go_ret
        exact ⟨rfl, ((Chg.refl _ _).drewN _).drewN _, (unhide RH).quiet (((Chg.refl _ _).drewN _).drewN _)⟩
    · have g1' : inP (re k) (im k) 2048 = false := by simpa using g1
      have e1 : Hid (mul32E re im k l = 2) := by show _ = _; simp [mul32E, e0, m32ok, g1']
      have e2 : Hid (mul32R re im k l = re) := by show _ = _; simp [mul32R, e0, m32ok, g1']
      have e3 : Hid (mul32I re im k l = im) := by show _ = _; simp [mul32I, e0, m32ok, g1']
      rw [unhide e1, unhide e2, unhide e3]
      rw [g1'] at h1
      generalize re k = rk at *
      generalize re l = rl at *
      generalize im k = ik at *
      generalize im l = il at *
      clear e1 e2 e3 e0 g1 g1' I h3 h2
      unfold repPostM ptr at *
      go_enter Try.func60, Try.ntmps60
      go_wp2_with fail
      refine hc.mono ?_
      rintro e w' ⟨rfl, rfl⟩
      go_wp2
      go_quiet ((go_at_call 46; exact Calls.quiet_of_same (h1 _)))
      go_wp2
      go_ret
      exact ⟨rfl, (Chg.refl _ _).drewN _, (unhide RH).quiet ((Chg.refl _ _).drewN _)⟩
  · have e1 : Hid (mul32E re im i j = 1) := by show _ = _; simp [mul32E, e0]
    have e2 : Hid (mul32R re im i j = re) := by show _ = _; simp [mul32R, e0]
    have e3 : Hid (mul32I re im i j = im) := by show _ = _; simp [mul32I, e0]
    rw [e0] at hc
    rw [unhide e1, unhide e2, unhide e3]
    unfold repPostM ptr
    clear e1 e2 e3 e0 R I
    go_enter Try.func60, Try.ntmps60
    go_wp2_with fail
    refine hc.mono ?_
    rintro e w' ⟨rfl, rfl⟩
    go_wp2
    go_ret
    exact ⟨rfl, Chg.refl _ _, unhide RH⟩
end Go.Proofs.Qxb6500362a
