/-
  THE MODEL'S BENCH: Rot, Div.
-/
import Derived.Test.Qxb6500362aMod
import Derived.Test.Qxb6500362aQm
namespace Go.Proofs.Qxb6500362a
open Go.RowKit Go.Qx
set_option linter.unusedVariables false
set_option linter.unusedSimpArgs false

set_option maxRecDepth 100000 in
set_option maxHeartbeats 4000000 in
theorem mrot_any (w : World) (m p q : Nat) (re im : Nat → Int) (R : RepM w m p q re im) (I : Inv re im) (i k : Int) : Calls Try.prog 61 #[ptr m, .int .i64 i, .int .i64 k] w (repPostM w m p q (conjE i) (rotR re im i k) (rotI re im i k)) := by
  have hc := cells_any w i i
  have RH := hide R
  rcases cells_cases i i with ⟨l, l', rfl, hl', hl, _, e0⟩ | e0
  · have e1 : Hid (conjE l = 0) := by show _ = _; simp [conjE, e0]
    have e2 : Hid (rotR re im l k = upd re l (re l * uR (quad k) - im l * uI (quad k))) := by show _ = _; simp [rotR, e0]
    have e3 : Hid (rotI re im l k = upd im l (re l * uI (quad k) + im l * uR (quad k))) := by show _ = _; simp [rotI, e0]
    rw [e0] at hc
    rw [unhide e1, unhide e2, unhide e3]
    have c0 := R.blk.cell 0
    have c1 := R.blk.cell 1
    simp at c0 c1
    have r1 := (R.rowR.cell l).trans (rowI_get re l hl)
    have r2 := (R.rowM.cell l).trans (rowI_get im l hl)
    have f1 := R.rowR.frozen
    have f2 := R.rowM.frozen
    have npq := R.pq
    have nmp := R.mp
    have nmq := R.mq
    have i0 : (0 : Int) ≤ (l : Int) := by omega
    have i1 : (l : Int) < 4 := by omega
    have q1 := I.r l hl
    have q2 := I.m l hl
    have t1 : -3 ≤ k.tmod 4 ∧ k.tmod 4 ≤ 3 := by
      have h1 := Int.tmod_lt_of_pos k (show (0 : Int) < 4 by decide)
      have h2 := Int.tmod_lt_of_pos (-k) (show (0 : Int) < 4 by decide)
      rw [Int.neg_tmod] at h2
      omega
    have wk : IntKind.i64.wrap (k.tmod 4 + 4) = k.tmod 4 + 4 := by rw [IntKind.wrap_i64]; omega
    have wk2 : wrap64 (k.tmod 4 + 4) = k.tmod 4 + 4 := by unfold wrap64; omega
    have hq : (k.tmod 4 + 4).tmod 4 = quad k := rfl
    have ht := fun W => turn_any W (re l) (im l) (quad k) (by omega) (by omega)
    have hset : Hid (∀ W, Quiet w W → ∀ a b, RepM ((W.setCell ⟨p, l, none⟩ (.int .i64 a)).setCell ⟨q, l, none⟩ (.int .i64 b)) m p q (upd re l a) (upd im l b)) := fun W h a b => (R.quiet h).set l hl a b
    generalize re l * uR (quad k) - im l * uI (quad k) = A at *
    generalize re l * uI (quad k) + im l * uR (quad k) = B at *
    generalize quad k = Q at *
    generalize re l = rl at *
    generalize im l = il at *
    unfold repPostM ptr
    clear e1 e2 e3 e0 hl' R I q1 q2 t1
    go_enter Try.func61, Try.ntmps61
    go_wp2_with fail
    refine hc.mono ?_
    rintro e w' ⟨rfl, rfl⟩
    go_wp2
    refine wp_region_noPanic ?_
    try simp only [List.append_eq, List.cons_append, List.nil_append]
    refine wp_region_mix [(0, true), (1, true), (2, true), (3, true), (4, true), (5, true), (6, true), (7, true), (8, true), (9, false), (10, true), (11, true), (12, true), (13, true), (14, true), (15, true), (16, true), (17, true), (18, true), (19, true), (20, true), (21, true), (22, true), (23, true), (24, true), (25, true), (26, true), (27, true), (28, true), (29, true), (30, true), (31, false), (32, true)] [33, 34, 35] (by kernel_rfl) (by kernel_rfl) (fun _ _ _ _ _ h => h) ?_
    simp only [pickM, pickO, List.getElem?_cons_zero, List.getElem?_cons_succ]
    repeat (first | (refine wpMix_read rfl (fun K hK => ?_)) | (refine wpMix_pure rfl (fun K hK => ?_))
            go_big_quiet_op
            first | (refine hK _ ?_; clear hK K) | (apply Exists.intro; refine ⟨fun _ => ?_, ?_⟩; (· (first | (go_at_call 68; exact Calls.quiet_of_same (ht _)))); refine hK _ ?_; clear hK K))
    refine wpMix_nil ?_
    intro _ hw'
    obtain ⟨nq, hw''⟩ := hw'
    subst hw''
    go_wp2
    refine NoPanic.normal ?_
    go_wp2
    go_ret
    refine ⟨rfl, ?_, unhide hset _ ((Chg.refl _ _).drewN _) _ _⟩
    exact (((Chg.refl (ownM m p q) w').drewN _).setCell (.inl (.inr (.inl rfl))) _).setCell (.inl (.inr (.inr rfl))) _
  · have e1 : Hid (conjE i = 1) := by show _ = _; simp [conjE, e0]
    have e2 : Hid (rotR re im i k = re) := by show _ = _; simp [rotR, e0]
    have e3 : Hid (rotI re im i k = im) := by show _ = _; simp [rotI, e0]
    rw [e0] at hc
    rw [unhide e1, unhide e2, unhide e3]
    unfold repPostM ptr
    clear e1 e2 e3 e0 R I
    go_enter Try.func61, Try.ntmps61
    go_wp2_with fail
    refine hc.mono ?_
    rintro e w' ⟨rfl, rfl⟩
    go_wp2
    go_ret
    exact ⟨rfl, Chg.refl _ _, unhide RH⟩

theorem four_mul (a : Int) : (a * 4).tdiv 4 = a := by rw [Int.mul_tdiv_cancel _ (by decide)]
theorem two_mul_quo (a : Int) : (a * 2).tdiv 4 = a.tdiv 2 := Int.mul_tdiv_mul_of_pos_left a 2 (by decide)
theorem two_mul_whole (a : Int) : (a * 2 = (a * 2).tdiv 4 * 4) ↔ a.tmod 2 = 0 := by
  have h2 := Int.mul_tdiv_add_tmod a 2
  rw [two_mul_quo]
  omega
theorem one_whole (a : Int) : (a = a.tdiv 4 * 4) ↔ a.tmod 4 = 0 := by
  have h1 := Int.mul_tdiv_add_tmod a 4
  omega
theorem tdiv_small (a : Int) (d : Int) (h : a.natAbs ≤ 67108864) : (a.tdiv d).natAbs ≤ 67108864 := by
  rw [Int.natAbs_tdiv]
  exact Nat.le_trans (Nat.div_le_self _ _) h

set_option maxRecDepth 100000 in
set_option maxHeartbeats 4000000 in
theorem mdiv_none (w : World) (m p q : Nat) (re im : Nat → Int) (R : RepM w m p q re im) (i a b : Int) (e0 : cellsP i i = false) : Calls Try.prog 63 #[ptr m, .int .i64 i, .int .i64 a, .int .i64 b] w (repPostM w m p q (divE re im i a b) (divR re im i a b) (divI re im i a b)) := by
  have hc := cells_any w i i
  have RH := hide R
  have e1 : Hid (divE re im i a b = 1) := by show _ = _; simp [divE, e0]
  have e2 : Hid (divR re im i a b = re) := by show _ = _; simp [divR, unhide e1]
  have e3 : Hid (divI re im i a b = im) := by show _ = _; simp [divI, unhide e1]
  rw [e0] at hc
  rw [unhide e1, unhide e2, unhide e3]
  unfold repPostM ptr
  clear e1 e2 e3 e0 R
  go_enter Try.func63, Try.ntmps63
  go_wp2_with fail
  refine hc.mono ?_
  rintro e w' ⟨rfl, rfl⟩
  go_wp2
  go_ret
  exact ⟨rfl, Chg.refl _ _, unhide RH⟩

set_option maxRecDepth 100000 in
set_option maxHeartbeats 4000000 in
theorem mdiv_p1 (w : World) (m p q : Nat) (re im : Nat → Int) (R : RepM w m p q re im) (I : Inv re im) (l : Nat) (hl : l < 4) (e0 : cellsP l l = true) : Calls Try.prog 63 #[ptr m, .int .i64 l, .int .i64 1, .int .i64 0] w (repPostM w m p q (divE re im l 1 0) (divR re im l 1 0) (divI re im l 1 0)) := by
  have hc := cells_any w l l
  have RH := hide R
  have e1 : Hid (divE re im l 1 0 = 0) := by show _ = _; simp [divE, e0, divP, quoR, quoI, wholeP, four_mul]
  have e2 : Hid (divR re im l 1 0 = upd re l (re l)) := by show _ = _; simp [divR, unhide e1, quoR, four_mul]
  have e3 : Hid (divI re im l 1 0 = upd im l (im l)) := by show _ = _; simp [divI, unhide e1, quoI, four_mul]
  rw [e0] at hc
  rw [unhide e1, unhide e2, unhide e3]
  have c0 := R.blk.cell 0
  have c1 := R.blk.cell 1
  simp at c0 c1
  have r1 := (R.rowR.cell l).trans (rowI_get re l hl)
  have r2 := (R.rowM.cell l).trans (rowI_get im l hl)
  have f1 := R.rowR.frozen
  have f2 := R.rowM.frozen
  have npq := R.pq
  have nmp := R.mp
  have nmq := R.mq
  have i0 : (0 : Int) ≤ (l : Int) := by omega
  have i1 : (l : Int) < 4 := by omega
  have q1 := I.r l hl
  have q2 := I.m l hl
  have hset : Hid (∀ W, Quiet w W → ∀ a b, RepM ((W.setCell ⟨p, l, none⟩ (.int .i64 a)).setCell ⟨q, l, none⟩ (.int .i64 b)) m p q (upd re l a) (upd im l b)) := fun W h a b => (R.quiet h).set l hl a b
  have ht := fun W => turn_any W (re l) (im l) 0 (by omega) (by omega)
  simp only [show re l * uR 0 - im l * uI 0 = re l by simp [uR, uI], show re l * uI 0 + im l * uR 0 = im l by simp [uR, uI]] at ht
  generalize hN : re l = N at *
  generalize hM : im l = M at *
  clear hN hM
  generalize re l = rl at *
  generalize im l = il at *
  unfold repPostM ptr
  clear e1 e2 e3 e0 R I q1 q2
  go_enter Try.func63, Try.ntmps63
  go_wp2_with fail
  refine hc.mono ?_
  rintro e w' ⟨rfl, rfl⟩
  go_wp2
  refine wp_region_noPanic ?_
  try simp only [List.append_eq, List.cons_append, List.nil_append]
  refine wp_region_mix [(0, true), (1, true), (2, true), (3, true), (4, true), (5, true), (6, true), (7, true), (8, true), (9, false), (10, true), (11, true), (12, true), (13, true), (14, true), (15, true), (16, true), (17, true), (18, true), (19, true), (20, true), (21, true), (22, true), (23, true), (24, true), (25, true), (26, true), (27, true), (28, false), (29, true)] [30, 31, 32] (by kernel_rfl) (by kernel_rfl) (fun _ _ _ _ _ h => h) ?_
  simp only [pickM, pickO, List.getElem?_cons_zero, List.getElem?_cons_succ]
  repeat (first | (refine wpMix_read rfl (fun K hK => ?_)) | (refine wpMix_pure rfl (fun K hK => ?_))
          go_big_quiet_op
          first | (refine hK _ ?_; clear hK K) | (apply Exists.intro; refine ⟨fun _ => ?_, ?_⟩; (· (first | (go_at_call 68; exact Calls.quiet_of_same (ht _)))); refine hK _ ?_; clear hK K))
  refine wpMix_nil ?_
  intro _ hw'
  obtain ⟨nq, hw''⟩ := hw'
  subst hw''
  go_wp2
  refine NoPanic.normal ?_
  go_wp2
  go_ret
  refine ⟨rfl, ?_, unhide hset _ ((Chg.refl _ _).drewN _) _ _⟩
  exact (((Chg.refl (ownM m p q) w').drewN _).setCell (.inl (.inr (.inl rfl))) _).setCell (.inl (.inr (.inr rfl))) _

set_option maxRecDepth 100000 in
set_option maxHeartbeats 4000000 in
theorem mdiv_m1 (w : World) (m p q : Nat) (re im : Nat → Int) (R : RepM w m p q re im) (I : Inv re im) (l : Nat) (hl : l < 4) (e0 : cellsP l l = true) : Calls Try.prog 63 #[ptr m, .int .i64 l, .int .i64 (-1), .int .i64 0] w (repPostM w m p q (divE re im l (-1) 0) (divR re im l (-1) 0) (divI re im l (-1) 0)) := by
  have hc := cells_any w l l
  have RH := hide R
  have e1 : Hid (divE re im l (-1) 0 = 0) := by show _ = _; simp [divE, e0, divP, quoR, quoI, wholeP, four_mul]
  have e2 : Hid (divR re im l (-1) 0 = upd re l (-(re l))) := by show _ = _; simp [divR, unhide e1, quoR, four_mul]
  have e3 : Hid (divI re im l (-1) 0 = upd im l (-(im l))) := by show _ = _; simp [divI, unhide e1, quoI, four_mul]
  rw [e0] at hc
  rw [unhide e1, unhide e2, unhide e3]
  have c0 := R.blk.cell 0
  have c1 := R.blk.cell 1
  simp at c0 c1
  have r1 := (R.rowR.cell l).trans (rowI_get re l hl)
  have r2 := (R.rowM.cell l).trans (rowI_get im l hl)
  have f1 := R.rowR.frozen
  have f2 := R.rowM.frozen
  have npq := R.pq
  have nmp := R.mp
  have nmq := R.mq
  have i0 : (0 : Int) ≤ (l : Int) := by omega
  have i1 : (l : Int) < 4 := by omega
  have q1 := I.r l hl
  have q2 := I.m l hl
  have hset : Hid (∀ W, Quiet w W → ∀ a b, RepM ((W.setCell ⟨p, l, none⟩ (.int .i64 a)).setCell ⟨q, l, none⟩ (.int .i64 b)) m p q (upd re l a) (upd im l b)) := fun W h a b => (R.quiet h).set l hl a b
  have ht := fun W => turn_any W (re l) (im l) 2 (by omega) (by omega)
  simp only [show re l * uR 2 - im l * uI 2 = -(re l) by simp [uR, uI], show re l * uI 2 + im l * uR 2 = -(im l) by simp [uR, uI]] at ht
  generalize hN : -(re l) = N at *
  generalize hM : -(im l) = M at *
  clear hN hM
  generalize re l = rl at *
  generalize im l = il at *
  unfold repPostM ptr
  clear e1 e2 e3 e0 R I q1 q2
  go_enter Try.func63, Try.ntmps63
  go_wp2_with fail
  refine hc.mono ?_
  rintro e w' ⟨rfl, rfl⟩
  go_wp2
  refine wp_region_noPanic ?_
  try simp only [List.append_eq, List.cons_append, List.nil_append]
  refine wp_region_mix [(0, true), (1, true), (2, true), (3, true), (4, true), (5, true), (6, true), (7, true), (8, true), (9, false), (10, true), (11, true), (12, true), (13, true), (14, true), (15, true), (16, true), (17, true), (18, true), (19, true), (20, true), (21, true), (22, true), (23, true), (24, true), (25, true), (26, true), (27, true), (28, false), (29, true)] [30, 31, 32] (by kernel_rfl) (by kernel_rfl) (fun _ _ _ _ _ h => h) ?_
  simp only [pickM, pickO, List.getElem?_cons_zero, List.getElem?_cons_succ]
  repeat (first | (refine wpMix_read rfl (fun K hK => ?_)) | (refine wpMix_pure rfl (fun K hK => ?_))
          go_big_quiet_op
          first | (refine hK _ ?_; clear hK K) | (apply Exists.intro; refine ⟨fun _ => ?_, ?_⟩; (· (first | (go_at_call 68; exact Calls.quiet_of_same (ht _)))); refine hK _ ?_; clear hK K))
  refine wpMix_nil ?_
  intro _ hw'
  obtain ⟨nq, hw''⟩ := hw'
  subst hw''
  go_wp2
  refine NoPanic.normal ?_
  go_wp2
  go_ret
  refine ⟨rfl, ?_, unhide hset _ ((Chg.refl _ _).drewN _) _ _⟩
  exact (((Chg.refl (ownM m p q) w').drewN _).setCell (.inl (.inr (.inl rfl))) _).setCell (.inl (.inr (.inr rfl))) _

set_option maxRecDepth 100000 in
set_option maxHeartbeats 4000000 in
theorem mdiv_pi (w : World) (m p q : Nat) (re im : Nat → Int) (R : RepM w m p q re im) (I : Inv re im) (l : Nat) (hl : l < 4) (e0 : cellsP l l = true) : Calls Try.prog 63 #[ptr m, .int .i64 l, .int .i64 0, .int .i64 1] w (repPostM w m p q (divE re im l 0 1) (divR re im l 0 1) (divI re im l 0 1)) := by
  have hc := cells_any w l l
  have RH := hide R
  have e1 : Hid (divE re im l 0 1 = 0) := by show _ = _; simp [divE, e0, divP, quoR, quoI, wholeP, four_mul]
  have e2 : Hid (divR re im l 0 1 = upd re l (im l)) := by show _ = _; simp [divR, unhide e1, quoR, four_mul]
  have e3 : Hid (divI re im l 0 1 = upd im l (-(re l))) := by show _ = _; simp [divI, unhide e1, quoI, four_mul]
  rw [e0] at hc
  rw [unhide e1, unhide e2, unhide e3]
  have c0 := R.blk.cell 0
  have c1 := R.blk.cell 1
  simp at c0 c1
  have r1 := (R.rowR.cell l).trans (rowI_get re l hl)
  have r2 := (R.rowM.cell l).trans (rowI_get im l hl)
  have f1 := R.rowR.frozen
  have f2 := R.rowM.frozen
  have npq := R.pq
  have nmp := R.mp
  have nmq := R.mq
  have i0 : (0 : Int) ≤ (l : Int) := by omega
  have i1 : (l : Int) < 4 := by omega
  have q1 := I.r l hl
  have q2 := I.m l hl
  have hset : Hid (∀ W, Quiet w W → ∀ a b, RepM ((W.setCell ⟨p, l, none⟩ (.int .i64 a)).setCell ⟨q, l, none⟩ (.int .i64 b)) m p q (upd re l a) (upd im l b)) := fun W h a b => (R.quiet h).set l hl a b
  have ht := fun W => turn_any W (re l) (im l) 3 (by omega) (by omega)
  simp only [show re l * uR 3 - im l * uI 3 = im l by simp [uR, uI], show re l * uI 3 + im l * uR 3 = -(re l) by simp [uR, uI]] at ht
  generalize hN : im l = N at *
  generalize hM : -(re l) = M at *
  clear hN hM
  generalize re l = rl at *
  generalize im l = il at *
  unfold repPostM ptr
  clear e1 e2 e3 e0 R I q1 q2
  go_enter Try.func63, Try.ntmps63
  go_wp2_with fail
  refine hc.mono ?_
  rintro e w' ⟨rfl, rfl⟩
  go_wp2
  refine wp_region_noPanic ?_
  try simp only [List.append_eq, List.cons_append, List.nil_append]
  refine wp_region_mix [(0, true), (1, true), (2, true), (3, true), (4, true), (5, true), (6, true), (7, true), (8, true), (9, false), (10, true), (11, true), (12, true), (13, true), (14, true), (15, true), (16, true), (17, true), (18, true), (19, true), (20, true), (21, true), (22, true), (23, true), (24, true), (25, true), (26, true), (27, true), (28, false), (29, true)] [30, 31, 32] (by kernel_rfl) (by kernel_rfl) (fun _ _ _ _ _ h => h) ?_
  simp only [pickM, pickO, List.getElem?_cons_zero, List.getElem?_cons_succ]
  repeat (first | (refine wpMix_read rfl (fun K hK => ?_)) | (refine wpMix_pure rfl (fun K hK => ?_))
          go_big_quiet_op
          first | (refine hK _ ?_; clear hK K) | (apply Exists.intro; refine ⟨fun _ => ?_, ?_⟩; (· (first | (go_at_call 68; exact Calls.quiet_of_same (ht _)))); refine hK _ ?_; clear hK K))
  refine wpMix_nil ?_
  intro _ hw'
  obtain ⟨nq, hw''⟩ := hw'
  subst hw''
  go_wp2
  refine NoPanic.normal ?_
  go_wp2
  go_ret
  refine ⟨rfl, ?_, unhide hset _ ((Chg.refl _ _).drewN _) _ _⟩
  exact (((Chg.refl (ownM m p q) w').drewN _).setCell (.inl (.inr (.inl rfl))) _).setCell (.inl (.inr (.inr rfl))) _

set_option maxRecDepth 100000 in
set_option maxHeartbeats 4000000 in
theorem mdiv_mi (w : World) (m p q : Nat) (re im : Nat → Int) (R : RepM w m p q re im) (I : Inv re im) (l : Nat) (hl : l < 4) (e0 : cellsP l l = true) : Calls Try.prog 63 #[ptr m, .int .i64 l, .int .i64 0, .int .i64 (-1)] w (repPostM w m p q (divE re im l 0 (-1)) (divR re im l 0 (-1)) (divI re im l 0 (-1))) := by
  have hc := cells_any w l l
  have RH := hide R
  have e1 : Hid (divE re im l 0 (-1) = 0) := by show _ = _; simp [divE, e0, divP, quoR, quoI, wholeP, four_mul]
  have e2 : Hid (divR re im l 0 (-1) = upd re l (-(im l))) := by show _ = _; simp [divR, unhide e1, quoR, four_mul]
  have e3 : Hid (divI re im l 0 (-1) = upd im l (re l)) := by show _ = _; simp [divI, unhide e1, quoI, four_mul]
  rw [e0] at hc
  rw [unhide e1, unhide e2, unhide e3]
  have c0 := R.blk.cell 0
  have c1 := R.blk.cell 1
  simp at c0 c1
  have r1 := (R.rowR.cell l).trans (rowI_get re l hl)
  have r2 := (R.rowM.cell l).trans (rowI_get im l hl)
  have f1 := R.rowR.frozen
  have f2 := R.rowM.frozen
  have npq := R.pq
  have nmp := R.mp
  have nmq := R.mq
  have i0 : (0 : Int) ≤ (l : Int) := by omega
  have i1 : (l : Int) < 4 := by omega
  have q1 := I.r l hl
  have q2 := I.m l hl
  have hset : Hid (∀ W, Quiet w W → ∀ a b, RepM ((W.setCell ⟨p, l, none⟩ (.int .i64 a)).setCell ⟨q, l, none⟩ (.int .i64 b)) m p q (upd re l a) (upd im l b)) := fun W h a b => (R.quiet h).set l hl a b
  have ht := fun W => turn_any W (re l) (im l) 1 (by omega) (by omega)
  simp only [show re l * uR 1 - im l * uI 1 = -(im l) by simp [uR, uI], show re l * uI 1 + im l * uR 1 = re l by simp [uR, uI]] at ht
  generalize hN : -(im l) = N at *
  generalize hM : re l = M at *
  clear hN hM
  generalize re l = rl at *
  generalize im l = il at *
  unfold repPostM ptr
  clear e1 e2 e3 e0 R I q1 q2
  go_enter Try.func63, Try.ntmps63
  go_wp2_with fail
  refine hc.mono ?_
  rintro e w' ⟨rfl, rfl⟩
  go_wp2
  refine wp_region_noPanic ?_
  try simp only [List.append_eq, List.cons_append, List.nil_append]
  refine wp_region_mix [(0, true), (1, true), (2, true), (3, true), (4, true), (5, true), (6, true), (7, true), (8, true), (9, false), (10, true), (11, true), (12, true), (13, true), (14, true), (15, true), (16, true), (17, true), (18, true), (19, true), (20, true), (21, true), (22, true), (23, true), (24, true), (25, true), (26, true), (27, true), (28, false), (29, true)] [30, 31, 32] (by kernel_rfl) (by kernel_rfl) (fun _ _ _ _ _ h => h) ?_
  simp only [pickM, pickO, List.getElem?_cons_zero, List.getElem?_cons_succ]
  repeat (first | (refine wpMix_read rfl (fun K hK => ?_)) | (refine wpMix_pure rfl (fun K hK => ?_))
          go_big_quiet_op
          first | (refine hK _ ?_; clear hK K) | (apply Exists.intro; refine ⟨fun _ => ?_, ?_⟩; (· (first | (go_at_call 68; exact Calls.quiet_of_same (ht _)))); refine hK _ ?_; clear hK K))
  refine wpMix_nil ?_
  intro _ hw'
  obtain ⟨nq, hw''⟩ := hw'
  subst hw''
  go_wp2
  refine NoPanic.normal ?_
  go_wp2
  go_ret
  refine ⟨rfl, ?_, unhide hset _ ((Chg.refl _ _).drewN _) _ _⟩
  exact (((Chg.refl (ownM m p q) w').drewN _).setCell (.inl (.inr (.inl rfl))) _).setCell (.inl (.inr (.inr rfl))) _

set_option maxRecDepth 100000 in
set_option maxHeartbeats 4000000 in
theorem mdiv_two (w : World) (m p q : Nat) (re im : Nat → Int) (R : RepM w m p q re im) (I : Inv re im) (l : Nat) (hl : l < 4) (e0 : cellsP l l = true) : Calls Try.prog 63 #[ptr m, .int .i64 l, .int .i64 2, .int .i64 0] w (repPostM w m p q (divE re im l 2 0) (divR re im l 2 0) (divI re im l 2 0)) := by
  have hc := cells_any w l l
  have RH := hide R
  have hE : Hid (divE re im l 2 0 = if (re l).tmod 2 = 0 ∧ (im l).tmod 2 = 0 then 0 else 4) := by show _ = _; simp [divE, e0, divP, quoR, quoI, wholeP, two_mul_whole]
  have hR : Hid (divR re im l 2 0 = if divE re im l 2 0 = 0 then upd re l ((re l).tdiv 2) else re) := by show _ = _; simp [divR, quoR, two_mul_quo]
  have hI : Hid (divI re im l 2 0 = if divE re im l 2 0 = 0 then upd im l ((im l).tdiv 2) else im) := by show _ = _; simp [divI, quoI, two_mul_quo]
  rw [e0] at hc
  have c0 := R.blk.cell 0
  have c1 := R.blk.cell 1
  simp at c0 c1
  have r1 := (R.rowR.cell l).trans (rowI_get re l hl)
  have r2 := (R.rowM.cell l).trans (rowI_get im l hl)
  have f1 := R.rowR.frozen
  have f2 := R.rowM.frozen
  have npq := R.pq
  have nmp := R.mp
  have nmq := R.mq
  have i0 : (0 : Int) ≤ (l : Int) := by omega
  have i1 : (l : Int) < 4 := by omega
  have q1 := I.r l hl
  have q2 := I.m l hl
  have hset : Hid (∀ W, Quiet w W → ∀ a b, RepM ((W.setCell ⟨p, l, none⟩ (.int .i64 a)).setCell ⟨q, l, none⟩ (.int .i64 b)) m p q (upd re l a) (upd im l b)) := fun W h a b => (R.quiet h).set l hl a b
  have d1 : wrap64 ((re l).tdiv 2) = (re l).tdiv 2 := by have := tdiv_small (re l) 2 (by omega); unfold wrap64; omega
  have d2 : wrap64 ((im l).tdiv 2) = (im l).tdiv 2 := by have := tdiv_small (im l) 2 (by omega); unfold wrap64; omega
  have d3 : IntKind.i64.wrap ((re l).tdiv 2) = (re l).tdiv 2 := by have := tdiv_small (re l) 2 (by omega); rw [IntKind.wrap_i64]; omega
  have d4 : IntKind.i64.wrap ((im l).tdiv 2) = (im l).tdiv 2 := by have := tdiv_small (im l) 2 (by omega); rw [IntKind.wrap_i64]; omega
  by_cases g1 : (re l).tmod 2 = 0
  · have b1 : ((re l).tmod 2 == 0) = true := by simpa using g1
    by_cases g2 : (im l).tmod 2 = 0
    · have b2 : ((im l).tmod 2 == 0) = true := by simpa using g2
      have e1 : Hid (divE re im l 2 0 = 0) := by show _ = _; rw [unhide hE, if_pos ⟨g1, g2⟩]
      rw [unhide hR, unhide hI, unhide e1, if_pos rfl, if_pos rfl]




      generalize re l = rl at *
      generalize im l = il at *
      unfold repPostM ptr
      clear hE hR hI e1 e0 R I q1 q2
      go_enter Try.func63, Try.ntmps63
      go_wp2_with fail
      refine hc.mono ?_
      rintro e w' ⟨rfl, rfl⟩
      go_wp2
      refine wp_region_noPanic ?_
      try simp only [List.append_eq, List.cons_append, List.nil_append]
      refine wp_region_mix [(0, true), (1, true), (2, true), (3, true), (4, true), (5, true), (6, true), (7, true), (8, true), (9, false), (10, true), (11, true), (12, true), (13, true), (14, true), (15, true), (16, true), (17, true), (18, true), (19, true), (20, true), (21, true), (22, true), (23, true), (24, true), (25, true), (26, false), (27, false), (28, true)] [29, 30, 31] (by kernel_rfl) (by kernel_rfl) (fun _ _ _ _ _ h => h) ?_
      simp only [pickM, pickO, List.getElem?_cons_zero, List.getElem?_cons_succ]
      repeat (first | (refine wpMix_read rfl (fun K hK => ?_)) | (refine wpMix_pure rfl (fun K hK => ?_))
              go_big_quiet_op
              first | (refine hK _ ?_; clear hK K))
      refine wpMix_nil ?_
      intro _ hw'
      obtain ⟨nq, hw''⟩ := hw'
      subst hw''
      go_wp2
      refine NoPanic.normal ?_
      go_wp2
      go_ret
      refine ⟨rfl, ?_, unhide hset _ ((Chg.refl _ _).drewN _) _ _⟩
      exact (((Chg.refl (ownM m p q) w').drewN _).setCell (.inl (.inr (.inl rfl))) _).setCell (.inl (.inr (.inr rfl))) _
    · have b2 : ((im l).tmod 2 == 0) = false := by simpa using g2
      have e1 : Hid (divE re im l 2 0 = 4) := by show _ = _; rw [unhide hE, if_neg (fun h => g2 h.2)]
      rw [unhide hR, unhide hI, unhide e1, if_neg (by decide), if_neg (by decide)]


      generalize re l = rl at *
      generalize im l = il at *
      unfold repPostM ptr
      clear hE hR hI e1 e0 R I q1 q2 d1 d2 d3 d4
      go_enter Try.func63, Try.ntmps63
      go_wp2_with fail
      refine hc.mono ?_
      rintro e w' ⟨rfl, rfl⟩
      go_wp2
      go_ret
      exact ⟨rfl, Chg.refl _ _, unhide RH⟩
  · have b1 : ((re l).tmod 2 == 0) = false := by simpa using g1
    have e1 : Hid (divE re im l 2 0 = 4) := by show _ = _; rw [unhide hE, if_neg (fun h => g1 h.1)]
    rw [unhide hR, unhide hI, unhide e1, if_neg (by decide), if_neg (by decide)]

    generalize re l = rl at *
    unfold repPostM ptr
    clear hE hR hI e1 e0 R I q1 q2 d1 d2 d3 d4
    go_enter Try.func63, Try.ntmps63
    go_wp2_with fail
    refine hc.mono ?_
    rintro e w' ⟨rfl, rfl⟩
    go_wp2
    go_ret
    exact ⟨rfl, Chg.refl _ _, unhide RH⟩

set_option maxRecDepth 100000 in
set_option maxHeartbeats 4000000 in
theorem mdiv_four (w : World) (m p q : Nat) (re im : Nat → Int) (R : RepM w m p q re im) (I : Inv re im) (l : Nat) (hl : l < 4) (e0 : cellsP l l = true) : Calls Try.prog 63 #[ptr m, .int .i64 l, .int .i64 4, .int .i64 0] w (repPostM w m p q (divE re im l 4 0) (divR re im l 4 0) (divI re im l 4 0)) := by
  have hc := cells_any w l l
  have RH := hide R
  have hE : Hid (divE re im l 4 0 = if (re l).tmod 4 = 0 ∧ (im l).tmod 4 = 0 then 0 else 4) := by show _ = _; simp [divE, e0, divP, quoR, quoI, wholeP, one_whole]
  have hR : Hid (divR re im l 4 0 = if divE re im l 4 0 = 0 then upd re l ((re l).tdiv 4) else re) := by show _ = _; simp [divR, quoR]
  have hI : Hid (divI re im l 4 0 = if divE re im l 4 0 = 0 then upd im l ((im l).tdiv 4) else im) := by show _ = _; simp [divI, quoI]
  rw [e0] at hc
  have c0 := R.blk.cell 0
  have c1 := R.blk.cell 1
  simp at c0 c1
  have r1 := (R.rowR.cell l).trans (rowI_get re l hl)
  have r2 := (R.rowM.cell l).trans (rowI_get im l hl)
  have f1 := R.rowR.frozen
  have f2 := R.rowM.frozen
  have npq := R.pq
  have nmp := R.mp
  have nmq := R.mq
  have i0 : (0 : Int) ≤ (l : Int) := by omega
  have i1 : (l : Int) < 4 := by omega
  have q1 := I.r l hl
  have q2 := I.m l hl
  have hset : Hid (∀ W, Quiet w W → ∀ a b, RepM ((W.setCell ⟨p, l, none⟩ (.int .i64 a)).setCell ⟨q, l, none⟩ (.int .i64 b)) m p q (upd re l a) (upd im l b)) := fun W h a b => (R.quiet h).set l hl a b
  have d1 : wrap64 ((re l).tdiv 4) = (re l).tdiv 4 := by have := tdiv_small (re l) 4 (by omega); unfold wrap64; omega
  have d2 : wrap64 ((im l).tdiv 4) = (im l).tdiv 4 := by have := tdiv_small (im l) 4 (by omega); unfold wrap64; omega
  have d3 : IntKind.i64.wrap ((re l).tdiv 4) = (re l).tdiv 4 := by have := tdiv_small (re l) 4 (by omega); rw [IntKind.wrap_i64]; omega
  have d4 : IntKind.i64.wrap ((im l).tdiv 4) = (im l).tdiv 4 := by have := tdiv_small (im l) 4 (by omega); rw [IntKind.wrap_i64]; omega
  by_cases g1 : (re l).tmod 4 = 0
  · have b1 : ((re l).tmod 4 == 0) = true := by simpa using g1
    by_cases g2 : (im l).tmod 4 = 0
    · have b2 : ((im l).tmod 4 == 0) = true := by simpa using g2
      have e1 : Hid (divE re im l 4 0 = 0) := by show _ = _; rw [unhide hE, if_pos ⟨g1, g2⟩]
      rw [unhide hR, unhide hI, unhide e1, if_pos rfl, if_pos rfl]




      generalize re l = rl at *
      generalize im l = il at *
      unfold repPostM ptr
      clear hE hR hI e1 e0 R I q1 q2
      go_enter Try.func63, Try.ntmps63
      go_wp2_with fail
      refine hc.mono ?_
      rintro e w' ⟨rfl, rfl⟩
      go_wp2
      refine wp_region_noPanic ?_
      try simp only [List.append_eq, List.cons_append, List.nil_append]
      refine wp_region_mix [(0, true), (1, true), (2, true), (3, true), (4, true), (5, true), (6, true), (7, true), (8, true), (9, false), (10, true), (11, true), (12, true), (13, true), (14, true), (15, true), (16, true), (17, true), (18, true), (19, true), (20, true), (21, true), (22, true), (23, true), (24, true), (25, true), (26, false), (27, false), (28, true)] [29, 30, 31] (by kernel_rfl) (by kernel_rfl) (fun _ _ _ _ _ h => h) ?_
      simp only [pickM, pickO, List.getElem?_cons_zero, List.getElem?_cons_succ]
      repeat (first | (refine wpMix_read rfl (fun K hK => ?_)) | (refine wpMix_pure rfl (fun K hK => ?_))
              go_big_quiet_op
              first | (refine hK _ ?_; clear hK K))
      refine wpMix_nil ?_
      intro _ hw'
      obtain ⟨nq, hw''⟩ := hw'
      subst hw''
      go_wp2
      refine NoPanic.normal ?_
      go_wp2
      go_ret
      refine ⟨rfl, ?_, unhide hset _ ((Chg.refl _ _).drewN _) _ _⟩
      exact (((Chg.refl (ownM m p q) w').drewN _).setCell (.inl (.inr (.inl rfl))) _).setCell (.inl (.inr (.inr rfl))) _
    · have b2 : ((im l).tmod 4 == 0) = false := by simpa using g2
      have e1 : Hid (divE re im l 4 0 = 4) := by show _ = _; rw [unhide hE, if_neg (fun h => g2 h.2)]
      rw [unhide hR, unhide hI, unhide e1, if_neg (by decide), if_neg (by decide)]


      generalize re l = rl at *
      generalize im l = il at *
      unfold repPostM ptr
      clear hE hR hI e1 e0 R I q1 q2 d1 d2 d3 d4
      go_enter Try.func63, Try.ntmps63
      go_wp2_with fail
      refine hc.mono ?_
      rintro e w' ⟨rfl, rfl⟩
      go_wp2
      go_ret
      exact ⟨rfl, Chg.refl _ _, unhide RH⟩
  · have b1 : ((re l).tmod 4 == 0) = false := by simpa using g1
    have e1 : Hid (divE re im l 4 0 = 4) := by show _ = _; rw [unhide hE, if_neg (fun h => g1 h.1)]
    rw [unhide hR, unhide hI, unhide e1, if_neg (by decide), if_neg (by decide)]

    generalize re l = rl at *
    unfold repPostM ptr
    clear hE hR hI e1 e0 R I q1 q2 d1 d2 d3 d4
    go_enter Try.func63, Try.ntmps63
    go_wp2_with fail
    refine hc.mono ?_
    rintro e w' ⟨rfl, rfl⟩
    go_wp2
    go_ret
    exact ⟨rfl, Chg.refl _ _, unhide RH⟩

set_option maxRecDepth 100000 in
set_option maxHeartbeats 4000000 in
theorem mdiv_other (w : World) (m p q : Nat) (re im : Nat → Int) (R : RepM w m p q re im) (l : Nat) (hl : l < 4) (e0 : cellsP l l = true) (a b : Int) (hd : divP a b = false) : Calls Try.prog 63 #[ptr m, .int .i64 l, .int .i64 a, .int .i64 b] w (repPostM w m p q (divE re im l a b) (divR re im l a b) (divI re im l a b)) := by
  have hc := cells_any w l l
  have RH := hide R
  have e1 : Hid (divE re im l a b = 3) := by show _ = _; simp [divE, e0, hd]
  have e2 : Hid (divR re im l a b = re) := by show _ = _; simp [divR, unhide e1]
  have e3 : Hid (divI re im l a b = im) := by show _ = _; simp [divI, unhide e1]
  rw [e0] at hc
  rw [unhide e1, unhide e2, unhide e3]
  simp only [divP, decide_eq_false_iff_not] at hd
  unfold repPostM ptr
  clear e1 e2 e3 e0 R
  by_cases hb0 : b = 0
  · subst hb0
    have x1 : (a == 2) = false := by simp; omega
    have x2 : (a == 4) = false := by simp; omega
    have x3 : (a == 1) = false := by simp; omega
    have x4 : (a == -1) = false := by simp; omega
    by_cases ha0 : a = 0
    · subst ha0
      clear hd x1 x2 x3 x4
      go_enter Try.func63, Try.ntmps63
      go_wp2_with fail
      refine hc.mono ?_
      rintro e w' ⟨rfl, rfl⟩
      go_wp2
      go_ret
      exact ⟨rfl, Chg.refl _ _, unhide RH⟩
    · have x5 : (a == 0) = false := by simpa using ha0
      clear hd ha0
      go_enter Try.func63, Try.ntmps63
      go_wp2_with fail
      refine hc.mono ?_
      rintro e w' ⟨rfl, rfl⟩
      go_wp2
      go_ret
      exact ⟨rfl, Chg.refl _ _, unhide RH⟩
  · have y1 : (b == 0) = false := by simpa using hb0
    by_cases ha0 : a = 0
    · subst ha0
      have x1 : (b == 1) = false := by simp; omega
      have x2 : (b == -1) = false := by simp; omega
      clear hd hb0
      go_enter Try.func63, Try.ntmps63
      go_wp2_with fail
      refine hc.mono ?_
      rintro e w' ⟨rfl, rfl⟩
      go_wp2
      go_ret
      exact ⟨rfl, Chg.refl _ _, unhide RH⟩
    · have x5 : (a == 0) = false := by simpa using ha0
      by_cases ha1 : a = 1
      · subst ha1
        clear hd hb0 ha0 x5
        go_enter Try.func63, Try.ntmps63
        go_wp2_with fail
        refine hc.mono ?_
        rintro e w' ⟨rfl, rfl⟩
        go_wp2
        go_ret
        exact ⟨rfl, Chg.refl _ _, unhide RH⟩
      · have x6 : (a == 1) = false := by simpa using ha1
        by_cases ha2 : a = -1
        · subst ha2
          clear hd hb0 ha0 x5 x6 ha1
          go_enter Try.func63, Try.ntmps63
          go_wp2_with fail
          refine hc.mono ?_
          rintro e w' ⟨rfl, rfl⟩
          go_wp2
          go_ret
          exact ⟨rfl, Chg.refl _ _, unhide RH⟩
        · have x7 : (a == -1) = false := by simpa using ha2
          clear hd hb0 ha0 ha1 ha2
          go_enter Try.func63, Try.ntmps63
          go_wp2_with fail
          refine hc.mono ?_
          rintro e w' ⟨rfl, rfl⟩
          go_wp2
          go_ret
          exact ⟨rfl, Chg.refl _ _, unhide RH⟩

theorem mdiv_any (w : World) (m p q : Nat) (re im : Nat → Int) (R : RepM w m p q re im) (I : Inv re im) (i a b : Int) : Calls Try.prog 63 #[ptr m, .int .i64 i, .int .i64 a, .int .i64 b] w (repPostM w m p q (divE re im i a b) (divR re im i a b) (divI re im i a b)) := by
  rcases cells_cases i i with ⟨l, l', rfl, hl', hl, _, e0⟩ | e0
  · cases hd : divP a b with
    | false => exact mdiv_other w m p q re im R l hl e0 a b hd
    | true =>
      simp only [divP, decide_eq_true_eq] at hd
      rcases hd with ⟨rfl, rfl | rfl | rfl | rfl⟩ | ⟨rfl, rfl | rfl⟩
      · exact mdiv_p1 w m p q re im R I l hl e0
      · exact mdiv_m1 w m p q re im R I l hl e0
      · exact mdiv_two w m p q re im R I l hl e0
      · exact mdiv_four w m p q re im R I l hl e0
      · exact mdiv_pi w m p q re im R I l hl e0
      · exact mdiv_mi w m p q re im R I l hl e0
  · exact mdiv_none w m p q re im R i a b e0
end Go.Proofs.Qxb6500362a
