/-
  The abstract node: Step. Written by gen_mstep.py.
-/
import Derived.Test.Qxb6500367aMStep
namespace Go.Proofs.Qxb6500367a
open Go.RowKit Go.Qx
set_option linter.unusedSimpArgs false
set_option linter.unusedVariables false



set_option maxRecDepth 100000 in
set_option maxHeartbeats 4000000 in
theorem mstep_4a (w : World) (m c : Nat) (x : Md) (R : RepM w m c x) (f : Nat) (t : Int) (hc0 : 0 ≤ x.clock) (hc1 : x.clock ≤ 1152921504606846976) (hf : f < x.n) (t1 : 1 ≤ t) (t2 : t ≤ 1152921504606846976) (hct : x.clock < t) (hor : bits BinOp.or IntKind.i64 x.ack (2 ^ f) = x.ack + 2 ^ f) (hv : Calls Try.prog 58 #[ptr m, .int .i64 4, .int .i64 f, .int .i64 t] w fun e w' => e = .returned (.int .i64 0) ∧ Quiet w w') :
    Calls Try.prog 50 #[ptr m, .int .i64 4, .int .i64 f, .int .i64 t] w (mstepPost w m c (((menterP (mturnP x 4 f t)).clock, (menterP (mturnP x 4 f t)).phase, 0), menterP (mturnP x 4 f t))) := by
  have hmx : max x.clock t = t := by omega
  have hX1 : mturnP x 4 f t = { x with clock := t + 1, ack := x.ack + 2 ^ f } := by simp [mturnP, hmx]
  clear hmx
  unfold ptr at *
  go_enter Try.func50, Try.ntmps50
  go_wp2_with fail
  refine hv.mono ?_
  rintro e w1 ⟨rfl, q1⟩
  clear hv
  have Ra := R.quiet q1
  obtain ⟨c0, c1, c2, c3, c4, c5⟩ := Ra.cells
  have f2 := Ra.blk.frozen 2
  have hil := Ra.il
  have hn4 := Ra.n4
  have nmc := Ra.mc
  have ncm := Ne.symm nmc
  have j0 : (0 : Int) ≤ (x.id : Int) := by omega
  have j1 : (x.id : Int) < (x.n : Int) := by omega
  have i0 : (0 : Int) ≤ (f : Int) := by omega
  have i1 : (f : Int) < (x.n : Int) := by omega
  have Rb : RepM ((w1.setCell ⟨m, 2, none⟩ (.int .i64 t)).setCell ⟨m, 2, none⟩ (.int .i64 (t + 1))) m c { x with clock := t + 1 } := (Ra.upd { x with clock := t } 2 (.int .i64 t) rfl rfl rfl rfl).upd { x with clock := t + 1 } 2 (.int .i64 (t + 1)) rfl rfl rfl rfl
  have chb : Chg (ownM m c) w ((w1.setCell ⟨m, 2, none⟩ (.int .i64 t)).setCell ⟨m, 2, none⟩ (.int .i64 (t + 1))) := (own_m (own_m (Quiet.chg q1 _) _ _) _ _)
  go_wp2
  clear c0 c1 c2 c3 c4 c5 f2
  generalize ((w1.setCell ⟨m, 2, none⟩ (.int .i64 t)).setCell ⟨m, 2, none⟩ (.int .i64 (t + 1))) = w2 at Rb chb ⊢
  obtain ⟨c0, c1, c2, c3, c4, c5⟩ := Rb.cells
  simp only at c4
  have f4 := Rb.blk.frozen 4
  have horH : Hid (bits BinOp.or IntKind.i64 x.ack (IntKind.i64.wrap (2 ^ f)) = x.ack + 2 ^ f) := by
    show _ = _
    have hp := pow4 f (by have := Rb.n4; simp only at this; omega)
    rw [IntWalk.i64_in _ (by omega)]; exact hor
  clear hor
  go_region_law (fail)
  rw [unhide horH]
  clear c0 c1 c2 c3 c4 c5 f4 horH
  have R1 : RepM (w2.setCell ⟨m, 4, none⟩ (.int .i64 (x.ack + 2 ^ f))).drew m c { x with clock := t + 1, ack := x.ack + 2 ^ f } := (Rb.upd { x with clock := t + 1, ack := x.ack + 2 ^ f } 4 (.int .i64 (x.ack + 2 ^ f)) rfl rfl rfl rfl).quiet ((Chg.refl _ _).drew)
  have ch1 : Chg (ownM m c) w (w2.setCell ⟨m, 4, none⟩ (.int .i64 (x.ack + 2 ^ f))).drew := (own_m chb _ _).drew
  generalize (w2.setCell ⟨m, 4, none⟩ (.int .i64 (x.ack + 2 ^ f))).drew = w3 at R1 ch1 ⊢
  go_wp2_with fail
  refine (least_any _ m c _ R1).mono ?_
  rintro e w9 ⟨rfl, q9⟩
  have R9 := R1.quiet q9
  have ch9 := ch1.trans (Quiet.chg q9 _)
  clear R1 ch1 q9
  have hme : Hid (menterP { x with clock := t + 1, ack := x.ack + 2 ^ f } = if ({ x with clock := t + 1, ack := x.ack + 2 ^ f }).phase = 1 ∧ leastTo ({ x with clock := t + 1, ack := x.ack + 2 ^ f }).req ({ x with clock := t + 1, ack := x.ack + 2 ^ f }).n = (({ x with clock := t + 1, ack := x.ack + 2 ^ f }).id : Int) ∧ ({ x with clock := t + 1, ack := x.ack + 2 ^ f }).ack = 2 ^ ({ x with clock := t + 1, ack := x.ack + 2 ^ f }).n - 1 - 2 ^ ({ x with clock := t + 1, ack := x.ack + 2 ^ f }).id then { ({ x with clock := t + 1, ack := x.ack + 2 ^ f }) with phase := 2 } else { x with clock := t + 1, ack := x.ack + 2 ^ f }) := rfl
  rw [hX1] at *
  generalize { x with clock := t + 1, ack := x.ack + 2 ^ f } = y at *
  obtain ⟨c0, c1, c2, c3, c4, c5⟩ := R9.cells
  have f3 := R9.blk.frozen 3
  obtain ⟨pn1, pn2⟩ := pow4 y.n R9.n4
  obtain ⟨pi1, pi2⟩ := pow4 y.id (by have := R9.n4; have := R9.il; omega)
  have wn : wrap64 (2 ^ y.n) = 2 ^ y.n := by unfold wrap64; omega
  have wi : wrap64 (2 ^ y.id) = 2 ^ y.id := by unfold wrap64; omega
  have hn4 := R9.n4
  have hil := R9.il
  have kn0 : (0 : Int) ≤ (y.n : Int) := by omega
  have ki0 : (0 : Int) ≤ (y.id : Int) := by omega
  generalize leastTo y.req y.n = lt at *
  by_cases hph : y.phase = 1
  · have b1 : (y.phase == 1) = true := by simpa using hph
    by_cases hlt : lt = (y.id : Int)
    · have b2 : (lt == (y.id : Int)) = true := by simpa using hlt
      have w1 : IntKind.i64.wrap (2 ^ y.n - 1) = 2 ^ y.n - 1 := by rw [IntKind.wrap_i64]; omega
      have w2 : IntKind.i64.wrap (2 ^ y.n - 1 - 2 ^ y.id) = 2 ^ y.n - 1 - 2 ^ y.id := by rw [IntKind.wrap_i64]; omega
      by_cases hak : y.ack = 2 ^ y.n - 1 - 2 ^ y.id
      · have b3 : (y.ack == 2 ^ y.n - 1 - 2 ^ y.id) = true := by simpa using hak
        have hm2 := unhide hme
        rw [if_pos ⟨hph, hlt, hak⟩] at hm2
        have hmH := hide hm2
        clear hm2 hph hlt hak
        go_wp2
        go_big_quiet (fail)
        have R8 := (R9.quiet ((Chg.refl _ w9).drewN nq)).upd { y with phase := 2 } 3 (.int .i64 2) rfl rfl rfl rfl
        go_wp2
        go_big_quiet (fail)
        go_wp2
        go_ret3
        rw [unhide hmH]
        exact ⟨rfl, (own_m (ch9.drewN _) _ _).drewN _, R8.quiet ((Chg.refl _ _).drewN _)⟩
      · have b3 : (y.ack == 2 ^ y.n - 1 - 2 ^ y.id) = false := by simpa using hak
        have hm2 := unhide hme
        rw [if_neg (fun h => hak h.2.2)] at hm2
        have hmH := hide hm2
        clear hm2 hph hlt hak
        go_wp2
        go_big_quiet (fail)
        go_wp2
        go_big_quiet (fail)
        go_wp2
        go_ret3
        rw [unhide hmH]
        exact ⟨rfl, (ch9.drewN _).drewN _, (R9.quiet ((Chg.refl _ _).drewN _)).quiet ((Chg.refl _ _).drewN _)⟩
    · have b2 : (lt == (y.id : Int)) = false := by simpa using hlt
      have hm2 := unhide hme
      rw [if_neg (fun h => hlt h.2.1)] at hm2
      have hmH := hide hm2
      clear hm2 hph hlt
      go_wp2
      go_big_quiet (fail)
      go_wp2
      go_big_quiet (fail)
      go_wp2
      go_ret3
      rw [unhide hmH]
      exact ⟨rfl, (ch9.drewN _).drewN _, (R9.quiet ((Chg.refl _ _).drewN _)).quiet ((Chg.refl _ _).drewN _)⟩
  · have b1 : (y.phase == 1) = false := by simpa using hph
    have hm2 := unhide hme
    rw [if_neg (fun h => hph h.1)] at hm2
    have hmH := hide hm2
    clear hm2 hph
    go_wp2
    go_big_quiet (fail)
    go_wp2
    go_big_quiet (fail)
    go_wp2
    go_ret3
    rw [unhide hmH]
    exact ⟨rfl, (ch9.drewN _).drewN _, (R9.quiet ((Chg.refl _ _).drewN _)).quiet ((Chg.refl _ _).drewN _)⟩


set_option maxRecDepth 100000 in
set_option maxHeartbeats 4000000 in
theorem mstep_4b (w : World) (m c : Nat) (x : Md) (R : RepM w m c x) (f : Nat) (t : Int) (hc0 : 0 ≤ x.clock) (hc1 : x.clock ≤ 1152921504606846976) (hf : f < x.n) (t1 : 1 ≤ t) (t2 : t ≤ 1152921504606846976) (hct : t ≤ x.clock) (hor : bits BinOp.or IntKind.i64 x.ack (2 ^ f) = x.ack + 2 ^ f) (hv : Calls Try.prog 58 #[ptr m, .int .i64 4, .int .i64 f, .int .i64 t] w fun e w' => e = .returned (.int .i64 0) ∧ Quiet w w') :
    Calls Try.prog 50 #[ptr m, .int .i64 4, .int .i64 f, .int .i64 t] w (mstepPost w m c (((menterP (mturnP x 4 f t)).clock, (menterP (mturnP x 4 f t)).phase, 0), menterP (mturnP x 4 f t))) := by
  have hmx : max x.clock t = x.clock := by omega
  have hX1 : mturnP x 4 f t = { x with clock := x.clock + 1, ack := x.ack + 2 ^ f } := by simp [mturnP, hmx]
  clear hmx
  unfold ptr at *
  go_enter Try.func50, Try.ntmps50
  go_wp2_with fail
  refine hv.mono ?_
  rintro e w1 ⟨rfl, q1⟩
  clear hv
  have Ra := R.quiet q1
  obtain ⟨c0, c1, c2, c3, c4, c5⟩ := Ra.cells
  have f2 := Ra.blk.frozen 2
  have hil := Ra.il
  have hn4 := Ra.n4
  have nmc := Ra.mc
  have ncm := Ne.symm nmc
  have j0 : (0 : Int) ≤ (x.id : Int) := by omega
  have j1 : (x.id : Int) < (x.n : Int) := by omega
  have i0 : (0 : Int) ≤ (f : Int) := by omega
  have i1 : (f : Int) < (x.n : Int) := by omega
  have Rb : RepM (w1.setCell ⟨m, 2, none⟩ (.int .i64 (x.clock + 1))) m c { x with clock := x.clock + 1 } := Ra.upd { x with clock := x.clock + 1 } 2 (.int .i64 (x.clock + 1)) rfl rfl rfl rfl
  have chb : Chg (ownM m c) w (w1.setCell ⟨m, 2, none⟩ (.int .i64 (x.clock + 1))) := (own_m (Quiet.chg q1 _) _ _)
  go_wp2
  clear c0 c1 c2 c3 c4 c5 f2
  generalize (w1.setCell ⟨m, 2, none⟩ (.int .i64 (x.clock + 1))) = w2 at Rb chb ⊢
  obtain ⟨c0, c1, c2, c3, c4, c5⟩ := Rb.cells
  simp only at c4
  have f4 := Rb.blk.frozen 4
  have horH : Hid (bits BinOp.or IntKind.i64 x.ack (IntKind.i64.wrap (2 ^ f)) = x.ack + 2 ^ f) := by
    show _ = _
    have hp := pow4 f (by have := Rb.n4; simp only at this; omega)
    rw [IntWalk.i64_in _ (by omega)]; exact hor
  clear hor
  go_region_law (fail)
  rw [unhide horH]
  clear c0 c1 c2 c3 c4 c5 f4 horH
  have R1 : RepM (w2.setCell ⟨m, 4, none⟩ (.int .i64 (x.ack + 2 ^ f))).drew m c { x with clock := x.clock + 1, ack := x.ack + 2 ^ f } := (Rb.upd { x with clock := x.clock + 1, ack := x.ack + 2 ^ f } 4 (.int .i64 (x.ack + 2 ^ f)) rfl rfl rfl rfl).quiet ((Chg.refl _ _).drew)
  have ch1 : Chg (ownM m c) w (w2.setCell ⟨m, 4, none⟩ (.int .i64 (x.ack + 2 ^ f))).drew := (own_m chb _ _).drew
  generalize (w2.setCell ⟨m, 4, none⟩ (.int .i64 (x.ack + 2 ^ f))).drew = w3 at R1 ch1 ⊢
  go_wp2_with fail
  refine (least_any _ m c _ R1).mono ?_
  rintro e w9 ⟨rfl, q9⟩
  have R9 := R1.quiet q9
  have ch9 := ch1.trans (Quiet.chg q9 _)
  clear R1 ch1 q9
  have hme : Hid (menterP { x with clock := x.clock + 1, ack := x.ack + 2 ^ f } = if ({ x with clock := x.clock + 1, ack := x.ack + 2 ^ f }).phase = 1 ∧ leastTo ({ x with clock := x.clock + 1, ack := x.ack + 2 ^ f }).req ({ x with clock := x.clock + 1, ack := x.ack + 2 ^ f }).n = (({ x with clock := x.clock + 1, ack := x.ack + 2 ^ f }).id : Int) ∧ ({ x with clock := x.clock + 1, ack := x.ack + 2 ^ f }).ack = 2 ^ ({ x with clock := x.clock + 1, ack := x.ack + 2 ^ f }).n - 1 - 2 ^ ({ x with clock := x.clock + 1, ack := x.ack + 2 ^ f }).id then { ({ x with clock := x.clock + 1, ack := x.ack + 2 ^ f }) with phase := 2 } else { x with clock := x.clock + 1, ack := x.ack + 2 ^ f }) := rfl
  rw [hX1] at *
  generalize { x with clock := x.clock + 1, ack := x.ack + 2 ^ f } = y at *
  obtain ⟨c0, c1, c2, c3, c4, c5⟩ := R9.cells
  have f3 := R9.blk.frozen 3
  obtain ⟨pn1, pn2⟩ := pow4 y.n R9.n4
  obtain ⟨pi1, pi2⟩ := pow4 y.id (by have := R9.n4; have := R9.il; omega)
  have wn : wrap64 (2 ^ y.n) = 2 ^ y.n := by unfold wrap64; omega
  have wi : wrap64 (2 ^ y.id) = 2 ^ y.id := by unfold wrap64; omega
  have hn4 := R9.n4
  have hil := R9.il
  have kn0 : (0 : Int) ≤ (y.n : Int) := by omega
  have ki0 : (0 : Int) ≤ (y.id : Int) := by omega
  generalize leastTo y.req y.n = lt at *
  by_cases hph : y.phase = 1
  · have b1 : (y.phase == 1) = true := by simpa using hph
    by_cases hlt : lt = (y.id : Int)
    · have b2 : (lt == (y.id : Int)) = true := by simpa using hlt
      have w1 : IntKind.i64.wrap (2 ^ y.n - 1) = 2 ^ y.n - 1 := by rw [IntKind.wrap_i64]; omega
      have w2 : IntKind.i64.wrap (2 ^ y.n - 1 - 2 ^ y.id) = 2 ^ y.n - 1 - 2 ^ y.id := by rw [IntKind.wrap_i64]; omega
      by_cases hak : y.ack = 2 ^ y.n - 1 - 2 ^ y.id
      · have b3 : (y.ack == 2 ^ y.n - 1 - 2 ^ y.id) = true := by simpa using hak
        have hm2 := unhide hme
        rw [if_pos ⟨hph, hlt, hak⟩] at hm2
        have hmH := hide hm2
        clear hm2 hph hlt hak
        go_wp2
        go_big_quiet (fail)
        have R8 := (R9.quiet ((Chg.refl _ w9).drewN nq)).upd { y with phase := 2 } 3 (.int .i64 2) rfl rfl rfl rfl
        go_wp2
        go_big_quiet (fail)
        go_wp2
        go_ret3
        rw [unhide hmH]
        exact ⟨rfl, (own_m (ch9.drewN _) _ _).drewN _, R8.quiet ((Chg.refl _ _).drewN _)⟩
      · have b3 : (y.ack == 2 ^ y.n - 1 - 2 ^ y.id) = false := by simpa using hak
        have hm2 := unhide hme
        rw [if_neg (fun h => hak h.2.2)] at hm2
        have hmH := hide hm2
        clear hm2 hph hlt hak
        go_wp2
        go_big_quiet (fail)
        go_wp2
        go_big_quiet (fail)
        go_wp2
        go_ret3
        rw [unhide hmH]
        exact ⟨rfl, (ch9.drewN _).drewN _, (R9.quiet ((Chg.refl _ _).drewN _)).quiet ((Chg.refl _ _).drewN _)⟩
    · have b2 : (lt == (y.id : Int)) = false := by simpa using hlt
      have hm2 := unhide hme
      rw [if_neg (fun h => hlt h.2.1)] at hm2
      have hmH := hide hm2
      clear hm2 hph hlt
      go_wp2
      go_big_quiet (fail)
      go_wp2
      go_big_quiet (fail)
      go_wp2
      go_ret3
      rw [unhide hmH]
      exact ⟨rfl, (ch9.drewN _).drewN _, (R9.quiet ((Chg.refl _ _).drewN _)).quiet ((Chg.refl _ _).drewN _)⟩
  · have b1 : (y.phase == 1) = false := by simpa using hph
    have hm2 := unhide hme
    rw [if_neg (fun h => hph h.1)] at hm2
    have hmH := hide hm2
    clear hm2 hph
    go_wp2
    go_big_quiet (fail)
    go_wp2
    go_big_quiet (fail)
    go_wp2
    go_ret3
    rw [unhide hmH]
    exact ⟨rfl, (ch9.drewN _).drewN _, (R9.quiet ((Chg.refl _ _).drewN _)).quiet ((Chg.refl _ _).drewN _)⟩

end Go.Proofs.Qxb6500367a
