/-
  The abstract node: Step. Written by gen_mstep.py.
-/
import Derived.Test.Qxb6500367aVet
namespace Go.Proofs.Qxb6500367a
open Go.RowKit Go.Qx
set_option linter.unusedSimpArgs false
set_option linter.unusedVariables false

def menterP (x : Md) : Md := if x.phase = 1 ∧ leastTo x.req x.n = (x.id : Int) ∧ x.ack = 2 ^ x.n - 1 - 2 ^ x.id then { x with phase := 2 } else x

def mturnP (x : Md) (k f t : Int) : Md :=
  if k = 1 then { x with clock := x.clock + 1, req := x.req.set x.id (x.clock + 1), phase := 1 }
  else if k = 2 then { x with clock := x.clock + 1, req := x.req.set x.id 0, phase := 0, ack := 0 }
  else if k = 3 then { x with clock := max x.clock t + 1 + 1, req := x.req.set f.toNat t }
  else if k = 4 then { x with clock := max x.clock t + 1, ack := x.ack + 2 ^ f.toNat }
  else { x with clock := max x.clock t + 1, req := x.req.set f.toNat 0 }

def mstepP (x : Md) (k f t : Int) : (Int × Int × Int) × Md :=
  if vetP x k f t ≠ 0 then ((0, 0, vetP x k f t), x) else (((menterP (mturnP x k f t)).clock, (menterP (mturnP x k f t)).phase, 0), menterP (mturnP x k f t))

def mstepPost (w : World) (m c : Nat) (R : (Int × Int × Int) × Md) (e : Ending) (w' : World) : Prop :=
  e = .returned (.tuple #[.int .i64 R.1.1, .int .i64 R.1.2.1, .int .i64 R.1.2.2]) ∧ Chg (ownM m c) w w' ∧ RepM w' m c R.2

theorem pow4 (n : Nat) (h : n ≤ 4) : 1 ≤ (2 : Int) ^ n ∧ (2 : Int) ^ n ≤ 16 := by
  match n, h with
  | 0, _ => decide
  | 1, _ => decide
  | 2, _ => decide
  | 3, _ => decide
  | 4, _ => decide

set_option maxRecDepth 100000 in
set_option maxHeartbeats 2000000 in
theorem mstep_bad (w : World) (m c : Nat) (x : Md) (R : RepM w m c x) (k f t E : Int) (hE : (E == 0) = false) (hv : Calls Try.prog 58 #[ptr m, .int .i64 k, .int .i64 f, .int .i64 t] w fun e w' => e = .returned (.int .i64 E) ∧ Quiet w w') :
    Calls Try.prog 50 #[ptr m, .int .i64 k, .int .i64 f, .int .i64 t] w (mstepPost w m c ((0, 0, E), x)) := by
  have hE2 : (E != 0) = true := by rw [bne, hE]; rfl
  unfold ptr at *
  go_enter Try.func50, Try.ntmps50
  go_wp2_with fail
  refine hv.mono ?_
  rintro e w1 ⟨rfl, q1⟩
  go_wp2
  go_ret3
  exact ⟨rfl, Quiet.chg q1 _, R.quiet q1⟩


set_option maxRecDepth 100000 in
set_option maxHeartbeats 4000000 in
theorem mstep_2 (w : World) (m c : Nat) (x : Md) (R : RepM w m c x) (f t : Int) (hc0 : 0 ≤ x.clock) (hc1 : x.clock ≤ 1152921504606846976) (hv : Calls Try.prog 58 #[ptr m, .int .i64 2, .int .i64 f, .int .i64 t] w fun e w' => e = .returned (.int .i64 0) ∧ Quiet w w') :
    Calls Try.prog 50 #[ptr m, .int .i64 2, .int .i64 f, .int .i64 t] w (mstepPost w m c (((menterP (mturnP x 2 f t)).clock, (menterP (mturnP x 2 f t)).phase, 0), menterP (mturnP x 2 f t))) := by
  have hX1 : mturnP x 2 f t = { x with clock := x.clock + 1, req := x.req.set x.id 0, phase := 0, ack := 0 } := by simp [mturnP]
  unfold ptr at *
  go_enter Try.func50, Try.ntmps50
  go_wp2_with fail
  refine hv.mono ?_
  rintro e w1 ⟨rfl, q1⟩
  clear hv
  have Ra := R.quiet q1
  obtain ⟨c0, c1, c2, c3, c4, c5⟩ := Ra.cells
  have f2 := Ra.blk.frozen 2
  have hil := Ra.il
  have hri := Ra.r x.id Ra.il
  have nmc := Ra.mc
  have ncm := Ne.symm nmc
  have j0 : (0 : Int) ≤ (x.id : Int) := by omega
  have j1 : (x.id : Int) < (x.n : Int) := by omega
  have Rb := Ra.upd { x with clock := x.clock + 1 } 2 (.int .i64 (x.clock + 1)) rfl rfl rfl rfl
  have chb : Chg (ownM m c) w (w1.setCell ⟨m, 2, none⟩ (.int .i64 (x.clock + 1))) := own_m (Quiet.chg q1 _) _ _
  go_wp2
  clear c0 c1 c2 c3 c4 c5 f2 hri
  generalize w1.setCell ⟨m, 2, none⟩ (.int .i64 (x.clock + 1)) = w2 at Rb chb ⊢
  obtain ⟨c0, c1, c2, c3, c4, c5⟩ := Rb.cells
  simp only at c1 c5
  have hri := Rb.r x.id hil
  have fri := Rb.rb.frozen x.id
  generalize (({ x with clock := x.clock + 1 } : Md).req.getD x.id 0) = rv at *
  go_region_held3 (fun w' => w'.cell? ⟨m, 5, none⟩ = some (.slice (some ⟨c, 0, none⟩) x.n x.n) ∧ w'.cell? ⟨m, 1, none⟩ = some (.int .i64 x.id)) (first | exact ⟨cell_set_ne c5 (.inl nmc), cell_set_ne c1 (.inl nmc)⟩ | go_keep) (fail)
  rename_i hHeld
  clear hHeld
  have Rc := (Rb.setR x.id 0).quiet ((Chg.refl _ _).drew)
  have chc : Chg (ownM m c) w (w2.setCell ⟨c, x.id, none⟩ (.int .i64 0)).drew := (own_c chb _ _).drew
  clear c0 c1 c2 c3 c4 c5 hri fri
  generalize (w2.setCell ⟨c, x.id, none⟩ (.int .i64 0)).drew = w3 at Rc chc ⊢
  obtain ⟨c0, c1, c2, c3, c4, c5⟩ := Rc.cells
  have f3 := Rc.blk.frozen 3
  have f4 := Rc.blk.frozen 4
  have R1 := (Rc.upd { x with clock := x.clock + 1, req := x.req.set x.id 0, phase := 0 } 3 (.int .i64 0) rfl rfl rfl rfl).upd { x with clock := x.clock + 1, req := x.req.set x.id 0, phase := 0, ack := 0 } 4 (.int .i64 0) rfl rfl rfl rfl
  have ch1 : Chg (ownM m c) w ((w3.setCell ⟨m, 3, none⟩ (.int .i64 0)).setCell ⟨m, 4, none⟩ (.int .i64 0)) := own_m (own_m chc _ _) _ _
  go_wp2_with fail
  refine (least_any _ m c _ R1).mono ?_
  rintro e w9 ⟨rfl, q9⟩
  have R9 := R1.quiet q9
  have ch9 := ch1.trans (Quiet.chg q9 _)
  clear R1 ch1 q9
  have hme : Hid (menterP { x with clock := x.clock + 1, req := x.req.set x.id 0, phase := 0, ack := 0 } = if ({ x with clock := x.clock + 1, req := x.req.set x.id 0, phase := 0, ack := 0 }).phase = 1 ∧ leastTo ({ x with clock := x.clock + 1, req := x.req.set x.id 0, phase := 0, ack := 0 }).req ({ x with clock := x.clock + 1, req := x.req.set x.id 0, phase := 0, ack := 0 }).n = (({ x with clock := x.clock + 1, req := x.req.set x.id 0, phase := 0, ack := 0 }).id : Int) ∧ ({ x with clock := x.clock + 1, req := x.req.set x.id 0, phase := 0, ack := 0 }).ack = 2 ^ ({ x with clock := x.clock + 1, req := x.req.set x.id 0, phase := 0, ack := 0 }).n - 1 - 2 ^ ({ x with clock := x.clock + 1, req := x.req.set x.id 0, phase := 0, ack := 0 }).id then { ({ x with clock := x.clock + 1, req := x.req.set x.id 0, phase := 0, ack := 0 }) with phase := 2 } else { x with clock := x.clock + 1, req := x.req.set x.id 0, phase := 0, ack := 0 }) := rfl
  rw [hX1] at *
  generalize { x with clock := x.clock + 1, req := x.req.set x.id 0, phase := 0, ack := 0 } = y at *
  obtain ⟨c0, c1, c2, c3, c4, c5⟩ := R9.cells
  have f3 := R9.blk.frozen 3
  obtain ⟨pn1, pn2⟩ := pow4 y.n R9.n4
  obtain ⟨pi1, pi2⟩ := pow4 y.id (by have := R9.n4; have := R9.il; omega)
  have wn : wrap64 (2 ^ y.n) = 2 ^ y.n := by unfold wrap64; omega
  have wi : wrap64 (2 ^ y.id) = 2 ^ y.id := by unfold wrap64; omega
  have hn4 := R9.n4
  have hil := R9.il
  have kn0 : (0 : Int) ≤ (y.n : Int) := by omega
  have ki0 : (0 : Int) ≤ (y.id : Int) := by omega
  generalize leastTo y.req y.n = lt at *
  by_cases hph : y.phase = 1
  · have b1 : (y.phase == 1) = true := by simpa using hph
    by_cases hlt : lt = (y.id : Int)
    · have b2 : (lt == (y.id : Int)) = true := by simpa using hlt
      have w1 : IntKind.i64.wrap (2 ^ y.n - 1) = 2 ^ y.n - 1 := by rw [IntKind.wrap_i64]; omega
      have w2 : IntKind.i64.wrap (2 ^ y.n - 1 - 2 ^ y.id) = 2 ^ y.n - 1 - 2 ^ y.id := by rw [IntKind.wrap_i64]; omega
      by_cases hak : y.ack = 2 ^ y.n - 1 - 2 ^ y.id
      · have b3 : (y.ack == 2 ^ y.n - 1 - 2 ^ y.id) = true := by simpa using hak
        have hm2 := unhide hme
        rw [if_pos ⟨hph, hlt, hak⟩] at hm2
        have hmH := hide hm2
        clear hm2 hph hlt hak
        go_wp2
        go_big_quiet (fail)
        have R8 := (R9.quiet ((Chg.refl _ w9).drewN nq)).upd { y with phase := 2 } 3 (.int .i64 2) rfl rfl rfl rfl
        go_wp2
        go_big_quiet (fail)
        go_wp2
        go_ret3
        rw [unhide hmH]
        exact ⟨rfl, (own_m (ch9.drewN _) _ _).drewN _, R8.quiet ((Chg.refl _ _).drewN _)⟩
      · have b3 : (y.ack == 2 ^ y.n - 1 - 2 ^ y.id) = false := by simpa using hak
        have hm2 := unhide hme
        rw [if_neg (fun h => hak h.2.2)] at hm2
        have hmH := hide hm2
        clear hm2 hph hlt hak
        go_wp2
        go_big_quiet (fail)
        go_wp2
        go_big_quiet (fail)
        go_wp2
        go_ret3
        rw [unhide hmH]
        exact ⟨rfl, (ch9.drewN _).drewN _, (R9.quiet ((Chg.refl _ _).drewN _)).quiet ((Chg.refl _ _).drewN _)⟩
    · have b2 : (lt == (y.id : Int)) = false := by simpa using hlt
      have hm2 := unhide hme
      rw [if_neg (fun h => hlt h.2.1)] at hm2
      have hmH := hide hm2
      clear hm2 hph hlt
      go_wp2
      go_big_quiet (fail)
      go_wp2
      go_big_quiet (fail)
      go_wp2
      go_ret3
      rw [unhide hmH]
      exact ⟨rfl, (ch9.drewN _).drewN _, (R9.quiet ((Chg.refl _ _).drewN _)).quiet ((Chg.refl _ _).drewN _)⟩
  · have b1 : (y.phase == 1) = false := by simpa using hph
    have hm2 := unhide hme
    rw [if_neg (fun h => hph h.1)] at hm2
    have hmH := hide hm2
    clear hm2 hph
    go_wp2
    go_big_quiet (fail)
    go_wp2
    go_big_quiet (fail)
    go_wp2
    go_ret3
    rw [unhide hmH]
    exact ⟨rfl, (ch9.drewN _).drewN _, (R9.quiet ((Chg.refl _ _).drewN _)).quiet ((Chg.refl _ _).drewN _)⟩


set_option maxRecDepth 100000 in
set_option maxHeartbeats 4000000 in
theorem mstep_1 (w : World) (m c : Nat) (x : Md) (R : RepM w m c x) (f : Int) (t : Int) (hc0 : 0 ≤ x.clock) (hc1 : x.clock ≤ 1152921504606846976) (hv : Calls Try.prog 58 #[ptr m, .int .i64 1, .int .i64 f, .int .i64 t] w fun e w' => e = .returned (.int .i64 0) ∧ Quiet w w') :
    Calls Try.prog 50 #[ptr m, .int .i64 1, .int .i64 f, .int .i64 t] w (mstepPost w m c (((menterP (mturnP x 1 f t)).clock, (menterP (mturnP x 1 f t)).phase, 0), menterP (mturnP x 1 f t))) := by
  have hX1 : mturnP x 1 f t = { x with clock := x.clock + 1, req := x.req.set x.id (x.clock + 1), phase := 1 } := by simp [mturnP]
  unfold ptr at *
  go_enter Try.func50, Try.ntmps50
  go_wp2_with fail
  refine hv.mono ?_
  rintro e w1 ⟨rfl, q1⟩
  clear hv
  have Ra := R.quiet q1
  obtain ⟨c0, c1, c2, c3, c4, c5⟩ := Ra.cells
  have f2 := Ra.blk.frozen 2
  have hil := Ra.il
  have hn4 := Ra.n4
  have nmc := Ra.mc
  have ncm := Ne.symm nmc
  have j0 : (0 : Int) ≤ (x.id : Int) := by omega
  have j1 : (x.id : Int) < (x.n : Int) := by omega
  have hri := Ra.r x.id Ra.il
  have Rb := Ra.upd { x with clock := x.clock + 1 } 2 (.int .i64 (x.clock + 1)) rfl rfl rfl rfl
  have chb : Chg (ownM m c) w (w1.setCell ⟨m, 2, none⟩ (.int .i64 (x.clock + 1))) := own_m (Quiet.chg q1 _) _ _
  go_wp2
  clear c0 c1 c2 c3 c4 c5 f2 hri
  generalize w1.setCell ⟨m, 2, none⟩ (.int .i64 (x.clock + 1)) = w2 at Rb chb ⊢
  obtain ⟨c0, c1, c2, c3, c4, c5⟩ := Rb.cells
  simp only at c1 c5 c2
  have hri := Rb.r x.id hil
  have fri := Rb.rb.frozen x.id
  generalize (({ x with clock := x.clock + 1 } : Md).req.getD x.id 0) = rv at *
  go_region_held3 (fun w' => w'.cell? ⟨m, 5, none⟩ = some (.slice (some ⟨c, 0, none⟩) x.n x.n) ∧ w'.cell? ⟨m, 1, none⟩ = some (.int .i64 x.id) ∧ w'.cell? ⟨m, 2, none⟩ = some (.int .i64 (x.clock + 1))) (first | exact ⟨cell_set_ne c5 (.inl nmc), cell_set_ne c1 (.inl nmc), cell_set_ne c2 (.inl nmc)⟩ | go_keep) (fail)
  rename_i hHeld
  clear hHeld
  have Rc := (Rb.setR x.id (x.clock + 1)).quiet ((Chg.refl _ _).drew)
  have chc : Chg (ownM m c) w (w2.setCell ⟨c, x.id, none⟩ (.int .i64 (x.clock + 1))).drew := (own_c chb _ _).drew
  clear c0 c1 c2 c3 c4 c5 hri fri
  generalize (w2.setCell ⟨c, x.id, none⟩ (.int .i64 (x.clock + 1))).drew = w3 at Rc chc ⊢
  obtain ⟨c0, c1, c2, c3, c4, c5⟩ := Rc.cells
  have f3 := Rc.blk.frozen 3
  have R1 := Rc.upd { x with clock := x.clock + 1, req := x.req.set x.id (x.clock + 1), phase := 1 } 3 (.int .i64 1) rfl rfl rfl rfl
  have ch1 : Chg (ownM m c) w (w3.setCell ⟨m, 3, none⟩ (.int .i64 1)) := own_m chc _ _
  go_wp2_with fail
  refine (least_any _ m c _ R1).mono ?_
  rintro e w9 ⟨rfl, q9⟩
  have R9 := R1.quiet q9
  have ch9 := ch1.trans (Quiet.chg q9 _)
  clear R1 ch1 q9
  have hme : Hid (menterP { x with clock := x.clock + 1, req := x.req.set x.id (x.clock + 1), phase := 1 } = if ({ x with clock := x.clock + 1, req := x.req.set x.id (x.clock + 1), phase := 1 }).phase = 1 ∧ leastTo ({ x with clock := x.clock + 1, req := x.req.set x.id (x.clock + 1), phase := 1 }).req ({ x with clock := x.clock + 1, req := x.req.set x.id (x.clock + 1), phase := 1 }).n = (({ x with clock := x.clock + 1, req := x.req.set x.id (x.clock + 1), phase := 1 }).id : Int) ∧ ({ x with clock := x.clock + 1, req := x.req.set x.id (x.clock + 1), phase := 1 }).ack = 2 ^ ({ x with clock := x.clock + 1, req := x.req.set x.id (x.clock + 1), phase := 1 }).n - 1 - 2 ^ ({ x with clock := x.clock + 1, req := x.req.set x.id (x.clock + 1), phase := 1 }).id then { ({ x with clock := x.clock + 1, req := x.req.set x.id (x.clock + 1), phase := 1 }) with phase := 2 } else { x with clock := x.clock + 1, req := x.req.set x.id (x.clock + 1), phase := 1 }) := rfl
  rw [hX1] at *
  generalize { x with clock := x.clock + 1, req := x.req.set x.id (x.clock + 1), phase := 1 } = y at *
  obtain ⟨c0, c1, c2, c3, c4, c5⟩ := R9.cells
  have f3 := R9.blk.frozen 3
  obtain ⟨pn1, pn2⟩ := pow4 y.n R9.n4
  obtain ⟨pi1, pi2⟩ := pow4 y.id (by have := R9.n4; have := R9.il; omega)
  have wn : wrap64 (2 ^ y.n) = 2 ^ y.n := by unfold wrap64; omega
  have wi : wrap64 (2 ^ y.id) = 2 ^ y.id := by unfold wrap64; omega
  have hn4 := R9.n4
  have hil := R9.il
  have kn0 : (0 : Int) ≤ (y.n : Int) := by omega
  have ki0 : (0 : Int) ≤ (y.id : Int) := by omega
  generalize leastTo y.req y.n = lt at *
  by_cases hph : y.phase = 1
  · have b1 : (y.phase == 1) = true := by simpa using hph
    by_cases hlt : lt = (y.id : Int)
    · have b2 : (lt == (y.id : Int)) = true := by simpa using hlt
      have w1 : IntKind.i64.wrap (2 ^ y.n - 1) = 2 ^ y.n - 1 := by rw [IntKind.wrap_i64]; omega
      have w2 : IntKind.i64.wrap (2 ^ y.n - 1 - 2 ^ y.id) = 2 ^ y.n - 1 - 2 ^ y.id := by rw [IntKind.wrap_i64]; omega
      by_cases hak : y.ack = 2 ^ y.n - 1 - 2 ^ y.id
      · have b3 : (y.ack == 2 ^ y.n - 1 - 2 ^ y.id) = true := by simpa using hak
        have hm2 := unhide hme
        rw [if_pos ⟨hph, hlt, hak⟩] at hm2
        have hmH := hide hm2
        clear hm2 hph hlt hak
        go_wp2
        go_big_quiet (fail)
        have R8 := (R9.quiet ((Chg.refl _ w9).drewN nq)).upd { y with phase := 2 } 3 (.int .i64 2) rfl rfl rfl rfl
        go_wp2
        go_big_quiet (fail)
        go_wp2
        go_ret3
        rw [unhide hmH]
        exact ⟨rfl, (own_m (ch9.drewN _) _ _).drewN _, R8.quiet ((Chg.refl _ _).drewN _)⟩
      · have b3 : (y.ack == 2 ^ y.n - 1 - 2 ^ y.id) = false := by simpa using hak
        have hm2 := unhide hme
        rw [if_neg (fun h => hak h.2.2)] at hm2
        have hmH := hide hm2
        clear hm2 hph hlt hak
        go_wp2
        go_big_quiet (fail)
        go_wp2
        go_big_quiet (fail)
        go_wp2
        go_ret3
        rw [unhide hmH]
        exact ⟨rfl, (ch9.drewN _).drewN _, (R9.quiet ((Chg.refl _ _).drewN _)).quiet ((Chg.refl _ _).drewN _)⟩
    · have b2 : (lt == (y.id : Int)) = false := by simpa using hlt
      have hm2 := unhide hme
      rw [if_neg (fun h => hlt h.2.1)] at hm2
      have hmH := hide hm2
      clear hm2 hph hlt
      go_wp2
      go_big_quiet (fail)
      go_wp2
      go_big_quiet (fail)
      go_wp2
      go_ret3
      rw [unhide hmH]
      exact ⟨rfl, (ch9.drewN _).drewN _, (R9.quiet ((Chg.refl _ _).drewN _)).quiet ((Chg.refl _ _).drewN _)⟩
  · have b1 : (y.phase == 1) = false := by simpa using hph
    have hm2 := unhide hme
    rw [if_neg (fun h => hph h.1)] at hm2
    have hmH := hide hm2
    clear hm2 hph
    go_wp2
    go_big_quiet (fail)
    go_wp2
    go_big_quiet (fail)
    go_wp2
    go_ret3
    rw [unhide hmH]
    exact ⟨rfl, (ch9.drewN _).drewN _, (R9.quiet ((Chg.refl _ _).drewN _)).quiet ((Chg.refl _ _).drewN _)⟩

end Go.Proofs.Qxb6500367a
