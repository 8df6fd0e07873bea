/-
  Step.
-/
import Derived.Test.Qxb6500367aQuit
namespace Go.Proofs.Qxb6500367a
open Go.RowKit Go.Qx
set_option linter.unusedSimpArgs false
set_option linter.unusedVariables false

/-- What Step wants: nothing wraps, the queue has room. -/
structure Fits (s : Nd) (k f : Int) : Prop where
  c0 : 0 ≤ s.clock
  a0 : 0 ≤ s.acks
  a1 : s.acks ≤ 100
  ask : k = 1 → s.phase = 0 → s.q.length < s.n
  req : k = 3 → heldP s.q f = 0 → s.q.length < s.n

def stepPost (w : World) (x a b : Nat) (R : (Int × Int × Int) × Nd) (e : Ending) (w' : World) : Prop :=
  e = .returned (.tuple #[.int .i64 R.1.1, .int .i64 R.1.2.1, .int .i64 R.1.2.2]) ∧ Chg (own x a b) w w' ∧ Rep w' x a b R.2

set_option maxRecDepth 100000 in
set_option maxHeartbeats 2000000 in
theorem step_kind (w : World) (x a b : Nat) (s : Nd) (r : Rep w x a b s) (k f t : Int) (h : k < 1 ∨ 5 < k) : Calls Try.prog 20 #[ptr x, .int .i64 k, .int .i64 f, .int .i64 t] w (stepPost w x a b ((0, 0, 2), s)) := by
  unfold ptr
  have h' : k < 1 ∨ (1 ≤ k ∧ 5 < k) := by omega
  clear h
  rcases h' with h | ⟨h, h2⟩
  all_goals
    go_enter Try.func20, Try.ntmps20
    go_wp2
    go_ret3
    exact ⟨rfl, Chg.refl _ _, r⟩

set_option maxRecDepth 100000 in
set_option maxHeartbeats 2000000 in
theorem step_peer (w : World) (x a b : Nat) (s : Nd) (r : Rep w x a b s) (k f t : Int) (h1 : 3 ≤ k) (h2 : k ≤ 5) (h : f < 0 ∨ (s.n : Int) ≤ f ∨ f = s.id) : Calls Try.prog 20 #[ptr x, .int .i64 k, .int .i64 f, .int .i64 t] w (stepPost w x a b ((0, 0, 3), s)) := by
  obtain ⟨c0, c1, c2, c3, c4, c5, c6, c7⟩ := r.cells
  have hil := r.il
  unfold ptr
  have h3 : (1 : Int) ≤ k := by omega
  have h' : f < 0 ∨ (0 ≤ f ∧ (s.n : Int) ≤ f) ∨ (0 ≤ f ∧ f < (s.n : Int) ∧ (f == (s.id : Int)) = true) := by
    by_cases g : f < 0
    · exact .inl g
    · by_cases g2 : (s.n : Int) ≤ f
      · exact .inr (.inl ⟨by omega, g2⟩)
      · refine .inr (.inr ⟨by omega, by omega, ?_⟩)
        rw [beq_iff_eq]; omega
  clear h
  rcases h' with h | ⟨h, h4⟩ | ⟨h, h4, h5⟩
  all_goals
    go_enter Try.func20, Try.ntmps20
    go_wp2
    go_ret3
    exact ⟨rfl, Chg.refl _ _, r⟩

set_option maxRecDepth 100000 in
set_option maxHeartbeats 2000000 in
theorem step_time (w : World) (x a b : Nat) (s : Nd) (r : Rep w x a b s) (k f t : Int) (h1 : 1 ≤ k) (h2 : k ≤ 5) (hp : 3 ≤ k → 0 ≤ f ∧ f < (s.n : Int) ∧ (f == (s.id : Int)) = false) (h : 1152921504606846976 < s.clock ∨ (3 ≤ k ∧ (t < 1 ∨ 1152921504606846976 < t))) : Calls Try.prog 20 #[ptr x, .int .i64 k, .int .i64 f, .int .i64 t] w (stepPost w x a b ((0, 0, 4), s)) := by
  obtain ⟨c0, c1, c2, c3, c4, c5, c6, c7⟩ := r.cells
  unfold ptr
  by_cases g3 : 3 ≤ k
  · obtain ⟨p0, p1, p2⟩ := hp g3
    clear hp
    have h' : 1152921504606846976 < s.clock ∨ (s.clock ≤ 1152921504606846976 ∧ t < 1) ∨ (s.clock ≤ 1152921504606846976 ∧ 1 ≤ t ∧ 1152921504606846976 < t) := by omega
    clear h
    rcases h' with h | ⟨h, h4⟩ | ⟨h, h4, h5⟩
    all_goals
      go_enter Try.func20, Try.ntmps20
      go_wp2
      go_ret3
      exact ⟨rfl, Chg.refl _ _, r⟩
  · clear hp
    have g4 : k < 3 := by omega
    have h' : 1152921504606846976 < s.clock := by omega
    clear h g3
    go_enter Try.func20, Try.ntmps20
    go_wp2
    go_ret3
    exact ⟨rfl, Chg.refl _ _, r⟩

set_option maxRecDepth 100000 in
set_option maxHeartbeats 2000000 in
theorem step_ok1 (w : World) (x a b : Nat) (s : Nd) (r : Rep w x a b s) (f t : Int) (hc : s.clock ≤ 1152921504606846976) (E : Int × Nd)
    (hev : Calls Try.prog 33 #[ptr x] w fun e w' => e = .returned (.int .i64 E.1) ∧ Chg (own x a b) w w' ∧ Rep w' x a b E.2) :
    Calls Try.prog 20 #[ptr x, .int .i64 1, .int .i64 f, .int .i64 t] w (stepPost w x a b (if E.1 ≠ 0 then ((0, 0, E.1), E.2) else (((enterP E.2).clock, (enterP E.2).phase, 0), enterP E.2))) := by
  obtain ⟨c0, c1, c2, c3, c4, c5, c6, c7⟩ := r.cells
  obtain ⟨E, s1⟩ := E
  simp only at hev ⊢
  by_cases g : E = 0
  · subst g
    rw [if_neg (by simp)]
    unfold ptr at *
    go_enter Try.func20, Try.ntmps20
    go_wp2_with fail
    refine hev.mono ?_
    rintro e w2 ⟨rfl, ch2, r2⟩
    clear hev
    go_wp2_with fail
    refine (enter_any w2 x a b s1 r2).mono ?_
    rintro e w3 ⟨rfl, ch3, r3⟩
    obtain ⟨_, _, k2, k3, _, _, _, _⟩ := r3.cells
    go_wp2
    go_big_quiet (fail)
    go_wp2
    go_ret3
    exact ⟨rfl, (ch2.trans ch3).drewN _, r3.quiet ((Chg.refl _ _).drewN _)⟩
  · rw [if_pos g]
    have b1 : (E == 0) = false := by simpa using g
    clear g
    unfold ptr at *
    go_enter Try.func20, Try.ntmps20
    go_wp2_with fail
    refine hev.mono ?_
    rintro e w2 ⟨rfl, ch2, r2⟩
    clear hev
    go_wp2
    go_ret3
    exact ⟨rfl, ch2, r2⟩

set_option maxRecDepth 100000 in
set_option maxHeartbeats 2000000 in
theorem step_ok2 (w : World) (x a b : Nat) (s : Nd) (r : Rep w x a b s) (f t : Int) (hc : s.clock ≤ 1152921504606846976) (E : Int × Nd)
    (hev : Calls Try.prog 34 #[ptr x] w fun e w' => e = .returned (.int .i64 E.1) ∧ Chg (own x a b) w w' ∧ Rep w' x a b E.2) :
    Calls Try.prog 20 #[ptr x, .int .i64 2, .int .i64 f, .int .i64 t] w (stepPost w x a b (if E.1 ≠ 0 then ((0, 0, E.1), E.2) else (((enterP E.2).clock, (enterP E.2).phase, 0), enterP E.2))) := by
  obtain ⟨c0, c1, c2, c3, c4, c5, c6, c7⟩ := r.cells
  obtain ⟨E, s1⟩ := E
  simp only at hev ⊢
  by_cases g : E = 0
  · subst g
    rw [if_neg (by simp)]
    unfold ptr at *
    go_enter Try.func20, Try.ntmps20
    go_wp2_with fail
    refine hev.mono ?_
    rintro e w2 ⟨rfl, ch2, r2⟩
    clear hev
    go_wp2_with fail
    refine (enter_any w2 x a b s1 r2).mono ?_
    rintro e w3 ⟨rfl, ch3, r3⟩
    obtain ⟨_, _, k2, k3, _, _, _, _⟩ := r3.cells
    go_wp2
    go_big_quiet (fail)
    go_wp2
    go_ret3
    exact ⟨rfl, (ch2.trans ch3).drewN _, r3.quiet ((Chg.refl _ _).drewN _)⟩
  · rw [if_pos g]
    have b1 : (E == 0) = false := by simpa using g
    clear g
    unfold ptr at *
    go_enter Try.func20, Try.ntmps20
    go_wp2_with fail
    refine hev.mono ?_
    rintro e w2 ⟨rfl, ch2, r2⟩
    clear hev
    go_wp2
    go_ret3
    exact ⟨rfl, ch2, r2⟩

set_option maxRecDepth 100000 in
set_option maxHeartbeats 2000000 in
theorem step_ok3 (w : World) (x a b : Nat) (s : Nd) (r : Rep w x a b s) (f t : Int) (p0 : 0 ≤ f) (p1 : f < (s.n : Int)) (p2 : (f == (s.id : Int)) = false) (t1 : 1 ≤ t) (t2 : t ≤ 1152921504606846976) (hc : s.clock ≤ 1152921504606846976) (E : Int × Nd)
    (hev : Calls Try.prog 35 #[ptr x, .int .i64 f, .int .i64 t] w fun e w' => e = .returned (.int .i64 E.1) ∧ Chg (own x a b) w w' ∧ Rep w' x a b E.2) :
    Calls Try.prog 20 #[ptr x, .int .i64 3, .int .i64 f, .int .i64 t] w (stepPost w x a b (if E.1 ≠ 0 then ((0, 0, E.1), E.2) else (((enterP E.2).clock, (enterP E.2).phase, 0), enterP E.2))) := by
  obtain ⟨c0, c1, c2, c3, c4, c5, c6, c7⟩ := r.cells
  obtain ⟨E, s1⟩ := E
  simp only at hev ⊢
  by_cases g : E = 0
  · subst g
    rw [if_neg (by simp)]
    unfold ptr at *
    go_enter Try.func20, Try.ntmps20
    go_wp2_with fail
    refine hev.mono ?_
    rintro e w2 ⟨rfl, ch2, r2⟩
    clear hev
    go_wp2_with fail
    refine (enter_any w2 x a b s1 r2).mono ?_
    rintro e w3 ⟨rfl, ch3, r3⟩
    obtain ⟨_, _, k2, k3, _, _, _, _⟩ := r3.cells
    go_wp2
    go_big_quiet (fail)
    go_wp2
    go_ret3
    exact ⟨rfl, (ch2.trans ch3).drewN _, r3.quiet ((Chg.refl _ _).drewN _)⟩
  · rw [if_pos g]
    have b1 : (E == 0) = false := by simpa using g
    clear g
    unfold ptr at *
    go_enter Try.func20, Try.ntmps20
    go_wp2_with fail
    refine hev.mono ?_
    rintro e w2 ⟨rfl, ch2, r2⟩
    clear hev
    go_wp2
    go_ret3
    exact ⟨rfl, ch2, r2⟩

set_option maxRecDepth 100000 in
set_option maxHeartbeats 2000000 in
theorem step_ok4 (w : World) (x a b : Nat) (s : Nd) (r : Rep w x a b s) (f t : Int) (p0 : 0 ≤ f) (p1 : f < (s.n : Int)) (p2 : (f == (s.id : Int)) = false) (t1 : 1 ≤ t) (t2 : t ≤ 1152921504606846976) (hc : s.clock ≤ 1152921504606846976) (E : Int × Nd)
    (hev : Calls Try.prog 36 #[ptr x, .int .i64 f, .int .i64 t] w fun e w' => e = .returned (.int .i64 E.1) ∧ Chg (own x a b) w w' ∧ Rep w' x a b E.2) :
    Calls Try.prog 20 #[ptr x, .int .i64 4, .int .i64 f, .int .i64 t] w (stepPost w x a b (if E.1 ≠ 0 then ((0, 0, E.1), E.2) else (((enterP E.2).clock, (enterP E.2).phase, 0), enterP E.2))) := by
  obtain ⟨c0, c1, c2, c3, c4, c5, c6, c7⟩ := r.cells
  obtain ⟨E, s1⟩ := E
  simp only at hev ⊢
  by_cases g : E = 0
  · subst g
    rw [if_neg (by simp)]
    unfold ptr at *
    go_enter Try.func20, Try.ntmps20
    go_wp2_with fail
    refine hev.mono ?_
    rintro e w2 ⟨rfl, ch2, r2⟩
    clear hev
    go_wp2_with fail
    refine (enter_any w2 x a b s1 r2).mono ?_
    rintro e w3 ⟨rfl, ch3, r3⟩
    obtain ⟨_, _, k2, k3, _, _, _, _⟩ := r3.cells
    go_wp2
    go_big_quiet (fail)
    go_wp2
    go_ret3
    exact ⟨rfl, (ch2.trans ch3).drewN _, r3.quiet ((Chg.refl _ _).drewN _)⟩
  · rw [if_pos g]
    have b1 : (E == 0) = false := by simpa using g
    clear g
    unfold ptr at *
    go_enter Try.func20, Try.ntmps20
    go_wp2_with fail
    refine hev.mono ?_
    rintro e w2 ⟨rfl, ch2, r2⟩
    clear hev
    go_wp2
    go_ret3
    exact ⟨rfl, ch2, r2⟩

set_option maxRecDepth 100000 in
set_option maxHeartbeats 2000000 in
theorem step_ok5 (w : World) (x a b : Nat) (s : Nd) (r : Rep w x a b s) (f t : Int) (p0 : 0 ≤ f) (p1 : f < (s.n : Int)) (p2 : (f == (s.id : Int)) = false) (t1 : 1 ≤ t) (t2 : t ≤ 1152921504606846976) (hc : s.clock ≤ 1152921504606846976) (E : Int × Nd)
    (hev : Calls Try.prog 37 #[ptr x, .int .i64 f, .int .i64 t] w fun e w' => e = .returned (.int .i64 E.1) ∧ Chg (own x a b) w w' ∧ Rep w' x a b E.2) :
    Calls Try.prog 20 #[ptr x, .int .i64 5, .int .i64 f, .int .i64 t] w (stepPost w x a b (if E.1 ≠ 0 then ((0, 0, E.1), E.2) else (((enterP E.2).clock, (enterP E.2).phase, 0), enterP E.2))) := by
  obtain ⟨c0, c1, c2, c3, c4, c5, c6, c7⟩ := r.cells
  obtain ⟨E, s1⟩ := E
  simp only at hev ⊢
  by_cases g : E = 0
  · subst g
    rw [if_neg (by simp)]
    unfold ptr at *
    go_enter Try.func20, Try.ntmps20
    go_wp2_with fail
    refine hev.mono ?_
    rintro e w2 ⟨rfl, ch2, r2⟩
    clear hev
    go_wp2_with fail
    refine (enter_any w2 x a b s1 r2).mono ?_
    rintro e w3 ⟨rfl, ch3, r3⟩
    obtain ⟨_, _, k2, k3, _, _, _, _⟩ := r3.cells
    go_wp2
    go_big_quiet (fail)
    go_wp2
    go_ret3
    exact ⟨rfl, (ch2.trans ch3).drewN _, r3.quiet ((Chg.refl _ _).drewN _)⟩
  · rw [if_pos g]
    have b1 : (E == 0) = false := by simpa using g
    clear g
    unfold ptr at *
    go_enter Try.func20, Try.ntmps20
    go_wp2_with fail
    refine hev.mono ?_
    rintro e w2 ⟨rfl, ch2, r2⟩
    clear hev
    go_wp2
    go_ret3
    exact ⟨rfl, ch2, r2⟩

theorem step_any (w : World) (x a b : Nat) (s : Nd) (r : Rep w x a b s) (k f t : Int) (hF : Fits s k f) : Calls Try.prog 20 #[ptr x, .int .i64 k, .int .i64 f, .int .i64 t] w (stepPost w x a b (stepP s k f t)) := by
  unfold stepP errP
  by_cases h1 : k < 1 ∨ 5 < k
  · simp only [h1, if_true, if_pos]
    exact step_kind w x a b s r k f t h1
  · by_cases h2 : 3 ≤ k ∧ (f < 0 ∨ (s.n : Int) ≤ f ∨ f = s.id)
    · simp only [h1, h2, if_true, if_false]
      exact step_peer w x a b s r k f t h2.1 (by omega) h2.2
    · have hp : 3 ≤ k → 0 ≤ f ∧ f < (s.n : Int) ∧ (f == (s.id : Int)) = false := by
        intro h3
        refine ⟨by omega, by omega, ?_⟩
        rw [beq_eq_false_iff_ne]; intro h4; exact h2 ⟨h3, .inr (.inr h4)⟩
      by_cases h3 : 1152921504606846976 < s.clock
      · simp only [h1, h2, h3, if_true, if_false]
        exact step_time w x a b s r k f t (by omega) (by omega) hp (.inl h3)
      · by_cases h4 : 3 ≤ k ∧ (t < 1 ∨ 1152921504606846976 < t)
        · rw [if_neg h1, if_neg h2, if_neg h3, if_pos h4]
          exact step_time w x a b s r k f t (by omega) (by omega) hp (.inr h4)
        · rw [if_neg h1, if_neg h2, if_neg h3, if_neg h4]
          simp only [ne_eq, not_true_eq_false, if_false]
          have hk : k = 1 ∨ k = 2 ∨ k = 3 ∨ k = 4 ∨ k = 5 := by omega
          have hc : s.clock ≤ 1152921504606846976 := by omega
          rcases hk with rfl | rfl | rfl | rfl | rfl
          · exact step_ok1 w x a b s r f t hc (askP s) (ask_any w x a b s r hF.c0 hc (hF.ask rfl))
          · exact step_ok2 w x a b s r f t hc (quitP s) (quit_any w x a b s r hF.c0 hc)
          · obtain ⟨p0, p1, p2⟩ := hp (by omega)
            exact step_ok3 w x a b s r f t p0 p1 p2 (by omega) (by omega) hc (reqP s f t) (request_any w x a b s r hF.c0 hc f t (by omega) (by omega) (hF.req rfl))
          · obtain ⟨p0, p1, p2⟩ := hp (by omega)
            obtain ⟨g, rfl⟩ : ∃ g : Nat, f = g := ⟨f.toNat, by omega⟩
            exact step_ok4 w x a b s r g t p0 p1 p2 (by omega) (by omega) hc (ackP s g t) (answer_any w x a b s r hF.c0 hc g (by omega) t (by omega) (by omega) hF.a0 hF.a1)
          · obtain ⟨p0, p1, p2⟩ := hp (by omega)
            exact step_ok5 w x a b s r f t p0 p1 p2 (by omega) (by omega) hc (relP s f t) (release_any w x a b s r hF.c0 hc f t (by omega) (by omega))
end Go.Proofs.Qxb6500367a
