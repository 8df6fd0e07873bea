/-
  The abstract node: vet.
-/
import Derived.Test.Qxb6500367aMod
namespace Go.Proofs.Qxb6500367a
open Go.RowKit Go.Qx
set_option linter.unusedSimpArgs false
set_option linter.unusedVariables false

/-- Node f has answered. -/
def ackOf (ack : Int) (f : Nat) : Bool := decide (ack / 2 ^ f % 2 = 1)

theorem and_bit_all : ∀ f, f < 4 → ∀ a, a < 16 → (bits BinOp.and IntKind.i64 ((a : Nat) : Int) (wrap64 (2 ^ f)) == 0) = !ackOf (a : Int) f := by decide +kernel

theorem and_bit (f : Nat) (hf : f < 4) (a : Int) (h0 : 0 ≤ a) (h1 : a < 16) : (bits BinOp.and IntKind.i64 a (wrap64 (2 ^ f)) == 0) = !ackOf a f := by
  obtain ⟨u, rfl⟩ : ∃ u : Nat, a = u := ⟨a.toNat, by omega⟩
  exact and_bit_all f hf u (by omega)

def fitsP (x : Md) (k : Int) (f : Int) (t : Int) : Bool :=
  if k = 1 then decide (x.phase = 0)
  else if k = 2 then decide (x.phase = 2)
  else if k = 3 then decide (x.req.getD f.toNat 0 = 0)
  else if k = 4 then decide (x.phase = 1) && !ackOf x.ack f.toNat && decide (x.req.getD x.id 0 < t)
  else decide (x.req.getD f.toNat 0 ≠ 0)

def vetP (x : Md) (k f t : Int) : Int :=
  if k < 1 ∨ 5 < k then 2
  else if 3 ≤ k ∧ (f < 0 ∨ (x.n : Int) ≤ f ∨ f = x.id) then 3
  else if 1152921504606846976 < x.clock then 4
  else if 3 ≤ k ∧ (t < 1 ∨ 1152921504606846976 < t) then 4
  else if fitsP x k f t then 0 else 5

set_option maxRecDepth 100000 in
set_option maxHeartbeats 2000000 in
theorem vet_kind (w : World) (m c : Nat) (x : Md) (R : RepM w m c x) (k f t : Int) (h : k < 1 ∨ 5 < k) : Calls Try.prog 58 #[ptr m, .int .i64 k, .int .i64 f, .int .i64 t] w fun e w' => e = .returned (.int .i64 2) ∧ Quiet w w' := by
  unfold ptr
  have h' : k < 1 ∨ (1 ≤ k ∧ 5 < k) := by omega
  clear h
  rcases h' with h | ⟨h, h2⟩
  all_goals
    go_enter Try.func58, Try.ntmps58
    go_wp2
    go_ret
    exact ⟨rfl, Chg.refl _ _⟩

set_option maxRecDepth 100000 in
set_option maxHeartbeats 2000000 in
theorem vet_peer (w : World) (m c : Nat) (x : Md) (R : RepM w m c x) (k f t : Int) (h1 : 3 ≤ k) (h2 : k ≤ 5) (h : f < 0 ∨ (x.n : Int) ≤ f ∨ f = x.id) : Calls Try.prog 58 #[ptr m, .int .i64 k, .int .i64 f, .int .i64 t] w fun e w' => e = .returned (.int .i64 3) ∧ Quiet w w' := by
  obtain ⟨c0, c1, c2, c3, c4, c5⟩ := R.cells
  have hil := R.il
  unfold ptr
  have h3 : (1 : Int) ≤ k := by omega
  have h' : f < 0 ∨ (0 ≤ f ∧ (x.n : Int) ≤ f) ∨ (0 ≤ f ∧ f < (x.n : Int) ∧ (f == (x.id : Int)) = true) := by
    by_cases g : f < 0
    · exact .inl g
    · by_cases g2 : (x.n : Int) ≤ f
      · exact .inr (.inl ⟨by omega, g2⟩)
      · refine .inr (.inr ⟨by omega, by omega, ?_⟩)
        rw [beq_iff_eq]; omega
  clear h
  rcases h' with h | ⟨h, h4⟩ | ⟨h, h4, h5⟩
  all_goals
    go_enter Try.func58, Try.ntmps58
    go_wp2
    go_ret
    exact ⟨rfl, Chg.refl _ _⟩

set_option maxRecDepth 100000 in
set_option maxHeartbeats 2000000 in
theorem vet_time (w : World) (m c : Nat) (x : Md) (R : RepM w m c x) (k f t : Int) (h1 : 1 ≤ k) (h2 : k ≤ 5) (hp : 3 ≤ k → 0 ≤ f ∧ f < (x.n : Int) ∧ (f == (x.id : Int)) = false) (h : 1152921504606846976 < x.clock ∨ (3 ≤ k ∧ (t < 1 ∨ 1152921504606846976 < t))) : Calls Try.prog 58 #[ptr m, .int .i64 k, .int .i64 f, .int .i64 t] w fun e w' => e = .returned (.int .i64 4) ∧ Quiet w w' := by
  obtain ⟨c0, c1, c2, c3, c4, c5⟩ := R.cells
  unfold ptr
  by_cases g3 : 3 ≤ k
  · obtain ⟨p0, p1, p2⟩ := hp g3
    clear hp
    have h' : 1152921504606846976 < x.clock ∨ (x.clock ≤ 1152921504606846976 ∧ t < 1) ∨ (x.clock ≤ 1152921504606846976 ∧ 1 ≤ t ∧ 1152921504606846976 < t) := by omega
    clear h
    rcases h' with h | ⟨h, h4⟩ | ⟨h, h4, h5⟩
    all_goals
      go_enter Try.func58, Try.ntmps58
      go_wp2
      go_ret
      exact ⟨rfl, Chg.refl _ _⟩
  · clear hp
    have g4 : k < 3 := by omega
    have h' : 1152921504606846976 < x.clock := by omega
    clear h g3
    go_enter Try.func58, Try.ntmps58
    go_wp2
    go_ret
    exact ⟨rfl, Chg.refl _ _⟩

/-- 0 where it fits, 5 where it does not. -/
def okErr (b : Bool) : Int := if b then 0 else 5

set_option maxRecDepth 100000 in
set_option maxHeartbeats 2000000 in
theorem vet_own (w : World) (m c : Nat) (x : Md) (R : RepM w m c x) (k f t : Int) (h : k = 1 ∨ k = 2) (hc : x.clock ≤ 1152921504606846976) : Calls Try.prog 58 #[ptr m, .int .i64 k, .int .i64 f, .int .i64 t] w fun e w' => e = .returned (.int .i64 (okErr (fitsP x k f t))) ∧ Quiet w w' := by
  obtain ⟨c0, c1, c2, c3, c4, c5⟩ := R.cells
  unfold ptr
  rcases h with rfl | rfl
  · by_cases hp : x.phase = 0
    · have hE : Hid (okErr (fitsP x 1 f t) = 0) := by show _ = _; simp [okErr, fitsP, hp]
      have b1 : (x.phase == 0) = true := by simpa using hp
      clear hp
      go_enter Try.func58, Try.ntmps58
      go_wp2
      go_ret
      rw [unhide hE]
      exact ⟨rfl, Chg.refl _ _⟩
    · have hE : Hid (okErr (fitsP x 1 f t) = 5) := by show _ = _; simp [okErr, fitsP, hp]
      have b1 : (x.phase == 0) = false := by simpa using hp
      clear hp
      go_enter Try.func58, Try.ntmps58
      go_wp2
      go_ret
      rw [unhide hE]
      exact ⟨rfl, Chg.refl _ _⟩
  · by_cases hp : x.phase = 2
    · have hE : Hid (okErr (fitsP x 2 f t) = 0) := by show _ = _; simp [okErr, fitsP, hp]
      have b1 : (x.phase == 2) = true := by simpa using hp
      clear hp
      go_enter Try.func58, Try.ntmps58
      go_wp2
      go_ret
      rw [unhide hE]
      exact ⟨rfl, Chg.refl _ _⟩
    · have hE : Hid (okErr (fitsP x 2 f t) = 5) := by show _ = _; simp [okErr, fitsP, hp]
      have b1 : (x.phase == 2) = false := by simpa using hp
      clear hp
      go_enter Try.func58, Try.ntmps58
      go_wp2
      go_ret
      rw [unhide hE]
      exact ⟨rfl, Chg.refl _ _⟩

set_option maxRecDepth 100000 in
set_option maxHeartbeats 4000000 in
theorem vet_msg (w : World) (m c : Nat) (x : Md) (R : RepM w m c x) (k t : Int) (f : Nat) (h : k = 3 ∨ k = 4 ∨ k = 5) (hc : x.clock ≤ 1152921504606846976) (hf : f < x.n) (hfi : ((f : Int) == (x.id : Int)) = false) (t1 : 1 ≤ t) (t2 : t ≤ 1152921504606846976) (a0 : 0 ≤ x.ack) (a1 : x.ack < 16) :
    Calls Try.prog 58 #[ptr m, .int .i64 k, .int .i64 f, .int .i64 t] w fun e w' => e = .returned (.int .i64 (okErr (fitsP x k f t))) ∧ Quiet w w' := by
  obtain ⟨c0, c1, c2, c3, c4, c5⟩ := R.cells
  have hrf := R.r f hf
  have hri := R.r x.id R.il
  have hn4 := R.n4
  have hil := R.il
  have i0 : (0 : Int) ≤ (f : Int) := by omega
  have i1 : (f : Int) < (x.n : Int) := by omega
  have j0 : (0 : Int) ≤ (x.id : Int) := by omega
  have j1 : (x.id : Int) < (x.n : Int) := by omega
  have hbit := and_bit f (by omega) x.ack a0 a1
  unfold ptr
  rcases h with rfl | rfl | rfl
  · have hE : Hid (fitsP x 3 f t = decide (x.req.getD f 0 = 0)) := by show _ = _; simp [fitsP]
    clear hbit hri
    generalize x.req.getD f 0 = rf at *
    by_cases hp : rf = 0
    · subst hp
      go_enter Try.func58, Try.ntmps58
      go_wp2
      go_ret
      rw [unhide hE]
      exact ⟨rfl, Chg.refl _ _⟩
    · have b1 : (rf == 0) = false := by simpa using hp
      have hE2 : Hid (fitsP x 3 f t = false) := by show _ = _; rw [unhide hE]; simpa using hp
      clear hp
      go_enter Try.func58, Try.ntmps58
      go_wp2
      go_ret
      rw [unhide hE2]
      exact ⟨rfl, Chg.refl _ _⟩
  · have hE : Hid (fitsP x 4 f t = (decide (x.phase = 1) && !ackOf x.ack f && decide (x.req.getD x.id 0 < t))) := by show _ = _; simp [fitsP]
    clear hrf
    generalize x.req.getD x.id 0 = ri at *
    generalize ackOf x.ack f = af at *
    by_cases hp : x.phase = 1
    · have b1 : (x.phase == 1) = true := by simpa using hp
      cases af with
      | true =>
        have hE2 : Hid (fitsP x 4 f t = false) := by show _ = _; rw [unhide hE]; simp
        have b2 : (bits BinOp.and IntKind.i64 x.ack (wrap64 (2 ^ f)) == 0) = false := by rw [hbit]; rfl
        clear hp hbit
        go_enter Try.func58, Try.ntmps58
        go_wp2
        go_big_quiet (fail)
        go_wp2
        go_ret
        rw [unhide hE2]
        exact ⟨rfl, (Chg.refl _ _).drewN _⟩
      | false =>
        have b2 : (bits BinOp.and IntKind.i64 x.ack (wrap64 (2 ^ f)) == 0) = true := by rw [hbit]; rfl
        clear hbit
        by_cases hr : ri < t
        · have hE2 : Hid (fitsP x 4 f t = true) := by show _ = _; rw [unhide hE]; simp [hp, hr]
          clear hp
          go_enter Try.func58, Try.ntmps58
          go_wp2
          go_big_quiet (fail)
          go_wp2
          go_ret
          rw [unhide hE2]
          exact ⟨rfl, (Chg.refl _ _).drewN _⟩
        · have hE2 : Hid (fitsP x 4 f t = false) := by show _ = _; rw [unhide hE]; simp [hr]
          have hr' : t ≤ ri := by omega
          have hr3 : decide (ri < t) = false := by simpa using hr
          clear hp hr
          go_enter Try.func58, Try.ntmps58
          go_wp2
          go_big_quiet (fail)
          go_wp2
          go_ret
          rw [unhide hE2]
          exact ⟨rfl, (Chg.refl _ _).drewN _⟩
    · have b1 : (x.phase == 1) = false := by simpa using hp
      have hE2 : Hid (fitsP x 4 f t = false) := by show _ = _; rw [unhide hE]; simp [hp]
      clear hp hbit
      go_enter Try.func58, Try.ntmps58
      go_wp2
      go_big_quiet (fail)
      go_wp2
      go_ret
      rw [unhide hE2]
      exact ⟨rfl, (Chg.refl _ _).drewN _⟩
  · have hE : Hid (fitsP x 5 f t = decide (x.req.getD f 0 ≠ 0)) := by show _ = _; simp [fitsP]
    clear hbit hri
    generalize x.req.getD f 0 = rf at *
    by_cases hp : rf = 0
    · subst hp
      go_enter Try.func58, Try.ntmps58
      go_wp2
      go_ret
      rw [unhide hE]
      exact ⟨rfl, Chg.refl _ _⟩
    · have b1 : (rf == 0) = false := by simpa using hp
      have b2 : (rf != 0) = true := by simpa using hp
      have hE2 : Hid (fitsP x 5 f t = true) := by show _ = _; rw [unhide hE]; simpa using hp
      clear hp
      go_enter Try.func58, Try.ntmps58
      go_wp2
      go_ret
      rw [unhide hE2]
      exact ⟨rfl, Chg.refl _ _⟩

theorem vet_any (w : World) (m c : Nat) (x : Md) (R : RepM w m c x) (k f t : Int) (a0 : 0 ≤ x.ack) (a1 : x.ack < 16) :
    Calls Try.prog 58 #[ptr m, .int .i64 k, .int .i64 f, .int .i64 t] w fun e w' => e = .returned (.int .i64 (vetP x k f t)) ∧ Quiet w w' := by
  unfold vetP
  by_cases h1 : k < 1 ∨ 5 < k
  · rw [if_pos h1]; exact vet_kind w m c x R k f t h1
  · rw [if_neg h1]
    by_cases h2 : 3 ≤ k ∧ (f < 0 ∨ (x.n : Int) ≤ f ∨ f = x.id)
    · rw [if_pos h2]; exact vet_peer w m c x R k f t h2.1 (by omega) h2.2
    · rw [if_neg h2]
      have hp : 3 ≤ k → 0 ≤ f ∧ f < (x.n : Int) ∧ (f == (x.id : Int)) = false := by
        intro h3
        refine ⟨by omega, by omega, ?_⟩
        rw [beq_eq_false_iff_ne]; intro h4; exact h2 ⟨h3, .inr (.inr h4)⟩
      by_cases h3 : 1152921504606846976 < x.clock
      · rw [if_pos h3]; exact vet_time w m c x R k f t (by omega) (by omega) hp (.inl h3)
      · rw [if_neg h3]
        by_cases h4 : 3 ≤ k ∧ (t < 1 ∨ 1152921504606846976 < t)
        · rw [if_pos h4]; exact vet_time w m c x R k f t (by omega) (by omega) hp (.inr h4)
        · rw [if_neg h4]
          by_cases h5 : k < 3
          · exact vet_own w m c x R k f t (by omega) (by omega)
          · obtain ⟨p0, p1, p2⟩ := hp (by omega)
            obtain ⟨g, rfl⟩ : ∃ g : Nat, f = g := ⟨f.toNat, by omega⟩
            exact vet_msg w m c x R k t g (by omega) (by omega) (by omega) p2 (by omega) (by omega) a0 a1
end Go.Proofs.Qxb6500367a
