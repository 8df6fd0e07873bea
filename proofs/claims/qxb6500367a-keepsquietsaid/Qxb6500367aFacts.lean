/-
  Small, Brim, Facts: the examples. Written by gen_facts.py.
-/
import Derived.Test.Qxb6500367aStep
import Derived.Test.Qxb6500367aShow
namespace Go.Proofs.Qxb6500367a
open Go.RowKit Go.Qx
set_option linter.unusedSimpArgs false
set_option linter.unusedVariables false

def in64B (v : Int) : Bool := decide (-9223372036854775808 ≤ v) && decide (v ≤ 9223372036854775807)

/-- All that is asked of one event, as one closed question. -/
def asks (s : Nd) (k f t c p e : Int) (s' : Nd) (L : List UInt8) : Bool :=
  decide (0 ≤ s.clock) && decide (0 ≤ s.acks) && decide (s.acks ≤ 100) && decide (s.q.length < s.n ∨ ¬ (k = 1 ∧ s.phase = 0)) && decide (s.q.length < s.n ∨ ¬ (k = 3 ∧ heldP s.q f = 0))
    && decide ((stepP s k f t).1 = (c, p, e)) && decide ((stepP s k f t).2.n = s'.n) && decide ((stepP s k f t).2.id = s'.id) && decide ((stepP s k f t).2.clock = s'.clock) && decide ((stepP s k f t).2.phase = s'.phase) && decide ((stepP s k f t).2.mine = s'.mine) && decide ((stepP s k f t).2.q = s'.q) && decide ((stepP s k f t).2.got = s'.got) && decide ((stepP s k f t).2.acks = s'.acks)
    && in64B s'.clock && in64B s'.phase && s'.q.all (fun u => in64B u.1 && in64B u.2) && decide (showP s' = L)

theorem in64_of {v : Int} (h : in64B v = true) : In64 v := by
  unfold in64B at h; simp at h; exact h

/-- A node of the call's own. -/
structure Al (w0 w : World) (x a b : Nat) (s : Nd) : Prop where
  q : Quiet w0 w
  r : Rep w x a b s
  o : ∀ k, own x a b k → w0.heap.size ≤ k

theorem Al.quiet {w0 w w' : World} {x a b : Nat} {s : Nd} (h : Al w0 w x a b s) (q : Quiet w w') : Al w0 w' x a b s := ⟨Quiet.trans h.q q, h.r.quiet q, h.o⟩

set_option maxRecDepth 100000 in
set_option maxHeartbeats 1000000 in
theorem says_any (w0 w : World) (x a b : Nat) (s : Nd) (h : Al w0 w x a b s) (k f t c p e : Int) (s' : Nd) (L : List UInt8) (hb : asks s k f t c p e s' L = true) :
    Calls Try.prog 15 #[ptr x, .int .i64 k, .int .i64 f, .int .i64 t, .int .i64 c, .int .i64 p, .int .i64 e, .string (str L)] w fun r w' => r = .returned (.bool true) ∧ Al w0 w' x a b s' := by
  unfold asks at hb
  simp only [Bool.and_eq_true, decide_eq_true_eq] at hb
  obtain ⟨⟨⟨⟨⟨⟨⟨⟨⟨⟨⟨⟨⟨⟨⟨⟨⟨h1, h2⟩, h3⟩, h4⟩, h5⟩, h6⟩, g1⟩, g2⟩, g3⟩, g4⟩, g5⟩, g6⟩, g7⟩, g8⟩, h7⟩, h8⟩, h9⟩, h10⟩ := hb
  have hs : (stepP s k f t).2 = s' := by
    cases s'
    cases hq : (stepP s k f t).2
    rw [hq] at g1 g2 g3 g4 g5 g6 g7 g8
    simp only at g1 g2 g3 g4 g5 g6 g7 g8
    subst g1 g2 g3 g4 g5 g6 g7 g8
    rfl
  have hF : Fits s k f := ⟨h1, h2, h3, fun a b => by rcases h4 with h | h; exact h; exact absurd ⟨a, b⟩ h, fun a b => by rcases h5 with h | h; exact h; exact absurd ⟨a, b⟩ h⟩
  have hS : Shows s' := ⟨in64_of h7, in64_of h8, fun u hu => by
    have := List.all_eq_true.1 h9 u hu
    simp only [Bool.and_eq_true] at this
    exact ⟨in64_of this.1, in64_of this.2⟩⟩
  have hst := step_any w x a b s h.r k f t hF
  unfold stepPost at hst
  rw [h6, hs] at hst
  clear h1 h2 h3 h4 h5 h6 g1 g2 g3 g4 g5 g6 g7 g8 h7 h8 h9 hs hF
  have h10H := hide h10
  clear h10
  unfold ptr at *
  go_enter Try.func15, Try.ntmps15
  go_wp2_with fail
  refine hst.mono ?_
  rintro r w1 ⟨rfl, ch1, r1⟩
  have hsh := show_any w1 x a b s' r1 hS
  unfold ptr at hsh
  rw [unhide h10H] at hsh
  go_wp2_with fail
  refine hsh.mono ?_
  rintro r w2 ⟨rfl, q2⟩
  go_wp2
  go_ret
  refine ⟨?_, ?_, r1.quiet q2, h.o⟩
  · simp
  · refine Quiet.trans ?_ q2
    exact Chg.trans' h.q ch1 (fun i hi ho => by have := h.o i ho; omega)

theorem born_al (w0 w : World) (q0 : Quiet w0 w) (n id : Nat) (h1 : 1 ≤ n) (h2 : n ≤ 4) (h3 : id < n) : Calls Try.prog 14 #[.int .i64 n, .int .i64 id] w fun e w' => ∃ x a b, e = .returned (ptr x) ∧ Al w0 w' x a b (newP n id) ∧ Quiet w w' := by
  refine (born_any w n id h1 h2 h3).mono ?_
  rintro e w' ⟨x, a, b, rfl, q, ho, r⟩
  exact ⟨x, a, b, rfl, ⟨Quiet.trans q0 q, r, fun k hk => Nat.le_trans q0.size (ho k hk)⟩, q⟩


set_option maxRecDepth 100000 in
set_option maxHeartbeats 4000000 in
theorem small_any (w : World) : Calls Try.prog 8 #[] w fun e w' => e = .returned (.bool true) ∧ Quiet w w' := by
  have q0 := Quiet.refl w
  go_enter Try.func8, Try.ntmps8
  go_wp2_with fail
  refine (born_al w _ q0 1 0 (by omega) (by omega) (by omega)).mono ?_
  rintro e w1 ⟨x1, a1, b1, rfl, r1, p1⟩
  have q1 := Quiet.trans q0 p1
  unfold ptr
  go_wp2_with fail
  refine (says_any w _ x1 a1 b1 (newP 1 0) r1 (1) (0) (0) (1) (2) (0) { n := 1, id := 0, clock := 1, phase := 2, mine := 1, q := [(1, 0)], got := [false], acks := 0 } [48, 32, 49, 32, 50, 32, 48, 32, 48, 32, 49, 32] (by decide +kernel)).mono ?_
  rintro e w2 ⟨rfl, r2⟩
  clear r1
  go_wp2_with fail
  refine (says_any w _ x1 a1 b1 { n := 1, id := 0, clock := 1, phase := 2, mine := 1, q := [(1, 0)], got := [false], acks := 0 } r2 (3) (0) (1) (0) (0) (3) { n := 1, id := 0, clock := 1, phase := 2, mine := 1, q := [(1, 0)], got := [false], acks := 0 } [48, 32, 49, 32, 50, 32, 48, 32, 48, 32, 49, 32] (by decide +kernel)).mono ?_
  rintro e w3 ⟨rfl, r3⟩
  clear r2
  go_wp2_with fail
  refine (says_any w _ x1 a1 b1 { n := 1, id := 0, clock := 1, phase := 2, mine := 1, q := [(1, 0)], got := [false], acks := 0 } r3 (2) (0) (0) (2) (0) (0) { n := 1, id := 0, clock := 2, phase := 0, mine := 0, q := [], got := [false], acks := 0 } [48, 32, 50, 32, 48, 32, 48, 32, 45, 49, 32, 48, 32] (by decide +kernel)).mono ?_
  rintro e w4 ⟨rfl, r4⟩
  clear r3
  go_wp2_with fail
  refine (born_al w _ r4.q 2 0 (by omega) (by omega) (by omega)).mono ?_
  rintro e w5 ⟨x5, a5, b5, rfl, r5, p5⟩
  have q5 := Quiet.trans r4.q p5
  unfold ptr
  go_wp2_with fail
  refine (says_any w _ x5 a5 b5 (newP 2 0) r5 (1) (0) (0) (1) (1) (0) { n := 2, id := 0, clock := 1, phase := 1, mine := 1, q := [(1, 0)], got := [false, false], acks := 0 } [48, 32, 49, 32, 49, 32, 48, 32, 48, 32, 49, 32, 48, 32] (by decide +kernel)).mono ?_
  rintro e w6 ⟨rfl, r6⟩
  clear r5
  go_wp2_with fail
  refine (says_any w _ x5 a5 b5 { n := 2, id := 0, clock := 1, phase := 1, mine := 1, q := [(1, 0)], got := [false, false], acks := 0 } r6 (3) (1) (1) (3) (1) (0) { n := 2, id := 0, clock := 3, phase := 1, mine := 1, q := [(1, 0), (1, 1)], got := [false, false], acks := 0 } [48, 32, 51, 32, 49, 32, 48, 32, 48, 32, 49, 32, 49, 32] (by decide +kernel)).mono ?_
  rintro e w7 ⟨rfl, r7⟩
  clear r6
  go_wp2_with fail
  refine (says_any w _ x5 a5 b5 { n := 2, id := 0, clock := 3, phase := 1, mine := 1, q := [(1, 0), (1, 1)], got := [false, false], acks := 0 } r7 (4) (1) (2) (4) (2) (0) { n := 2, id := 0, clock := 4, phase := 2, mine := 1, q := [(1, 0), (1, 1)], got := [false, true], acks := 1 } [48, 32, 52, 32, 50, 32, 50, 32, 48, 32, 49, 32, 49, 32] (by decide +kernel)).mono ?_
  rintro e w8 ⟨rfl, r8⟩
  clear r7
  go_wp2
  go_ret
  exact ⟨rfl, r8.q⟩

theorem small_below (w : World) : Calls Try.prog 8 #[] w fun e w' => e = .returned (.bool true) ∧ Below w.heap.size w w' := (small_any w).mono fun e w' h => ⟨h.1, h.2.below⟩


set_option maxRecDepth 100000 in
set_option maxHeartbeats 4000000 in
theorem brim_any (w : World) : Calls Try.prog 9 #[] w fun e w' => e = .returned (.bool true) ∧ Quiet w w' := by
  have q0 := Quiet.refl w
  go_enter Try.func9, Try.ntmps9
  go_wp2_with fail
  refine (itoa_any 1152921504606846974 _ (by omega) (by omega)).mono ?_
  rintro e w1 ⟨rfl, p1⟩
  have q1 := Quiet.trans q0 p1
  rw [show itoa 1152921504606846974 = [49, 49, 53, 50, 57, 50, 49, 53, 48, 52, 54, 48, 54, 56, 52, 54, 57, 55, 52] by decide +kernel]
  unfold str
  go_wp2_with fail
  refine (itoa_any 1152921504606846976 _ (by omega) (by omega)).mono ?_
  rintro e w2 ⟨rfl, p2⟩
  have q2 := Quiet.trans q1 p2
  rw [show itoa 1152921504606846976 = [49, 49, 53, 50, 57, 50, 49, 53, 48, 52, 54, 48, 54, 56, 52, 54, 57, 55, 54] by decide +kernel]
  unfold str
  go_wp2_with fail
  refine (itoa_any 1152921504606846977 _ (by omega) (by omega)).mono ?_
  rintro e w3 ⟨rfl, p3⟩
  have q3 := Quiet.trans q2 p3
  rw [show itoa 1152921504606846977 = [49, 49, 53, 50, 57, 50, 49, 53, 48, 52, 54, 48, 54, 56, 52, 54, 57, 55, 55] by decide +kernel]
  unfold str
  go_wp2_with fail
  refine (itoa_any 1152921504606846978 _ (by omega) (by omega)).mono ?_
  rintro e w4 ⟨rfl, p4⟩
  have q4 := Quiet.trans q3 p4
  rw [show itoa 1152921504606846978 = [49, 49, 53, 50, 57, 50, 49, 53, 48, 52, 54, 48, 54, 56, 52, 54, 57, 55, 56] by decide +kernel]
  unfold str
  go_wp2_with fail
  refine (born_al w _ q4 3 1 (by omega) (by omega) (by omega)).mono ?_
  rintro e w5 ⟨x5, a5, b5, rfl, r5, p5⟩
  have q5 := Quiet.trans q4 p5
  unfold ptr
  go_wp2_with fail
  refine (says_any w _ x5 a5 b5 (newP 3 1) r5 (3) (0) (1152921504606846976) (1152921504606846978) (0) (0) { n := 3, id := 1, clock := 1152921504606846978, phase := 0, mine := 0, q := [(1152921504606846976, 0)], got := [false, false, false], acks := 0 } [49, 32, 49, 49, 53, 50, 57, 50, 49, 53, 48, 52, 54, 48, 54, 56, 52, 54, 57, 55, 56, 32, 48, 32, 48, 32, 48, 32, 49, 49, 53, 50, 57, 50, 49, 53, 48, 52, 54, 48, 54, 56, 52, 54, 57, 55, 54, 32, 48, 32, 48, 32] (by decide +kernel)).mono ?_
  rintro e w6 ⟨rfl, r6⟩
  clear r5
  go_wp2_with fail
  refine (says_any w _ x5 a5 b5 { n := 3, id := 1, clock := 1152921504606846978, phase := 0, mine := 0, q := [(1152921504606846976, 0)], got := [false, false, false], acks := 0 } r6 (1) (0) (0) (0) (0) (4) { n := 3, id := 1, clock := 1152921504606846978, phase := 0, mine := 0, q := [(1152921504606846976, 0)], got := [false, false, false], acks := 0 } [49, 32, 49, 49, 53, 50, 57, 50, 49, 53, 48, 52, 54, 48, 54, 56, 52, 54, 57, 55, 56, 32, 48, 32, 48, 32, 48, 32, 49, 49, 53, 50, 57, 50, 49, 53, 48, 52, 54, 48, 54, 56, 52, 54, 57, 55, 54, 32, 48, 32, 48, 32] (by decide +kernel)).mono ?_
  rintro e w7 ⟨rfl, r7⟩
  clear r6
  go_wp2_with fail
  refine (says_any w _ x5 a5 b5 { n := 3, id := 1, clock := 1152921504606846978, phase := 0, mine := 0, q := [(1152921504606846976, 0)], got := [false, false, false], acks := 0 } r7 (2) (0) (0) (0) (0) (4) { n := 3, id := 1, clock := 1152921504606846978, phase := 0, mine := 0, q := [(1152921504606846976, 0)], got := [false, false, false], acks := 0 } [49, 32, 49, 49, 53, 50, 57, 50, 49, 53, 48, 52, 54, 48, 54, 56, 52, 54, 57, 55, 56, 32, 48, 32, 48, 32, 48, 32, 49, 49, 53, 50, 57, 50, 49, 53, 48, 52, 54, 48, 54, 56, 52, 54, 57, 55, 54, 32, 48, 32, 48, 32] (by decide +kernel)).mono ?_
  rintro e w8 ⟨rfl, r8⟩
  clear r7
  go_wp2_with fail
  refine (says_any w _ x5 a5 b5 { n := 3, id := 1, clock := 1152921504606846978, phase := 0, mine := 0, q := [(1152921504606846976, 0)], got := [false, false, false], acks := 0 } r8 (5) (0) (1) (0) (0) (4) { n := 3, id := 1, clock := 1152921504606846978, phase := 0, mine := 0, q := [(1152921504606846976, 0)], got := [false, false, false], acks := 0 } [49, 32, 49, 49, 53, 50, 57, 50, 49, 53, 48, 52, 54, 48, 54, 56, 52, 54, 57, 55, 56, 32, 48, 32, 48, 32, 48, 32, 49, 49, 53, 50, 57, 50, 49, 53, 48, 52, 54, 48, 54, 56, 52, 54, 57, 55, 54, 32, 48, 32, 48, 32] (by decide +kernel)).mono ?_
  rintro e w9 ⟨rfl, r9⟩
  clear r8
  go_wp2_with fail
  refine (says_any w _ x5 a5 b5 { n := 3, id := 1, clock := 1152921504606846978, phase := 0, mine := 0, q := [(1152921504606846976, 0)], got := [false, false, false], acks := 0 } r9 (5) (1) (1) (0) (0) (3) { n := 3, id := 1, clock := 1152921504606846978, phase := 0, mine := 0, q := [(1152921504606846976, 0)], got := [false, false, false], acks := 0 } [49, 32, 49, 49, 53, 50, 57, 50, 49, 53, 48, 52, 54, 48, 54, 56, 52, 54, 57, 55, 56, 32, 48, 32, 48, 32, 48, 32, 49, 49, 53, 50, 57, 50, 49, 53, 48, 52, 54, 48, 54, 56, 52, 54, 57, 55, 54, 32, 48, 32, 48, 32] (by decide +kernel)).mono ?_
  rintro e w10 ⟨rfl, r10⟩
  clear r9
  go_wp2_with fail
  refine (says_any w _ x5 a5 b5 { n := 3, id := 1, clock := 1152921504606846978, phase := 0, mine := 0, q := [(1152921504606846976, 0)], got := [false, false, false], acks := 0 } r10 (0) (0) (0) (0) (0) (2) { n := 3, id := 1, clock := 1152921504606846978, phase := 0, mine := 0, q := [(1152921504606846976, 0)], got := [false, false, false], acks := 0 } [49, 32, 49, 49, 53, 50, 57, 50, 49, 53, 48, 52, 54, 48, 54, 56, 52, 54, 57, 55, 56, 32, 48, 32, 48, 32, 48, 32, 49, 49, 53, 50, 57, 50, 49, 53, 48, 52, 54, 48, 54, 56, 52, 54, 57, 55, 54, 32, 48, 32, 48, 32] (by decide +kernel)).mono ?_
  rintro e w11 ⟨rfl, r11⟩
  clear r10
  go_wp2_with fail
  refine (born_al w _ r11.q 3 1 (by omega) (by omega) (by omega)).mono ?_
  rintro e w12 ⟨x12, a12, b12, rfl, r12, p12⟩
  have q12 := Quiet.trans r11.q p12
  unfold ptr
  go_wp2_with fail
  refine (says_any w _ x12 a12 b12 (newP 3 1) r12 (3) (0) (1152921504606846974) (1152921504606846976) (0) (0) { n := 3, id := 1, clock := 1152921504606846976, phase := 0, mine := 0, q := [(1152921504606846974, 0)], got := [false, false, false], acks := 0 } [49, 32, 49, 49, 53, 50, 57, 50, 49, 53, 48, 52, 54, 48, 54, 56, 52, 54, 57, 55, 54, 32, 48, 32, 48, 32, 48, 32, 49, 49, 53, 50, 57, 50, 49, 53, 48, 52, 54, 48, 54, 56, 52, 54, 57, 55, 52, 32, 48, 32, 48, 32] (by decide +kernel)).mono ?_
  rintro e w13 ⟨rfl, r13⟩
  clear r12
  go_wp2_with fail
  refine (says_any w _ x12 a12 b12 { n := 3, id := 1, clock := 1152921504606846976, phase := 0, mine := 0, q := [(1152921504606846974, 0)], got := [false, false, false], acks := 0 } r13 (1) (0) (0) (1152921504606846977) (1) (0) { n := 3, id := 1, clock := 1152921504606846977, phase := 1, mine := 1152921504606846977, q := [(1152921504606846974, 0), (1152921504606846977, 1)], got := [false, false, false], acks := 0 } [49, 32, 49, 49, 53, 50, 57, 50, 49, 53, 48, 52, 54, 48, 54, 56, 52, 54, 57, 55, 55, 32, 49, 32, 48, 32, 48, 32, 49, 49, 53, 50, 57, 50, 49, 53, 48, 52, 54, 48, 54, 56, 52, 54, 57, 55, 52, 32, 49, 49, 53, 50, 57, 50, 49, 53, 48, 52, 54, 48, 54, 56, 52, 54, 57, 55, 55, 32, 48, 32] (by decide +kernel)).mono ?_
  rintro e w14 ⟨rfl, r14⟩
  clear r13
  go_wp2_with fail
  refine (says_any w _ x12 a12 b12 { n := 3, id := 1, clock := 1152921504606846977, phase := 1, mine := 1152921504606846977, q := [(1152921504606846974, 0), (1152921504606846977, 1)], got := [false, false, false], acks := 0 } r14 (5) (0) (1) (0) (0) (4) { n := 3, id := 1, clock := 1152921504606846977, phase := 1, mine := 1152921504606846977, q := [(1152921504606846974, 0), (1152921504606846977, 1)], got := [false, false, false], acks := 0 } [49, 32, 49, 49, 53, 50, 57, 50, 49, 53, 48, 52, 54, 48, 54, 56, 52, 54, 57, 55, 55, 32, 49, 32, 48, 32, 48, 32, 49, 49, 53, 50, 57, 50, 49, 53, 48, 52, 54, 48, 54, 56, 52, 54, 57, 55, 52, 32, 49, 49, 53, 50, 57, 50, 49, 53, 48, 52, 54, 48, 54, 56, 52, 54, 57, 55, 55, 32, 48, 32] (by decide +kernel)).mono ?_
  rintro e w15 ⟨rfl, r15⟩
  clear r14
  go_wp2
  go_ret
  exact ⟨rfl, r15.q⟩

theorem brim_below (w : World) : Calls Try.prog 9 #[] w fun e w' => e = .returned (.bool true) ∧ Below w.heap.size w w' := (brim_any w).mono fun e w' h => ⟨h.1, h.2.below⟩


set_option maxRecDepth 100000 in
set_option maxHeartbeats 4000000 in
theorem facts_any (w : World) : Calls Try.prog 7 #[] w fun e w' => e = .returned (.bool true) ∧ Quiet w w' := by
  have q0 := Quiet.refl w
  go_enter Try.func7, Try.ntmps7
  go_wp2_with fail
  refine (born_al w _ q0 3 1 (by omega) (by omega) (by omega)).mono ?_
  rintro e w1 ⟨x1, a1, b1, rfl, r1, p1⟩
  have q1 := Quiet.trans q0 p1
  unfold ptr
  go_wp2_with fail
  refine (says_any w _ x1 a1 b1 (newP 3 1) r1 (5) (0) (5) (0) (0) (5) { n := 3, id := 1, clock := 0, phase := 0, mine := 0, q := [], got := [false, false, false], acks := 0 } [49, 32, 48, 32, 48, 32, 48, 32, 45, 49, 32, 48, 32, 48, 32, 48, 32] (by decide +kernel)).mono ?_
  rintro e w2 ⟨rfl, r2⟩
  clear r1
  go_wp2_with fail
  refine (says_any w _ x1 a1 b1 { n := 3, id := 1, clock := 0, phase := 0, mine := 0, q := [], got := [false, false, false], acks := 0 } r2 (4) (0) (5) (0) (0) (5) { n := 3, id := 1, clock := 0, phase := 0, mine := 0, q := [], got := [false, false, false], acks := 0 } [49, 32, 48, 32, 48, 32, 48, 32, 45, 49, 32, 48, 32, 48, 32, 48, 32] (by decide +kernel)).mono ?_
  rintro e w3 ⟨rfl, r3⟩
  clear r2
  go_wp2_with fail
  refine (says_any w _ x1 a1 b1 { n := 3, id := 1, clock := 0, phase := 0, mine := 0, q := [], got := [false, false, false], acks := 0 } r3 (2) (0) (0) (0) (0) (5) { n := 3, id := 1, clock := 0, phase := 0, mine := 0, q := [], got := [false, false, false], acks := 0 } [49, 32, 48, 32, 48, 32, 48, 32, 45, 49, 32, 48, 32, 48, 32, 48, 32] (by decide +kernel)).mono ?_
  rintro e w4 ⟨rfl, r4⟩
  clear r3
  go_wp2_with fail
  refine (says_any w _ x1 a1 b1 { n := 3, id := 1, clock := 0, phase := 0, mine := 0, q := [], got := [false, false, false], acks := 0 } r4 (0) (1) (0) (0) (0) (2) { n := 3, id := 1, clock := 0, phase := 0, mine := 0, q := [], got := [false, false, false], acks := 0 } [49, 32, 48, 32, 48, 32, 48, 32, 45, 49, 32, 48, 32, 48, 32, 48, 32] (by decide +kernel)).mono ?_
  rintro e w5 ⟨rfl, r5⟩
  clear r4
  go_wp2_with fail
  refine (says_any w _ x1 a1 b1 { n := 3, id := 1, clock := 0, phase := 0, mine := 0, q := [], got := [false, false, false], acks := 0 } r5 (6) (0) (1) (0) (0) (2) { n := 3, id := 1, clock := 0, phase := 0, mine := 0, q := [], got := [false, false, false], acks := 0 } [49, 32, 48, 32, 48, 32, 48, 32, 45, 49, 32, 48, 32, 48, 32, 48, 32] (by decide +kernel)).mono ?_
  rintro e w6 ⟨rfl, r6⟩
  clear r5
  go_wp2_with fail
  refine (says_any w _ x1 a1 b1 { n := 3, id := 1, clock := 0, phase := 0, mine := 0, q := [], got := [false, false, false], acks := 0 } r6 (7) (1) (0) (0) (0) (2) { n := 3, id := 1, clock := 0, phase := 0, mine := 0, q := [], got := [false, false, false], acks := 0 } [49, 32, 48, 32, 48, 32, 48, 32, 45, 49, 32, 48, 32, 48, 32, 48, 32] (by decide +kernel)).mono ?_
  rintro e w7 ⟨rfl, r7⟩
  clear r6
  go_wp2_with fail
  refine (says_any w _ x1 a1 b1 { n := 3, id := 1, clock := 0, phase := 0, mine := 0, q := [], got := [false, false, false], acks := 0 } r7 (8) (1) (0) (0) (0) (2) { n := 3, id := 1, clock := 0, phase := 0, mine := 0, q := [], got := [false, false, false], acks := 0 } [49, 32, 48, 32, 48, 32, 48, 32, 45, 49, 32, 48, 32, 48, 32, 48, 32] (by decide +kernel)).mono ?_
  rintro e w8 ⟨rfl, r8⟩
  clear r7
  go_wp2_with fail
  refine (says_any w _ x1 a1 b1 { n := 3, id := 1, clock := 0, phase := 0, mine := 0, q := [], got := [false, false, false], acks := 0 } r8 (9) (0) (0) (0) (0) (2) { n := 3, id := 1, clock := 0, phase := 0, mine := 0, q := [], got := [false, false, false], acks := 0 } [49, 32, 48, 32, 48, 32, 48, 32, 45, 49, 32, 48, 32, 48, 32, 48, 32] (by decide +kernel)).mono ?_
  rintro e w9 ⟨rfl, r9⟩
  clear r8
  go_wp2_with fail
  refine (says_any w _ x1 a1 b1 { n := 3, id := 1, clock := 0, phase := 0, mine := 0, q := [], got := [false, false, false], acks := 0 } r9 (10) (0) (1) (0) (0) (2) { n := 3, id := 1, clock := 0, phase := 0, mine := 0, q := [], got := [false, false, false], acks := 0 } [49, 32, 48, 32, 48, 32, 48, 32, 45, 49, 32, 48, 32, 48, 32, 48, 32] (by decide +kernel)).mono ?_
  rintro e w10 ⟨rfl, r10⟩
  clear r9
  go_wp2_with fail
  refine (says_any w _ x1 a1 b1 { n := 3, id := 1, clock := 0, phase := 0, mine := 0, q := [], got := [false, false, false], acks := 0 } r10 (4611686018427387904) (0) (1) (0) (0) (2) { n := 3, id := 1, clock := 0, phase := 0, mine := 0, q := [], got := [false, false, false], acks := 0 } [49, 32, 48, 32, 48, 32, 48, 32, 45, 49, 32, 48, 32, 48, 32, 48, 32] (by decide +kernel)).mono ?_
  rintro e w11 ⟨rfl, r11⟩
  clear r10
  go_wp2_with fail
  refine (says_any w _ x1 a1 b1 { n := 3, id := 1, clock := 0, phase := 0, mine := 0, q := [], got := [false, false, false], acks := 0 } r11 (-9223372036854775808) (0) (1) (0) (0) (2) { n := 3, id := 1, clock := 0, phase := 0, mine := 0, q := [], got := [false, false, false], acks := 0 } [49, 32, 48, 32, 48, 32, 48, 32, 45, 49, 32, 48, 32, 48, 32, 48, 32] (by decide +kernel)).mono ?_
  rintro e w12 ⟨rfl, r12⟩
  clear r11
  go_wp2_with fail
  refine (says_any w _ x1 a1 b1 { n := 3, id := 1, clock := 0, phase := 0, mine := 0, q := [], got := [false, false, false], acks := 0 } r12 (3) (1) (0) (0) (0) (3) { n := 3, id := 1, clock := 0, phase := 0, mine := 0, q := [], got := [false, false, false], acks := 0 } [49, 32, 48, 32, 48, 32, 48, 32, 45, 49, 32, 48, 32, 48, 32, 48, 32] (by decide +kernel)).mono ?_
  rintro e w13 ⟨rfl, r13⟩
  clear r12
  go_wp2_with fail
  refine (says_any w _ x1 a1 b1 { n := 3, id := 1, clock := 0, phase := 0, mine := 0, q := [], got := [false, false, false], acks := 0 } r13 (3) (3) (1) (0) (0) (3) { n := 3, id := 1, clock := 0, phase := 0, mine := 0, q := [], got := [false, false, false], acks := 0 } [49, 32, 48, 32, 48, 32, 48, 32, 45, 49, 32, 48, 32, 48, 32, 48, 32] (by decide +kernel)).mono ?_
  rintro e w14 ⟨rfl, r14⟩
  clear r13
  go_wp2_with fail
  refine (says_any w _ x1 a1 b1 { n := 3, id := 1, clock := 0, phase := 0, mine := 0, q := [], got := [false, false, false], acks := 0 } r14 (3) (-1) (1) (0) (0) (3) { n := 3, id := 1, clock := 0, phase := 0, mine := 0, q := [], got := [false, false, false], acks := 0 } [49, 32, 48, 32, 48, 32, 48, 32, 45, 49, 32, 48, 32, 48, 32, 48, 32] (by decide +kernel)).mono ?_
  rintro e w15 ⟨rfl, r15⟩
  clear r14
  go_wp2_with fail
  refine (says_any w _ x1 a1 b1 { n := 3, id := 1, clock := 0, phase := 0, mine := 0, q := [], got := [false, false, false], acks := 0 } r15 (5) (0) (0) (0) (0) (4) { n := 3, id := 1, clock := 0, phase := 0, mine := 0, q := [], got := [false, false, false], acks := 0 } [49, 32, 48, 32, 48, 32, 48, 32, 45, 49, 32, 48, 32, 48, 32, 48, 32] (by decide +kernel)).mono ?_
  rintro e w16 ⟨rfl, r16⟩
  clear r15
  go_wp2_with fail
  refine (says_any w _ x1 a1 b1 { n := 3, id := 1, clock := 0, phase := 0, mine := 0, q := [], got := [false, false, false], acks := 0 } r16 (3) (0) (1152921504606846977) (0) (0) (4) { n := 3, id := 1, clock := 0, phase := 0, mine := 0, q := [], got := [false, false, false], acks := 0 } [49, 32, 48, 32, 48, 32, 48, 32, 45, 49, 32, 48, 32, 48, 32, 48, 32] (by decide +kernel)).mono ?_
  rintro e w17 ⟨rfl, r17⟩
  clear r16
  go_wp2_with fail
  refine (says_any w _ x1 a1 b1 { n := 3, id := 1, clock := 0, phase := 0, mine := 0, q := [], got := [false, false, false], acks := 0 } r17 (3) (2) (7) (9) (0) (0) { n := 3, id := 1, clock := 9, phase := 0, mine := 0, q := [(7, 2)], got := [false, false, false], acks := 0 } [49, 32, 57, 32, 48, 32, 48, 32, 50, 32, 48, 32, 48, 32, 55, 32] (by decide +kernel)).mono ?_
  rintro e w18 ⟨rfl, r18⟩
  clear r17
  go_wp2_with fail
  refine (says_any w _ x1 a1 b1 { n := 3, id := 1, clock := 9, phase := 0, mine := 0, q := [(7, 2)], got := [false, false, false], acks := 0 } r18 (3) (2) (9) (0) (0) (5) { n := 3, id := 1, clock := 9, phase := 0, mine := 0, q := [(7, 2)], got := [false, false, false], acks := 0 } [49, 32, 57, 32, 48, 32, 48, 32, 50, 32, 48, 32, 48, 32, 55, 32] (by decide +kernel)).mono ?_
  rintro e w19 ⟨rfl, r19⟩
  clear r18
  go_wp2_with fail
  refine (says_any w _ x1 a1 b1 { n := 3, id := 1, clock := 9, phase := 0, mine := 0, q := [(7, 2)], got := [false, false, false], acks := 0 } r19 (1) (-1) (-1) (10) (1) (0) { n := 3, id := 1, clock := 10, phase := 1, mine := 10, q := [(7, 2), (10, 1)], got := [false, false, false], acks := 0 } [49, 32, 49, 48, 32, 49, 32, 48, 32, 50, 32, 48, 32, 49, 48, 32, 55, 32] (by decide +kernel)).mono ?_
  rintro e w20 ⟨rfl, r20⟩
  clear r19
  go_wp2_with fail
  refine (says_any w _ x1 a1 b1 { n := 3, id := 1, clock := 10, phase := 1, mine := 10, q := [(7, 2), (10, 1)], got := [false, false, false], acks := 0 } r20 (1) (0) (0) (0) (0) (5) { n := 3, id := 1, clock := 10, phase := 1, mine := 10, q := [(7, 2), (10, 1)], got := [false, false, false], acks := 0 } [49, 32, 49, 48, 32, 49, 32, 48, 32, 50, 32, 48, 32, 49, 48, 32, 55, 32] (by decide +kernel)).mono ?_
  rintro e w21 ⟨rfl, r21⟩
  clear r20
  go_wp2_with fail
  refine (says_any w _ x1 a1 b1 { n := 3, id := 1, clock := 10, phase := 1, mine := 10, q := [(7, 2), (10, 1)], got := [false, false, false], acks := 0 } r21 (4) (0) (10) (0) (0) (5) { n := 3, id := 1, clock := 10, phase := 1, mine := 10, q := [(7, 2), (10, 1)], got := [false, false, false], acks := 0 } [49, 32, 49, 48, 32, 49, 32, 48, 32, 50, 32, 48, 32, 49, 48, 32, 55, 32] (by decide +kernel)).mono ?_
  rintro e w22 ⟨rfl, r22⟩
  clear r21
  go_wp2_with fail
  refine (says_any w _ x1 a1 b1 { n := 3, id := 1, clock := 10, phase := 1, mine := 10, q := [(7, 2), (10, 1)], got := [false, false, false], acks := 0 } r22 (4) (0) (9) (0) (0) (5) { n := 3, id := 1, clock := 10, phase := 1, mine := 10, q := [(7, 2), (10, 1)], got := [false, false, false], acks := 0 } [49, 32, 49, 48, 32, 49, 32, 48, 32, 50, 32, 48, 32, 49, 48, 32, 55, 32] (by decide +kernel)).mono ?_
  rintro e w23 ⟨rfl, r23⟩
  clear r22
  go_wp2_with fail
  refine (says_any w _ x1 a1 b1 { n := 3, id := 1, clock := 10, phase := 1, mine := 10, q := [(7, 2), (10, 1)], got := [false, false, false], acks := 0 } r23 (4) (0) (1) (0) (0) (5) { n := 3, id := 1, clock := 10, phase := 1, mine := 10, q := [(7, 2), (10, 1)], got := [false, false, false], acks := 0 } [49, 32, 49, 48, 32, 49, 32, 48, 32, 50, 32, 48, 32, 49, 48, 32, 55, 32] (by decide +kernel)).mono ?_
  rintro e w24 ⟨rfl, r24⟩
  clear r23
  go_wp2_with fail
  refine (says_any w _ x1 a1 b1 { n := 3, id := 1, clock := 10, phase := 1, mine := 10, q := [(7, 2), (10, 1)], got := [false, false, false], acks := 0 } r24 (4) (0) (11) (12) (1) (0) { n := 3, id := 1, clock := 12, phase := 1, mine := 10, q := [(7, 2), (10, 1)], got := [true, false, false], acks := 1 } [49, 32, 49, 50, 32, 49, 32, 49, 32, 50, 32, 48, 32, 49, 48, 32, 55, 32] (by decide +kernel)).mono ?_
  rintro e w25 ⟨rfl, r25⟩
  clear r24
  go_wp2_with fail
  refine (says_any w _ x1 a1 b1 { n := 3, id := 1, clock := 12, phase := 1, mine := 10, q := [(7, 2), (10, 1)], got := [true, false, false], acks := 1 } r25 (4) (0) (20) (0) (0) (5) { n := 3, id := 1, clock := 12, phase := 1, mine := 10, q := [(7, 2), (10, 1)], got := [true, false, false], acks := 1 } [49, 32, 49, 50, 32, 49, 32, 49, 32, 50, 32, 48, 32, 49, 48, 32, 55, 32] (by decide +kernel)).mono ?_
  rintro e w26 ⟨rfl, r26⟩
  clear r25
  go_wp2_with fail
  refine (says_any w _ x1 a1 b1 { n := 3, id := 1, clock := 12, phase := 1, mine := 10, q := [(7, 2), (10, 1)], got := [true, false, false], acks := 1 } r26 (4) (2) (11) (13) (1) (0) { n := 3, id := 1, clock := 13, phase := 1, mine := 10, q := [(7, 2), (10, 1)], got := [true, false, true], acks := 2 } [49, 32, 49, 51, 32, 49, 32, 53, 32, 50, 32, 48, 32, 49, 48, 32, 55, 32] (by decide +kernel)).mono ?_
  rintro e w27 ⟨rfl, r27⟩
  clear r26
  go_wp2_with fail
  refine (says_any w _ x1 a1 b1 { n := 3, id := 1, clock := 13, phase := 1, mine := 10, q := [(7, 2), (10, 1)], got := [true, false, true], acks := 2 } r27 (3) (0) (10) (15) (1) (0) { n := 3, id := 1, clock := 15, phase := 1, mine := 10, q := [(7, 2), (10, 0), (10, 1)], got := [true, false, true], acks := 2 } [49, 32, 49, 53, 32, 49, 32, 53, 32, 50, 32, 49, 48, 32, 49, 48, 32, 55, 32] (by decide +kernel)).mono ?_
  rintro e w28 ⟨rfl, r28⟩
  clear r27
  go_wp2_with fail
  refine (says_any w _ x1 a1 b1 { n := 3, id := 1, clock := 15, phase := 1, mine := 10, q := [(7, 2), (10, 0), (10, 1)], got := [true, false, true], acks := 2 } r28 (5) (2) (14) (16) (1) (0) { n := 3, id := 1, clock := 16, phase := 1, mine := 10, q := [(10, 0), (10, 1)], got := [true, false, true], acks := 2 } [49, 32, 49, 54, 32, 49, 32, 53, 32, 48, 32, 49, 48, 32, 49, 48, 32, 48, 32] (by decide +kernel)).mono ?_
  rintro e w29 ⟨rfl, r29⟩
  clear r28
  go_wp2_with fail
  refine (says_any w _ x1 a1 b1 { n := 3, id := 1, clock := 16, phase := 1, mine := 10, q := [(10, 0), (10, 1)], got := [true, false, true], acks := 2 } r29 (5) (2) (14) (0) (0) (5) { n := 3, id := 1, clock := 16, phase := 1, mine := 10, q := [(10, 0), (10, 1)], got := [true, false, true], acks := 2 } [49, 32, 49, 54, 32, 49, 32, 53, 32, 48, 32, 49, 48, 32, 49, 48, 32, 48, 32] (by decide +kernel)).mono ?_
  rintro e w30 ⟨rfl, r30⟩
  clear r29
  go_wp2_with fail
  refine (says_any w _ x1 a1 b1 { n := 3, id := 1, clock := 16, phase := 1, mine := 10, q := [(10, 0), (10, 1)], got := [true, false, true], acks := 2 } r30 (5) (0) (30) (31) (2) (0) { n := 3, id := 1, clock := 31, phase := 2, mine := 10, q := [(10, 1)], got := [true, false, true], acks := 2 } [49, 32, 51, 49, 32, 50, 32, 53, 32, 49, 32, 48, 32, 49, 48, 32, 48, 32] (by decide +kernel)).mono ?_
  rintro e w31 ⟨rfl, r31⟩
  clear r30
  go_wp2_with fail
  refine (says_any w _ x1 a1 b1 { n := 3, id := 1, clock := 31, phase := 2, mine := 10, q := [(10, 1)], got := [true, false, true], acks := 2 } r31 (4) (0) (40) (0) (0) (5) { n := 3, id := 1, clock := 31, phase := 2, mine := 10, q := [(10, 1)], got := [true, false, true], acks := 2 } [49, 32, 51, 49, 32, 50, 32, 53, 32, 49, 32, 48, 32, 49, 48, 32, 48, 32] (by decide +kernel)).mono ?_
  rintro e w32 ⟨rfl, r32⟩
  clear r31
  go_wp2_with fail
  refine (says_any w _ x1 a1 b1 { n := 3, id := 1, clock := 31, phase := 2, mine := 10, q := [(10, 1)], got := [true, false, true], acks := 2 } r32 (1) (0) (0) (0) (0) (5) { n := 3, id := 1, clock := 31, phase := 2, mine := 10, q := [(10, 1)], got := [true, false, true], acks := 2 } [49, 32, 51, 49, 32, 50, 32, 53, 32, 49, 32, 48, 32, 49, 48, 32, 48, 32] (by decide +kernel)).mono ?_
  rintro e w33 ⟨rfl, r33⟩
  clear r32
  go_wp2_with fail
  refine (says_any w _ x1 a1 b1 { n := 3, id := 1, clock := 31, phase := 2, mine := 10, q := [(10, 1)], got := [true, false, true], acks := 2 } r33 (3) (2) (12) (33) (2) (0) { n := 3, id := 1, clock := 33, phase := 2, mine := 10, q := [(10, 1), (12, 2)], got := [true, false, true], acks := 2 } [49, 32, 51, 51, 32, 50, 32, 53, 32, 49, 32, 48, 32, 49, 48, 32, 49, 50, 32] (by decide +kernel)).mono ?_
  rintro e w34 ⟨rfl, r34⟩
  clear r33
  go_wp2_with fail
  refine (says_any w _ x1 a1 b1 { n := 3, id := 1, clock := 33, phase := 2, mine := 10, q := [(10, 1), (12, 2)], got := [true, false, true], acks := 2 } r34 (2) (-1) (-1) (34) (0) (0) { n := 3, id := 1, clock := 34, phase := 0, mine := 0, q := [(12, 2)], got := [false, false, false], acks := 0 } [49, 32, 51, 52, 32, 48, 32, 48, 32, 50, 32, 48, 32, 48, 32, 49, 50, 32] (by decide +kernel)).mono ?_
  rintro e w35 ⟨rfl, r35⟩
  clear r34
  go_wp2_with fail
  refine (small_any _).mono ?_
  rintro e w36 ⟨rfl, p36⟩
  have q36 := Quiet.trans r35.q p36
  go_wp2_with fail
  refine (brim_any _).mono ?_
  rintro e w37 ⟨rfl, p37⟩
  have q37 := Quiet.trans q36 p37
  go_wp2
  go_ret
  exact ⟨rfl, q37⟩

theorem facts_below (w : World) : Calls Try.prog 7 #[] w fun e w' => e = .returned (.bool true) ∧ Below w.heap.size w w' := (facts_any w).mono fun e w' h => ⟨h.1, h.2.below⟩

end Go.Proofs.Qxb6500367a
