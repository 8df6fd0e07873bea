/-
  THE REAL TURTLE: New, At, Heading, Knots, Home, Seen, Turn. (gen6small.py)
-/
import Derived.Test.Qxb6500366aAgain
namespace Go.Proofs.Qxb6500366a
open Go.RowKit Go.Qx
set_option linter.unusedVariables false
set_option linter.unusedSimpArgs false

theorem und70 : Try.prog.underlying 70 = some (.float .f64) := by kernel_rfl
theorem toInt_run {a : Nat} {x : Int} (ha : W64 a x) (hx : -9223372036854775808 ≤ x ∧ x ≤ 9223372036854775807) (W : World) : (convert 70 3 (.float .f64 a)).run Try.prog W = .ok (.int .i64 x) W := by
  have m1 : IntKind.i64.min = -9223372036854775808 := by decide
  have m2 : IntKind.i64.max = 9223372036854775807 := by decide
  refine run_convert_float_int (P := Try.prog) W 70 3 .f64 .i64 a _ (by kernel_rfl) Try.underlying3 ?_
  unfold floatToIntVal
  rw [w64_toInt ha]
  simp only
  rw [if_pos (by omega)]

theorem w_one : W64 4607182418800017408 1 := by
  have h := w64_of 1 (by decide)
  have e : FloatKind.f64.nearest 1 = 4607182418800017408 := by decide
  rw [e] at h; exact h
theorem w_mone : W64 13830554455654793216 (-1) := by
  have h := w64_of (-1) (by decide)
  have e : FloatKind.f64.nearest (-1) = 13830554455654793216 := by decide
  rw [e] at h; exact h
theorem w_zero : W64 0 0 := by
  have h := w64_of 0 (by decide)
  have e : FloatKind.f64.nearest 0 = 0 := by decide
  rw [e] at h; exact h

/-- The state of a turtle that is at rest. -/
structure Inv (tr : List Pt) (d : Pt) : Prop where
  one : 0 < tr.length
  few : tr.length ≤ 24
  small : ∀ p ∈ tr, Small p
  dir : d = (1, 0) ∨ d = (0, 1) ∨ d = (-1, 0) ∨ d = (0, -1)

abbrev Rep (w : World) (x tb mb : Nat) (tr : List Pt) (d : Pt) : Prop := RepR w x tb mb (runOf tr) tr d

theorem runOf_snoc (tr : List Pt) (h : 0 < tr.length) (p : Pt) : runOf (tr ++ [p]) = pushR (runOf tr) p := by
  unfold runOf
  rw [List.foldl_append]
  cases tr with
  | nil => simp at h
  | cons a b => rfl
theorem runOf_pos (tr : List Pt) (h : 0 < tr.length) : (runOf tr).pos = tr[tr.length - 1] := by
  have h1 := runTo_succ tr (tr.length - 1) (by omega)
  rw [show tr.length - 1 + 1 = tr.length by omega, runTo_all] at h1
  rw [h1]; rfl

theorem Inv.bd {tr : List Pt} {d : Pt} (I : Inv tr d) : Bd (runOf tr) tr.length := by
  have := bd_runTo tr I.small I.few tr.length (Nat.le_refl _)
  rwa [runTo_all] at this
theorem Inv.dsmall {tr : List Pt} {d : Pt} (I : Inv tr d) : Small d := by
  rcases I.dir with rfl | rfl | rfl | rfl <;> (unfold Small; decide)

theorem fits_any (w : World) (n m : Int) : Calls Try.prog 47 #[.int .i64 n, .int .i64 m] w fun e w' => e = .returned (.bool (inP (n, m))) ∧ w' = w := by
  by_cases h1 : -1048576 ≤ n
  case neg =>
    rw [show inP (n, m) = false by simp [inP]; omega]
    go_enter Try.func47, Try.ntmps47
    go_wp2
    go_ret
    exact ⟨rfl, rfl⟩
  by_cases h2 : n ≤ 1048576
  case neg =>
    rw [show inP (n, m) = false by simp [inP]; omega]
    go_enter Try.func47, Try.ntmps47
    go_wp2
    go_ret
    exact ⟨rfl, rfl⟩
  by_cases h3 : -1048576 ≤ m
  case neg =>
    rw [show inP (n, m) = false by simp [inP]; omega]
    go_enter Try.func47, Try.ntmps47
    go_wp2
    go_ret
    exact ⟨rfl, rfl⟩
  by_cases h4 : m ≤ 1048576
  case neg =>
    rw [show inP (n, m) = false by simp [inP]; omega]
    go_enter Try.func47, Try.ntmps47
    go_wp2
    go_ret
    exact ⟨rfl, rfl⟩
  rw [show inP (n, m) = true by simp [inP]; omega]
  go_enter Try.func47, Try.ntmps47
  go_wp2
  go_ret
  exact ⟨rfl, rfl⟩

theorem knots_any (w : World) (x tb mb : Nat) (r : Run) (tr : List Pt) (d : Pt) (R : RepR w x tb mb r tr d) : Calls Try.prog 32 #[ptr x] w fun e w' => e = .returned (.int .i64 r.k) ∧ w' = w := by
  obtain ⟨vp, vd, vl, vh, vo, h1, h2, h3, h4, h5, B⟩ := R.own
  have c4 := B.cell 4
  simp [turC] at c4
  clear R B h1 h2 h3 h4 h5
  unfold ptr
  go_enter Try.func32, Try.ntmps32
  go_wp2
  go_ret
  exact ⟨rfl, rfl⟩

set_option maxHeartbeats 1000000 in
theorem at_any (w : World) (x tb mb : Nat) (r : Run) (tr : List Pt) (d : Pt) (R : RepR w x tb mb r tr d) (hs : Small r.pos) : Calls Try.prog 29 #[ptr x] w fun e w' => e = .returned (.tuple #[.int .i64 r.pos.1, .int .i64 r.pos.2]) ∧ Quiet w w' := by
  obtain ⟨vp, vd, vl, vh, vo, h1, h2, h3, h4, h5, B⟩ := R.own
  obtain ⟨a, b, rfl, A, Bb⟩ := h1
  have c0 := B.cell 0
  simp [turC] at c0
  have k1 := toInt_run A (by obtain ⟨q1, q2, q3, q4⟩ := hs; omega)
  have k2 := toInt_run Bb (by obtain ⟨q1, q2, q3, q4⟩ := hs; omega)
  clear R B h2 h3 h4 h5 A Bb hs
  generalize r.pos.1 = X at *
  generalize r.pos.2 = Y at *
  unfold ptr
  go_enter Try.func29, Try.ntmps29
  go_wp2
  go_quiet (fail)
  go_wp2
  go_ret2
  exact ⟨rfl, (Chg.refl _ _).drewN _⟩

set_option maxHeartbeats 1000000 in
theorem heading_any (w : World) (x tb mb : Nat) (r : Run) (tr : List Pt) (d : Pt) (R : RepR w x tb mb r tr d) (hs : Small d) : Calls Try.prog 30 #[ptr x] w fun e w' => e = .returned (.tuple #[.int .i64 d.1, .int .i64 d.2]) ∧ Quiet w w' := by
  obtain ⟨vp, vd, vl, vh, vo, h1, h2, h3, h4, h5, B⟩ := R.own
  obtain ⟨a, b, rfl, A, Bb⟩ := h2
  have c0 := B.cell 1
  simp [turC] at c0
  have k1 := toInt_run A (by obtain ⟨q1, q2, q3, q4⟩ := hs; omega)
  have k2 := toInt_run Bb (by obtain ⟨q1, q2, q3, q4⟩ := hs; omega)
  clear R B h1 h3 h4 h5 A Bb hs
  generalize d.1 = X at *
  generalize d.2 = Y at *
  unfold ptr
  go_enter Try.func30, Try.ntmps30
  go_wp2
  go_quiet (fail)
  go_wp2
  go_ret2
  exact ⟨rfl, (Chg.refl _ _).drewN _⟩

theorem cne_eq {P : Program} {u v : Value} {p q : Pt} (hu : CW u p) (hv : CW v q) (t : TypeId) (W : World) : (binOp .eql t u v).run P W = .ok (.bool (decide (p = q))) W := by
  obtain ⟨a, b, rfl, A, B⟩ := hu
  obtain ⟨c, d, rfl, C, D⟩ := hv
  rw [ceq_whole (Q64.of_whole A) (Q64.of_whole B) (Q64.of_whole C) (Q64.of_whole D)]
  obtain ⟨p1, p2⟩ := p
  obtain ⟨q1, q2⟩ := q
  congr 3
  simp [Prod.ext_iff]
  constructor
  · rintro ⟨h1, h2⟩; exact ⟨by omega, by omega⟩
  · rintro ⟨h1, h2⟩; exact ⟨by omega, by omega⟩

set_option maxHeartbeats 1000000 in
theorem home_any (w : World) (x tb mb : Nat) (r : Run) (tr : List Pt) (d : Pt) (R : RepR w x tb mb r tr d) (h0 : 0 < tr.length) : Calls Try.prog 34 #[ptr x] w fun e w' => e = .returned (.bool (decide (r.pos = tr[0]))) ∧ Quiet w w' := by
  obtain ⟨vp, vd, vl, vh, vo, h1, h2, h3, h4, h5, B⟩ := R.own
  obtain ⟨cs, BT, hcs, hrow⟩ := R.row
  obtain ⟨v, hv, cv⟩ := hrow 0 h0
  have hq := fun t W => cne_eq (P := Try.prog) h1 cv t W
  have c0 := B.cell 0
  have c2 := B.cell 2
  have t0 := (BT.cell 0).trans hv
  simp [turC] at c0 c2
  have l0 : (0 : Int) < (tr.length : Int) := by omega
  clear R B BT h2 h3 h4 h5 hrow hv
  obtain ⟨a, b, rfl, A, Bb⟩ := h1
  obtain ⟨a', b', rfl, A', Bb'⟩ := cv
  clear A Bb A' Bb'
  generalize decide (r.pos = tr[0]) = D at *
  unfold ptr
  go_enter Try.func34, Try.ntmps34
  go_wp2
  go_quiet (fail)
  go_wp2
  go_ret
  exact ⟨rfl, (Chg.refl _ _).drewN _⟩
end Go.Proofs.Qxb6500366a
