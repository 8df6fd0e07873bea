/-
  Facts: THE EXAMPLES. (gen2facts.py)
-/
import Derived.Test.Qxb6500362aAsked
namespace Go.Proofs.Qxb6500362a
open Go.RowKit Go.Qx
set_option linter.unusedSimpArgs false
set_option linter.unusedVariables false

theorem itoa_top : itoa 67108864 = [54, 55, 49, 48, 56, 56, 54, 52] := by decide +kernel

set_option maxRecDepth 100000 in
set_option maxHeartbeats 40000000 in
theorem facts_any (w : World) : Calls Try.prog 6 #[] w fun e w' => e = .returned (.bool true) ∧ Below w.heap.size w w' := by
  go_enter Try.func6, Try.ntmps6
  go_wp2_with fail
  refine (itoa_any 67108864 w (by decide) (by decide)).mono ?_
  rintro e w1 ⟨rfl, Q⟩
  rw [itoa_top]
  unfold str
  go_wp2_with fail
  refine (fact_true w1 _ _ _ _ _ _ _ _ _ _ ?_).mono ?_
  · decide +kernel
  rintro e w2 ⟨rfl, q⟩
  replace Q := Quiet.trans Q q
  clear q
  go_wp2_with fail
  refine (fact_true w2 _ _ _ _ _ _ _ _ _ _ ?_).mono ?_
  · decide +kernel
  rintro e w3 ⟨rfl, q⟩
  replace Q := Quiet.trans Q q
  clear q
  go_wp2_with fail
  refine (fact_true w3 _ _ _ _ _ _ _ _ _ _ ?_).mono ?_
  · decide +kernel
  rintro e w4 ⟨rfl, q⟩
  replace Q := Quiet.trans Q q
  clear q
  go_wp2_with fail
  refine (fact_true w4 _ _ _ _ _ _ _ _ _ _ ?_).mono ?_
  · decide +kernel
  rintro e w5 ⟨rfl, q⟩
  replace Q := Quiet.trans Q q
  clear q
  go_wp2_with fail
  refine (fact_true w5 _ _ _ _ _ _ _ _ _ _ ?_).mono ?_
  · decide +kernel
  rintro e w6 ⟨rfl, q⟩
  replace Q := Quiet.trans Q q
  clear q
  go_wp2_with fail
  refine (fact_true w6 _ _ _ _ _ _ _ _ _ _ ?_).mono ?_
  · decide +kernel
  rintro e w7 ⟨rfl, q⟩
  replace Q := Quiet.trans Q q
  clear q
  go_wp2_with fail
  refine (fact_true w7 _ _ _ _ _ _ _ _ _ _ ?_).mono ?_
  · decide +kernel
  rintro e w8 ⟨rfl, q⟩
  replace Q := Quiet.trans Q q
  clear q
  go_wp2_with fail
  refine (fact_true w8 _ _ _ _ _ _ _ _ _ _ ?_).mono ?_
  · decide +kernel
  rintro e w9 ⟨rfl, q⟩
  replace Q := Quiet.trans Q q
  clear q
  go_wp2_with fail
  refine (fact_true w9 _ _ _ _ _ _ _ _ _ _ ?_).mono ?_
  · decide +kernel
  rintro e w10 ⟨rfl, q⟩
  replace Q := Quiet.trans Q q
  clear q
  go_wp2_with fail
  refine (fact_true w10 _ _ _ _ _ _ _ _ _ _ ?_).mono ?_
  · decide +kernel
  rintro e w11 ⟨rfl, q⟩
  replace Q := Quiet.trans Q q
  clear q
  go_wp2_with fail
  refine (fact_true w11 _ _ _ _ _ _ _ _ _ _ ?_).mono ?_
  · decide +kernel
  rintro e w12 ⟨rfl, q⟩
  replace Q := Quiet.trans Q q
  clear q
  go_wp2_with fail
  refine (fact_true w12 _ _ _ _ _ _ _ _ _ _ ?_).mono ?_
  · decide +kernel
  rintro e w13 ⟨rfl, q⟩
  replace Q := Quiet.trans Q q
  clear q
  go_wp2_with fail
  refine (fact_true w13 _ _ _ _ _ _ _ _ _ _ ?_).mono ?_
  · decide +kernel
  rintro e w14 ⟨rfl, q⟩
  replace Q := Quiet.trans Q q
  clear q
  go_wp2_with fail
  refine (fact_true w14 _ _ _ _ _ _ _ _ _ _ ?_).mono ?_
  · decide +kernel
  rintro e w15 ⟨rfl, q⟩
  replace Q := Quiet.trans Q q
  clear q
  go_wp2_with fail
  refine (fact_true w15 _ _ _ _ _ _ _ _ _ _ ?_).mono ?_
  · decide +kernel
  rintro e w16 ⟨rfl, q⟩
  replace Q := Quiet.trans Q q
  clear q
  go_wp2_with fail
  refine (fact_true w16 _ _ _ _ _ _ _ _ _ _ ?_).mono ?_
  · decide +kernel
  rintro e w17 ⟨rfl, q⟩
  replace Q := Quiet.trans Q q
  clear q
  go_wp2_with fail
  refine (fact_true w17 _ _ _ _ _ _ _ _ _ _ ?_).mono ?_
  · decide +kernel
  rintro e w18 ⟨rfl, q⟩
  replace Q := Quiet.trans Q q
  clear q
  go_wp2_with fail
  refine (fact_true w18 _ _ _ _ _ _ _ _ _ _ ?_).mono ?_
  · decide +kernel
  rintro e w19 ⟨rfl, q⟩
  replace Q := Quiet.trans Q q
  clear q
  go_wp2_with fail
  refine (fact_true w19 _ _ _ _ _ _ _ _ _ _ ?_).mono ?_
  · decide +kernel
  rintro e w20 ⟨rfl, q⟩
  replace Q := Quiet.trans Q q
  clear q
  go_wp2_with fail
  refine (fact_true w20 _ _ _ _ _ _ _ _ _ _ ?_).mono ?_
  · decide +kernel
  rintro e w21 ⟨rfl, q⟩
  replace Q := Quiet.trans Q q
  clear q
  go_wp2_with fail
  refine (fact_true w21 _ _ _ _ _ _ _ _ _ _ ?_).mono ?_
  · decide +kernel
  rintro e w22 ⟨rfl, q⟩
  replace Q := Quiet.trans Q q
  clear q
  go_wp2_with fail
  refine (fact_true w22 _ _ _ _ _ _ _ _ _ _ ?_).mono ?_
  · decide +kernel
  rintro e w23 ⟨rfl, q⟩
  replace Q := Quiet.trans Q q
  clear q
  go_wp2_with fail
  refine (fact_true w23 _ _ _ _ _ _ _ _ _ _ ?_).mono ?_
  · decide +kernel
  rintro e w24 ⟨rfl, q⟩
  replace Q := Quiet.trans Q q
  clear q
  go_wp2_with fail
  refine (fact_true w24 _ _ _ _ _ _ _ _ _ _ ?_).mono ?_
  · decide +kernel
  rintro e w25 ⟨rfl, q⟩
  replace Q := Quiet.trans Q q
  clear q
  go_wp2_with fail
  refine (fact_true w25 _ _ _ _ _ _ _ _ _ _ ?_).mono ?_
  · decide +kernel
  rintro e w26 ⟨rfl, q⟩
  replace Q := Quiet.trans Q q
  clear q
  go_wp2_with fail
  refine (fact_true w26 _ _ _ _ _ _ _ _ _ _ ?_).mono ?_
  · decide +kernel
  rintro e w27 ⟨rfl, q⟩
  replace Q := Quiet.trans Q q
  clear q
  go_wp2_with fail
  refine (fact_true w27 _ _ _ _ _ _ _ _ _ _ ?_).mono ?_
  · decide +kernel
  rintro e w28 ⟨rfl, q⟩
  replace Q := Quiet.trans Q q
  clear q
  go_wp2_with fail
  refine (fact_true w28 _ _ _ _ _ _ _ _ _ _ ?_).mono ?_
  · decide +kernel
  rintro e w29 ⟨rfl, q⟩
  replace Q := Quiet.trans Q q
  clear q
  go_wp2_with fail
  refine (fact_true w29 _ _ _ _ _ _ _ _ _ _ ?_).mono ?_
  · decide +kernel
  rintro e w30 ⟨rfl, q⟩
  replace Q := Quiet.trans Q q
  clear q
  go_wp2_with fail
  refine (fact_true w30 _ _ _ _ _ _ _ _ _ _ ?_).mono ?_
  · decide +kernel
  rintro e w31 ⟨rfl, q⟩
  replace Q := Quiet.trans Q q
  clear q
  go_wp2_with fail
  refine (fact_true w31 _ _ _ _ _ _ _ _ _ _ ?_).mono ?_
  · decide +kernel
  rintro e w32 ⟨rfl, q⟩
  replace Q := Quiet.trans Q q
  clear q
  go_wp2_with fail
  refine (fact_true w32 _ _ _ _ _ _ _ _ _ _ ?_).mono ?_
  · decide +kernel
  rintro e w33 ⟨rfl, q⟩
  replace Q := Quiet.trans Q q
  clear q
  go_wp2_with fail
  refine (asked_any w33).mono ?_
  rintro e w' ⟨rfl, bel⟩
  go_wp2
  go_ret
  exact ⟨rfl, Q.below.trans (bel.mono Q.size)⟩
end Go.Proofs.Qxb6500362a
