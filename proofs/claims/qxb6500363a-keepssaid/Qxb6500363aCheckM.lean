/-
  Check of the model ring: it answers true.
-/
import Derived.Test.Qxb6500363aModel2
import Derived.Test.Qxb6500363aFit
namespace Go.Proofs.Qxb6500363a
open Go.RowKit Go.Qx
set_option linter.unusedSimpArgs false
set_option linter.unusedVariables false

set_option maxRecDepth 100000 in
set_option maxHeartbeats 2000000 in
theorem checkM_any (w : World) (m c : Nat) (k : Int) (xs : List Int) (R : RepM w m c k xs) (o : Ok k xs) : Calls Try.prog 49 #[ptr m] w fun e w' => e = .returned (.bool true) ∧ Quiet w w' := by
  obtain ⟨c0, c1⟩ := R.cells
  have hft := fun W => fit_any W xs.length k
  rw [fitP_true o] at hft
  have n6 := o.n6
  have k8 := o.k8
  unfold ptr at *
  go_enter Try.func49, Try.ntmps49
  go_wp2
  go_region_held3 (fun w' => w'.cell? ⟨m, 1, none⟩ = some (.slice (some ⟨c, 0, none⟩) xs.length xs.length) ∧ w'.cell? ⟨m, 0, none⟩ = some (.int .i64 k)) (first | exact ⟨Quiet.cell hq2 c1, Quiet.cell hq2 c0⟩ | go_keep) (first | (go_at_call 37; refine (hft _).mono ?_; rintro e w2 ⟨rfl, he2⟩; have hq2 : Quiet w w2 := he2 ▸ (Chg.refl _ _).drew; clear he2))
  rename_i hHeld
  clear hHeld
  go_wp2
  go_loopw [3, 4] (fun ok i wr => ∃ j : Nat, j ≤ xs.length ∧ i = .int .i64 j ∧ ok = .bool true ∧ Quiet w wr) (fun _ i _ => 7 - (intOf i).toNat)
  case atStart => exact ⟨0, Nat.zero_le _, rfl, rfl, hq2⟩
  case round =>
    obtain ⟨j, hj, rfl, rfl, qj⟩ := hrel
    have i0 : (0 : Int) ≤ (j : Int) := by omega
    have d1 := Quiet.cell qj c1
    have d0 := Quiet.cell qj c0
    by_cases hlt : j < xs.length
    · have i1 : (j : Int) < (xs.length : Int) := by omega
      have hx := (R.quiet qj).x j hlt
      have hv := o.get j hlt
      generalize xs.getD j 0 = xv at *
      obtain ⟨v0, v1⟩ := hv
      go_wp2
      go_big_quiet (fail)
      go_wp2
      go_roundw
      case rel => exact ⟨j + 1, by omega, by go_num, rfl, qj.drewN _⟩
      case measure => simp [intOf]; omega
    · have i1 : ¬ (j : Int) < (xs.length : Int) := by omega
      go_wp2
      go_ret
      exact ⟨rfl, qj⟩
end Go.Proofs.Qxb6500363a
