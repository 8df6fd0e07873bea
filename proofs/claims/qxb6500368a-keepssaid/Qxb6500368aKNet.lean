/-
  KEEPS: the forward transform of the inverse one is the register itself.
-/
import Derived.Test.Qxb6500368aNet
namespace Go.Proofs.Qxb6500368a
set_option linter.unusedVariables false

def cB (k : Nat) : Bool := allB (2 ^ k) fun i => allB (2 ^ k) fun u => decide (sm (2 ^ k) (fun j => matM k false i j * matM k true j u) % pP = if i = u then 1 else 0)
theorem cB0 : cB 0 = true ∧ cB 1 = true ∧ cB 2 = true ∧ cB 3 = true := by decide +kernel
theorem cB4 : cB 4 = true := by decide +kernel
theorem cB_all (k : Nat) (hk : k ≤ 4) : cB k = true := by
  rcases (by omega : k = 0 ∨ k = 1 ∨ k = 2 ∨ k = 3 ∨ k = 4) with rfl | rfl | rfl | rfl | rfl
  · exact cB0.1
  · exact cB0.2.1
  · exact cB0.2.2.1
  · exact cB0.2.2.2
  · exact cB4
theorem mat_inv2 {k : Nat} (hk : k ≤ 4) {i u : Nat} (hi : i < 2 ^ k) (hu : u < 2 ^ k) : sm (2 ^ k) (fun j => matM k false i j * matM k true j u) % pP = if i = u then 1 else 0 := by
  have h := allB_spec (allB_spec (cB_all k hk) i hi) u hu
  simpa using h

theorem net_back {k : Nat} (hk : k ≤ 4) (x : Nat → Int) (hx : InP (2 ^ k) x) {i : Nat} (hi : i < 2 ^ k) : netP k false (netP k true x) i = x i := by
  have hH : InP (2 ^ k) (netP k true x) := fun j _ => by rw [net_mat k true x hx j]; exact emod_in _
  rw [net_mat k false _ hH i]
  have t1 : ∀ j, j < 2 ^ k → netM k false i j * netP k true x j % pP = sm (2 ^ k) (fun u => (matM k false i j * matM k true j u) * x u) % pP := by
    intro j hj
    rw [netM_eq hk false hi hj, net_mat k true x hx j, mul_emod_right, ← sm_mul_left]
    refine sm_emod_congr fun u hu => ?_
    rw [netM_eq hk true hj hu, Int.mul_assoc]
  rw [sm_emod_congr t1, sm_swap]
  have t2 : ∀ u, u < 2 ^ k → sm (2 ^ k) (fun j => (matM k false i j * matM k true j u) * x u) % pP = ((if u = i then 1 else 0) * x u) % pP := by
    intro u hu
    rw [sm_mul, ← mul_emod_left, mat_inv2 hk hi hu]
    by_cases h : i = u
    · rw [if_pos h, if_pos h.symm]
    · rw [if_neg h, if_neg (fun e => h e.symm)]
  rw [sm_emod_congr t2, sm_one _ _ hi, Int.emod_eq_of_lt (hx i hi).1 (hx i hi).2]
end Go.Proofs.Qxb6500368a
