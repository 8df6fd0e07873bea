/-
  Keeps: what a step leaves, plainly.
-/
import Derived.Test.Qxb6500365aKHeld
namespace Go.Proofs.Qxb6500365a
open Go.RowKit Go.Qx Ieee
set_option linter.unusedSimpArgs false
set_option linter.unusedVariables false

def pureK (k : Int) : Prop := k < 1 ∨ k = 6 ∨ 7 < k
/-- A pure step changes nothing. -/
theorem next_pure (σ : GS) (o : Opr) (h : pureK o.k) : nextP σ o = σ := by
  unfold pureK at h
  unfold nextP
  rw [if_neg (by omega), if_neg (by omega), if_neg (by omega), if_neg (by omega), if_neg (by omega), if_neg (by omega)]
/-- An error changes nothing. -/
theorem next_err (σ : GS) (o : Opr) (h : (ansP σ o).e ≠ 0) : nextP σ o = σ := by
  obtain ⟨k, a, b, c, s, t⟩ := o
  unfold ansP at h
  unfold nextP
  dsimp only at *
  by_cases k1 : k = 1
  · rw [if_pos k1] at h ⊢
    unfold denE at h
    unfold denS
    by_cases ht : decide (Ten a) = true
    · rw [if_pos ht] at h; exact absurd rfl h
    · rw [if_neg ht]
  rw [if_neg k1] at h ⊢
  by_cases k2 : k = 2
  · rw [if_pos k2] at h ⊢
    unfold feedS; rw [if_neg h]
  rw [if_neg k2] at h ⊢
  by_cases k3 : k = 3
  · rw [if_pos k3] at h ⊢
    unfold oddS; rw [if_neg h]
  rw [if_neg k3] at h ⊢
  by_cases k4 : k = 4
  · rw [if_pos k4] at h ⊢
    unfold quoteS; rw [if_neg h]
  rw [if_neg k4] at h ⊢
  by_cases k5 : k = 5
  · rw [if_pos k5] at h ⊢
    unfold sizeS; rw [if_neg h]
  rw [if_neg k5] at h ⊢
  by_cases k6 : k = 6
  · rw [if_neg (by omega)]
  rw [if_neg k6] at h
  by_cases k7 : k = 7
  · rw [if_pos k7] at h ⊢
    unfold takeS; rw [if_neg h]
  · rw [if_neg k7]
/-- With an error every other result is 0. -/
theorem ans_err {σ : GS} (I : Inv σ) (o : Opr) (h : (ansP σ o).e ≠ 0) : ansP σ o = ⟨(ansP σ o).e, 0, 0, ⟨#[]⟩⟩ := by
  obtain ⟨k, a, b, c, s, t⟩ := o
  unfold ansP at h ⊢
  dsimp only at *
  by_cases k1 : k = 1
  · rw [if_pos k1]
  rw [if_neg k1] at h ⊢
  by_cases k2 : k = 2
  · rw [if_pos k2]
  rw [if_neg k2] at h ⊢
  by_cases k3 : k = 3
  · rw [if_pos k3]
  rw [if_neg k3] at h ⊢
  by_cases k4 : k = 4
  · rw [if_pos k4]
  rw [if_neg k4] at h ⊢
  by_cases k5 : k = 5
  · rw [if_pos k5]
  rw [if_neg k5] at h ⊢
  by_cases k6 : k = 6
  · rw [if_pos k6] at h ⊢
    rw [I.te h]
  rw [if_neg k6] at h ⊢
  by_cases k7 : k = 7
  · rw [if_pos k7]
  rw [if_neg k7] at h ⊢
  by_cases k8 : k = 8
  · rw [if_pos k8] at h ⊢
    unfold sumP at h ⊢
    split at h
    · exact absurd rfl h
    · rename_i hb; rw [if_neg hb]
  rw [if_neg k8] at h ⊢
  by_cases k9 : k = 9
  · rw [if_pos k9] at h ⊢
    unfold vwapP at h ⊢
    split at h
    · rename_i hb; rw [if_pos hb]
    · exact absurd rfl h
  rw [if_neg k9] at h ⊢
  by_cases k10 : k = 10
  · rw [if_pos k10] at h; exact absurd rfl h
  rw [if_neg k10] at h ⊢
  by_cases k11 : k = 11
  · rw [if_pos k11] at h; exact absurd rfl h
  rw [if_neg k11] at h ⊢
  by_cases k12 : k = 12
  · rw [if_pos k12] at h; exact absurd rfl h
  · rw [if_neg k12] at h; exact absurd rfl h
/-- A take shows. -/
theorem itoa_ne (n : Int) (h0 : 0 ≤ n) (h1 : n < 16) (r r' : List UInt8) : itoa n ++ (44 :: r) ≠ itoa (n + 1) ++ (44 :: r') := by
  have : n = 0 ∨ n = 1 ∨ n = 2 ∨ n = 3 ∨ n = 4 ∨ n = 5 ∨ n = 6 ∨ n = 7 ∨ n = 8 ∨ n = 9 ∨ n = 10 ∨ n = 11 ∨ n = 12 ∨ n = 13 ∨ n = 14 ∨ n = 15 := by omega
  have e : ∀ m : Int, itoa m = itoa m := fun _ => rfl
  have i0 : itoa 0 = [48] := by decide +kernel
  have i1 : itoa (0 + 1) = [49] := by decide +kernel
  have j1 : itoa 1 = [49] := by decide +kernel
  have j2 : itoa 2 = [50] := by decide +kernel
  have j3 : itoa 3 = [51] := by decide +kernel
  have j4 : itoa 4 = [52] := by decide +kernel
  have j5 : itoa 5 = [53] := by decide +kernel
  have j6 : itoa 6 = [54] := by decide +kernel
  have j7 : itoa 7 = [55] := by decide +kernel
  have j8 : itoa 8 = [56] := by decide +kernel
  have j9 : itoa 9 = [57] := by decide +kernel
  have j10 : itoa 10 = [49, 48] := by decide +kernel
  have j11 : itoa 11 = [49, 49] := by decide +kernel
  have j12 : itoa 12 = [49, 50] := by decide +kernel
  have j13 : itoa 13 = [49, 51] := by decide +kernel
  have j14 : itoa 14 = [49, 52] := by decide +kernel
  have j15 : itoa 15 = [49, 53] := by decide +kernel
  have j16 : itoa 16 = [49, 54] := by decide +kernel
  rcases this with rfl | rfl | rfl | rfl | rfl | rfl | rfl | rfl | rfl | rfl | rfl | rfl | rfl | rfl | rfl | rfl <;> intro h <;> simp [i0, j1, j2, j3, j4, j5, j6, j7, j8, j9, j10, j11, j12, j13, j14, j15, j16] at h
theorem show_take {σ : GS} (I : Inv σ) (h : takeE σ = 0) : showP σ ≠ showP (takeS σ) := by
  have hn : σ.n < 16 := by
    unfold takeE at h
    rcases Int.lt_or_le σ.n 16 with c | c
    · exact c
    · rw [if_pos c] at h; cases h
  have e : takeS σ = ⟨σ.d, σ.t, σ.e, σ.q, σ.n + 1, σ.s + σ.t, σ.v + σ.q, σ.k + σ.t * σ.q⟩ := by unfold takeS; rw [if_pos h]
  rw [e]
  unfold showP
  dsimp only
  intro hh
  have h2 := List.append_cancel_left hh
  unfold rowP at h2
  simp only [List.append_assoc, List.cons_append, List.nil_append] at h2
  exact itoa_ne σ.n I.n0 hn _ _ h2
end Go.Proofs.Qxb6500365a
