/-
  letter: the UTF-8 form of a folded letter.
-/
import Derived.Test.Qxb6500370aTexts
namespace Go.Proofs.Qxb6500370a
open Go.RowKit Go.Qx
set_option linter.unusedSimpArgs false
set_option linter.unusedVariables false

def letterL : List UInt8 → Bool
  | [a] => decide (97 ≤ a.toNat ∧ a.toNat ≤ 122)
  | [a, b] => decide ((a.toNat = 206 ∧ 177 ≤ b.toNat ∧ b.toNat ≤ 191) ∨ (a.toNat = 207 ∧ 128 ≤ b.toNat ∧ b.toNat ≤ 137))
  | [a, b, c] => decide (a.toNat = 227 ∧ ((b.toNat = 129 ∧ 129 ≤ c.toNat ∧ c.toNat ≤ 191) ∨ (b.toNat = 130 ∧ 128 ≤ c.toNat ∧ c.toNat ≤ 150)))
  | [a, b, c, d] => decide (a.toNat = 240 ∧ b.toNat = 144 ∧ ((c.toNat = 144 ∧ 168 ≤ d.toNat ∧ d.toNat ≤ 191) ∨ (c.toNat = 145 ∧ 128 ≤ d.toNat ∧ d.toNat ≤ 143)))
  | _ => false

theorem bool_ret {x y : Bool} (h : x = y) : Ending.returned (.bool x) = .returned (.bool y) := by rw [h]

set_option maxHeartbeats 2000000 in
theorem letter2 (w : World) (a b : UInt8) : Calls Try.prog 13 #[.string ⟨#[a, b]⟩] w fun e w' => e = .returned (.bool (letterL [a, b])) ∧ w' = w := by
  go_enter Try.func13, Try.ntmps13
  go_wp2
  all_goals
    go_ret
    refine ⟨bool_ret ?_, rfl⟩
    have e0 : ((⟨#[a, b]⟩ : ByteArray)[0]'(by show 0 < 2; omega)) = a := rfl
    have e1 : ((⟨#[a, b]⟩ : ByteArray)[1]'(by show 1 < 2; omega)) = b := rfl
    simp only [e0, e1] at *
    try simp only [bne_iff_ne, ne_eq, beq_iff_eq, bne_eq_false_iff_eq, beq_eq_false_iff_ne] at *
    simp only [letterL]
    rw [eq_comm]
    first | (apply decide_eq_true; omega) | (apply decide_eq_false; omega) | (rw [Bool.eq_iff_iff]; simp; omega)

set_option maxHeartbeats 2000000 in
theorem letter3 (w : World) (a b c : UInt8) : Calls Try.prog 13 #[.string ⟨#[a, b, c]⟩] w fun e w' => e = .returned (.bool (letterL [a, b, c])) ∧ w' = w := by
  go_enter Try.func13, Try.ntmps13
  go_wp2
  all_goals
    go_ret
    refine ⟨bool_ret ?_, rfl⟩
    have e0 : ((⟨#[a, b, c]⟩ : ByteArray)[0]'(by show 0 < 3; omega)) = a := rfl
    have e1 : ((⟨#[a, b, c]⟩ : ByteArray)[1]'(by show 1 < 3; omega)) = b := rfl
    have e2 : ((⟨#[a, b, c]⟩ : ByteArray)[2]'(by show 2 < 3; omega)) = c := rfl
    simp only [e0, e1, e2] at *
    try simp only [bne_iff_ne, ne_eq, beq_iff_eq, bne_eq_false_iff_eq, beq_eq_false_iff_ne] at *
    simp only [letterL]
    rw [eq_comm]
    first | (apply decide_eq_true; omega) | (apply decide_eq_false; omega) | (rw [Bool.eq_iff_iff]; simp; omega)

set_option maxHeartbeats 2000000 in
theorem letter4 (w : World) (a b c d : UInt8) : Calls Try.prog 13 #[.string ⟨#[a, b, c, d]⟩] w fun e w' => e = .returned (.bool (letterL [a, b, c, d])) ∧ w' = w := by
  go_enter Try.func13, Try.ntmps13
  go_wp2
  all_goals
    go_ret
    refine ⟨bool_ret ?_, rfl⟩
    have e0 : ((⟨#[a, b, c, d]⟩ : ByteArray)[0]'(by show 0 < 4; omega)) = a := rfl
    have e1 : ((⟨#[a, b, c, d]⟩ : ByteArray)[1]'(by show 1 < 4; omega)) = b := rfl
    have e2 : ((⟨#[a, b, c, d]⟩ : ByteArray)[2]'(by show 2 < 4; omega)) = c := rfl
    have e3 : ((⟨#[a, b, c, d]⟩ : ByteArray)[3]'(by show 3 < 4; omega)) = d := rfl
    simp only [e0, e1, e2, e3] at *
    try simp only [bne_iff_ne, ne_eq, beq_iff_eq, bne_eq_false_iff_eq, beq_eq_false_iff_ne] at *
    simp only [letterL]
    rw [eq_comm]
    first | (apply decide_eq_true; omega) | (apply decide_eq_false; omega) | (rw [Bool.eq_iff_iff]; simp; omega)
end Go.Proofs.Qxb6500370a
