/-
  WHAT THE GATE DOES WITH FLOATS, IN WHOLE NUMBERS.
-/
import Derived.Test.Qxb6500365aFdiv
namespace Go.Proofs.Qxb6500365a
open Ieee
set_option linter.unusedVariables false
set_option linter.unusedSimpArgs false

theorem dbl_fits {y : Nat} {v : Int} (h : Dbl y v) (hv : v.natAbs < 2 ^ 200) : Fits v := by
  obtain ⟨s, m, i, e, hi, hw⟩ := h
  have hm := read_mag e
  have hA : v.natAbs * 2 ^ lo = m * 2 ^ (i + 1074).toNat := by
    have := congrArg Int.natAbs hw
    rw [sgn_abs, Int.natAbs_mul, ← ip, Int.natAbs_natCast] at this
    exact this
  have hs : v = sgn s v.natAbs := by
    rw [← hA, sgn_mul, ip] at hw
    exact pow_cancel _ hw
  have lo1 := lo_eq
  by_cases h0 : v = 0
  · exact ⟨0, 0, by omega, by omega, by omega⟩
  by_cases hc : -100 ≤ i
  · have e1 : v.natAbs = m * 2 ^ (i + 100).toNat := by
      have := pow_shift (m := v.natAbs) (X := m) (u := lo) (v := (i + 1074).toNat) (a := 0) (b := (i + 100).toNat) hA (by omega)
      rw [Nat.pow_zero, Nat.mul_one] at this
      exact this
    refine ⟨sgn s m, (i + 100).toNat, ?_, by rw [sgn_abs]; exact hm, ?_⟩
    · rw [← ip, ← sgn_mul, ← e1]; exact hs
    · have hm1 : 1 ≤ m := by
        rcases Nat.eq_zero_or_pos m with h | h
        · rw [h, Nat.zero_mul] at e1; omega
        · exact h
      have : 2 ^ (i + 100).toNat ≤ v.natAbs := by rw [e1]; exact Nat.le_mul_of_pos_left _ hm1
      have := pow_le_of this hv
      omega
  · have e1 : m = v.natAbs * 2 ^ (-100 - i).toNat := by
      have := pow_shift (m := m) (X := v.natAbs) (u := (i + 1074).toNat) (v := lo) (a := 0) (b := (-100 - i).toNat) hA.symm (by omega)
      rw [Nat.pow_zero, Nat.mul_one] at this
      exact this
    refine ⟨v, 0, by rw [Int.pow_zero, Int.mul_one], ?_, by omega⟩
    have : v.natAbs ≤ m := by rw [e1]; exact Nat.le_mul_of_pos_right _ (Nat.two_pow_pos _)
    omega
theorem fits_small {v : Int} (h : v.natAbs < 2 ^ 53) : Fits v := ⟨v, 0, by rw [Int.pow_zero, Int.mul_one], h, by omega⟩
theorem fits_pow {a : Int} {g : Nat} (h : a.natAbs < 2 ^ 53) (hg : g ≤ 900) : Fits (a * 2 ^ g) := ⟨a, g, rfl, h, hg⟩
/-- What is left behind the cut. -/
theorem fits_rem {v : Int} (h : Fits v) : Fits (v - v.tdiv (2 ^ 100) * 2 ^ 100) := by
  obtain ⟨a, g, rfl, h1, h2⟩ := h
  by_cases hg : 100 ≤ g
  · have e : a * 2 ^ g = a * 2 ^ (g - 100) * 2 ^ 100 := by rw [Int.mul_assoc, ← Int.pow_add]; congr 2; omega
    rw [e, Int.mul_tdiv_cancel _ (by decide), Int.sub_self]
    exact fits_small (by decide)
  · have e : (2 : Int) ^ 100 = 2 ^ (100 - g) * 2 ^ g := by rw [← Int.pow_add]; congr 1; omega
    have hp : (0 : Int) < 2 ^ g := Int.pow_pos (by omega)
    have ht : (a * 2 ^ g).tdiv (2 ^ 100) = a.tdiv (2 ^ (100 - g)) := by
      rw [e, Int.mul_tdiv_mul_of_pos_left _ _ hp]
    rw [ht, e, ← Int.mul_assoc, ← Int.sub_mul]
    refine fits_pow ?_ h2
    have hm : a - a.tdiv (2 ^ (100 - g)) * 2 ^ (100 - g) = a.tmod (2 ^ (100 - g)) := by rw [Int.tmod_def, Int.mul_comm]
    rw [hm]
    have : (a.tmod (2 ^ (100 - g))).natAbs ≤ a.natAbs := by rw [Int.natAbs_tmod]; exact Nat.mod_le _ _
    omega

/-! ### Constants -/
theorem dbl_const {b : Nat} {s : Bool} {m : Nat} {i : Int} {v : Int} (h : double.read b = .number s m i) (hi : -100 ≤ i) (hv : v = sgn s (m * 2 ^ (i + 100).toNat)) : Dbl b v := by
  refine ⟨s, m, i, h, by omega, ?_⟩
  rw [hv, ← ip, ← sgn_mul]
  refine congrArg (sgn s) ?_
  have := lo_eq
  rw [Nat.mul_assoc, ← Nat.pow_add, show (i + 100).toNat + lo = (i + 1074).toNat by omega]
def one : Int := 1267650600228229401496703205376
theorem one_eq : (2 : Int) ^ 100 = one := by decide
theorem dbl_c0 : Dbl 0 0 := dbl_zero (b := 0) (s := false) (i := -1074) rfl (by omega)
theorem dbl_half : Dbl 4602678819172646912 (one / 2) := dbl_const (s := false) (m := 2 ^ 52) (i := -53) rfl (by omega) (by decide)
theorem dbl_nhalf : Dbl 13826050856027422720 (-(one / 2)) := dbl_const (s := true) (m := 2 ^ 52) (i := -53) rfl (by omega) (by decide)
theorem dbl_tick : Dbl 4786511204640096256 (1000000000000 * one) := dbl_const (s := false) (m := 8192000000000000) (i := -13) rfl (by omega) (by decide)
theorem dbl_ntick : Dbl 14009883241494872064 (-1000000000000 * one) := dbl_const (s := true) (m := 8192000000000000) (i := -13) rfl (by omega) (by decide)
theorem dbl_note : Dbl 4823355200913801216 (281474976710656 * one) := dbl_const (s := false) (m := 2 ^ 52) (i := -4) rfl (by omega) (by decide)
theorem dbl_nnote : Dbl 14046727237768577024 (-281474976710656 * one) := dbl_const (s := true) (m := 2 ^ 52) (i := -4) rfl (by omega) (by decide)
theorem dbl_one : Dbl 4607182418800017408 one := dbl_const (s := false) (m := 2 ^ 52) (i := -52) rfl (by omega) (by decide)
theorem dbl_size : Dbl 4715268809856909312 (16777216 * one) := dbl_const (s := false) (m := 2 ^ 52) (i := -28) rfl (by omega) (by decide)
theorem ofInt_one {n : Int} (h : n.natAbs < 2 ^ 53) : Dbl (floatOfInt .f64 n) (n * one) := by rw [← one_eq]; exact ofInt_dbl h
/-- The minus flips the sign. -/
theorem neg_one {b : Nat} {v : Int} (h : Dbl b v) : Dbl (Op.negFloat .f64 b) (-v) := by
  obtain ⟨s, m, i, e, hi, hw⟩ := h
  refine ⟨!s, m, i, ?_, hi, by rw [Int.neg_mul, hw, sgn_neg]⟩
  have hs : double.signWeight = 2 ^ 63 := rfl
  show double.read (b ^^^ 2 ^ 63) = _
  have e1 : (b ^^^ 2 ^ 63) % 2 ^ 63 = b % 2 ^ 63 := by
    rw [Nat.xor_mod_two_pow, Nat.mod_self, Nat.xor_zero]
  have e2 : ((b ^^^ 2 ^ 63) / 2 ^ 63 % 2 == 1) = !(b / 2 ^ 63 % 2 == 1) := by
    rw [Nat.xor_div_two_pow, Nat.div_self (by decide)]
    have : (b / 2 ^ 63 ^^^ 1) % 2 = ((b / 2 ^ 63) % 2) ^^^ 1 := Nat.xor_mod_two_pow (n := 1)
    rw [this]
    have : b / 2 ^ 63 % 2 = 0 ∨ b / 2 ^ 63 % 2 = 1 := by omega
    rcases this with h | h <;> rw [h] <;> rfl
  unfold Format.read at e ⊢
  dsimp only at e ⊢
  rw [hs] at e ⊢
  rw [e1, e2]
  generalize (b / 2 ^ 63 % 2 == 1) = sg at *
  split at e
  · rename_i h1
    cases e; rw [if_pos h1]
  · rename_i h1
    split at e
    · rename_i h2
      cases e; rw [if_neg h1, if_pos h2]
    · split at e <;> cases e

/-! ### The quotient -/
theorem div_dbl {x y : Nat} {a b V : Int} (hx : Dbl x a) (hy : Dbl y b) (hb : b ≠ 0) (hV : V * b = a * 2 ^ 100) (hf : Fits V) (hab : b.natAbs ≤ a.natAbs * 2 ^ 40 ∨ a = 0) : ∃ r, double.div x y = some r ∧ Dbl r V := by
  by_cases ha : a = 0
  · subst ha
    have hV0 : V = 0 := by
      rw [Int.zero_mul] at hV
      rcases Int.mul_eq_zero.1 hV with h | h
      · exact h
      · exact absurd h hb
    subst hV0
    obtain ⟨s, m, i, e, hi, hv⟩ := hx
    obtain ⟨t, n, j, e', hj, hw⟩ := hy
    have hm : m = 0 := by
      rw [Int.zero_mul] at hv
      have : m * 2 ^ (i + 1074).toNat = 0 := by rw [← sgn_abs s (m * _), ← hv]; rfl
      rcases Nat.mul_eq_zero.1 this with h | h
      · exact h
      · exact absurd h (Nat.ne_of_gt (Nat.two_pow_pos _))
    have hn : n ≠ 0 := by
      intro h
      rw [h, Nat.zero_mul] at hw
      have : b * 2 ^ lo = 0 * 2 ^ lo := by rw [hw, Int.zero_mul]; cases t <;> rfl
      exact hb (pow_cancel lo this)
    subst hm
    refine ⟨_, by unfold Format.div; rw [e, e']; unfold Datum.quotient; dsimp only; rw [if_neg hn]; rfl, ?_⟩
    rw [Nat.zero_shiftLeft, Nat.zero_div, Nat.zero_mod]
    exact write_zero _ _
  · have hab := hab.resolve_right ha
    obtain ⟨fa, a1, a2⟩ := log2_ex (n := a.natAbs) (by omega)
    obtain ⟨fb, b1, b2⟩ := log2_ex (n := b.natAbs) (by omega)
    have hfb : fb < fa + 41 := by
      refine pow_le_of b1 (Nat.lt_of_le_of_lt hab ?_)
      rw [show fa + 41 = (fa + 1) + 40 by omega, Nat.pow_add]
      exact Nat.mul_lt_mul_of_pos_right a2 (Nat.two_pow_pos _)
    obtain ⟨d, q, σ, sa, sb, h1, hσ, hsa, hsb, h2, h3, h4, h5, h6, h7⟩ := quot_datum hx hy a1 a2 b1 b2 (by omega)
    have hA : V.natAbs * b.natAbs = a.natAbs * 2 ^ 100 := by
      have := congrArg Int.natAbs hV
      rw [Int.natAbs_mul, Int.natAbs_mul, ← ip, Int.natAbs_natCast] at this
      exact this
    have hVs : V = sgn (sa ^^ sb) V.natAbs := by
      have hb' : b.natAbs ≠ 0 := by omega
      have : sgn (sa ^^ sb) V.natAbs * b = a * 2 ^ 100 := by
        rw [hsb, ← sgn_xor, hA]
        rw [show ((sa ^^ sb) ^^ sb) = sa by cases sa <;> cases sb <;> rfl, sgn_mul, ← hsa, ip]
      exact Int.eq_of_mul_eq_mul_right hb (hV.trans this.symm)
    -- 2W divides V
    obtain ⟨c, g, hc, hc1, hc2⟩ := hf
    have hVA : V.natAbs = c.natAbs * 2 ^ g := by rw [hc, Int.natAbs_mul, ← ip, Int.natAbs_natCast]
    have hcpos : 1 ≤ c.natAbs := by
      rcases Nat.eq_zero_or_pos c.natAbs with h | h
      · rw [h, Nat.zero_mul] at hVA
        rw [hVA, Nat.zero_mul] at hA
        have := Nat.two_pow_pos fa
        have : a.natAbs = 0 := by
          rcases Nat.mul_eq_zero.1 hA.symm with h | h
          · exact h
          · exact absurd h (by decide)
        omega
      · exact h
    have hg : fa + 45 - fb + 1 ≤ g := by
      have hlt : V.natAbs < 2 ^ (g + 53) := by
        rw [hVA, Nat.add_comm g, Nat.pow_add]; exact Nat.mul_lt_mul_of_pos_right hc1 (Nat.two_pow_pos _)
      have hle : 2 ^ (fa + 100) ≤ V.natAbs * b.natAbs := by
        rw [hA, Nat.pow_add]; exact Nat.mul_le_mul_right _ a1
      have hlt2 : V.natAbs * b.natAbs < 2 ^ (g + 53 + (fb + 1)) := by
        rw [Nat.pow_add 2 (g + 53)]
        exact Nat.mul_lt_mul_of_le_of_lt (Nat.le_of_lt hlt) b2 (Nat.lt_of_le_of_lt (Nat.zero_le _) hlt)
      have := pow_le_of hle hlt2
      omega
    obtain ⟨z, hz⟩ : ∃ z, V.natAbs = z * 2 * 2 ^ (fa + 45 - fb) := by
      refine ⟨c.natAbs * 2 ^ (g - (fa + 45 - fb + 1)), ?_⟩
      rw [hVA, Nat.mul_assoc, Nat.mul_assoc, show (2 * 2 ^ (fa + 45 - fb) : Nat) = 2 ^ (fa + 45 - fb + 1) by rw [Nat.pow_succ, Nat.mul_comm], ← Nat.pow_add, show g - (fa + 45 - fb + 1) + (fa + 45 - fb + 1) = g by omega]
    generalize hW : 2 ^ (fa + 45 - fb) = W at *
    have hWp : 0 < W := by rw [← hW]; exact Nat.two_pow_pos _
    have hbp : 0 < b.natAbs := by omega
    have hqz : q = z := by
      rw [← hA, hz] at h3 h5
      have e1 : z * 2 * W * b.natAbs = 2 * z * (W * b.natAbs) := by rw [Nat.mul_comm z 2, Nat.mul_assoc]
      have e2 : 2 * q * W * b.natAbs = 2 * q * (W * b.natAbs) := by rw [Nat.mul_assoc]
      have e3 : (2 * q + 2) * W * b.natAbs = (2 * q + 2) * (W * b.natAbs) := by rw [Nat.mul_assoc]
      rw [e1, e2] at h3
      rw [e1, e3] at h5
      have hp : 0 < W * b.natAbs := Nat.mul_pos hWp hbp
      have := Nat.le_of_mul_le_mul_right h3 hp
      have := Nat.lt_of_mul_lt_mul_right h5
      omega
    have hs0 : σ = 0 := by
      rw [h4, hqz, ← hA, hz, Nat.mul_comm z 2]
    refine ⟨_, by unfold Format.div; rw [show double.fractionBits + 2 = 54 from rfl, h1]; rfl, write_fits (K := 1074) (by omega) ?_ ⟨c, g, hc, hc1, hc2⟩⟩
    rw [hs0, Nat.add_zero, hqz, Nat.mul_comm 2 z, ← hz, ← hVs, lo_eq] at h2
    exact h2
end Go.Proofs.Qxb6500365a
