/-
  PRIVILEGES AS BITS.
-/
import Derived.Test.Qxb6500363aPlain
import Derived.Laws.Bits64b
namespace Go.Proofs.Qxb6500363a
open Go.RowKit Go.Qx
set_option linter.unusedVariables false
set_option linter.unusedSimpArgs false

def mk : List Bool → Nat
  | [] => 0
  | h :: r => h.toNat + 2 * mk r
theorem mk_bit : ∀ (hs : List Bool) (i : Nat), (mk hs).testBit i = hs.getD i false
  | [], i => by simp [mk]
  | h :: r, 0 => by
    rw [Nat.testBit_zero]
    cases h <;> simp [mk] <;> omega
  | h :: r, i + 1 => by
    rw [Nat.testBit_succ, List.getD_cons_succ, ← mk_bit r i]
    congr 1
    cases h <;> simp [mk] <;> omega
theorem mk_lt : ∀ hs : List Bool, mk hs < 2 ^ hs.length
  | [] => by simp [mk]
  | h :: r => by
    have := mk_lt r
    have hb : h.toNat ≤ 1 := by cases h <;> simp
    simp only [mk, List.length_cons, Nat.pow_succ]; omega
theorem mk_lt64 (hs : List Bool) (h : hs.length ≤ 6) : mk hs < 64 := Nat.lt_of_lt_of_le (mk_lt hs) (Nat.pow_le_pow_right (by decide) h)
theorem mk_inj {a b : List Bool} (hl : a.length = b.length) (h : mk a = mk b) : a = b := by
  apply List.ext_getElem hl
  intro i h1 h2
  have e := congrArg (fun n => n.testBit i) h
  simp only [mk_bit] at e
  simpa [List.getD_eq_getElem?_getD, h1, h2] using e
/-- One bit more. -/
theorem mk_snoc (l : List Bool) (h : Bool) : mk l ||| h.toNat * 2 ^ l.length = mk (l ++ [h]) := by
  apply Nat.eq_of_testBit_eq
  intro i
  rw [Nat.testBit_or, mk_bit, mk_bit]
  cases h
  · simp only [Bool.toNat_false, Nat.zero_mul, Nat.zero_testBit, Bool.or_false, List.getD_eq_getElem?_getD]
    by_cases hi : i < l.length
    · rw [List.getElem?_append_left hi]
    · rw [List.getElem?_eq_none (by omega), List.getElem?_append_right (by omega)]
      by_cases h0 : i - l.length = 0
      · rw [h0]; rfl
      · rw [List.getElem?_eq_none (by simp; omega)]
  · simp only [Bool.toNat_true, Nat.one_mul, Nat.testBit_two_pow, List.getD_eq_getElem?_getD]
    by_cases hi : i < l.length
    · rw [List.getElem?_append_left hi, decide_eq_false (by omega), Bool.or_false]
    · rw [List.getElem?_eq_none (by omega), List.getElem?_append_right (by omega)]
      by_cases h0 : i = l.length
      · subst h0; simp
      · rw [decide_eq_false (by omega), List.getElem?_eq_none (by simp; omega)]; rfl
/-- The bit at place i. -/
theorem mk_at (hs : List Bool) (i : Nat) : mk hs / 2 ^ i % 2 = (hs.getD i false).toNat := by
  have h := mk_bit hs i
  rw [Nat.testBit_eq_decide_div_mod_eq] at h
  cases hb : hs.getD i false
  · rw [hb, decide_eq_false_iff_not] at h
    have : mk hs / 2 ^ i % 2 < 2 := Nat.mod_lt _ (by decide)
    simp; omega
  · rw [hb, decide_eq_true_eq] at h
    simpa using h

theorem bits_or_nat (a b : Nat) (ha : a < 9223372036854775808) (hb : b < 9223372036854775808) : bits .or .i64 (a : Int) (b : Int) = ((a ||| b : Nat) : Int) := by
  have hx : a ||| b < 2 ^ 63 := Nat.or_lt_two_pow (by omega) (by omega)
  have h1 : (BitVec.ofInt 64 (a : Int)).toNat = a := by
    rw [BitVec.ofInt_natCast, BitVec.toNat_ofNat]; exact Nat.mod_eq_of_lt (by omega)
  have h2 : (BitVec.ofInt 64 (b : Int)).toNat = b := by
    rw [BitVec.ofInt_natCast, BitVec.toNat_ofNat]; exact Nat.mod_eq_of_lt (by omega)
  show IntKind.i64.wrap ((BitVec.ofInt 64 (a : Int) ||| BitVec.ofInt 64 (b : Int)).toNat : Int) = _
  rw [BitVec.toNat_or, h1, h2, IntKind.wrap_i64]
  omega
theorem bits_xor_nat (a b : Nat) (ha : a < 9223372036854775808) (hb : b < 9223372036854775808) : bits .xor .i64 (a : Int) (b : Int) = ((a ^^^ b : Nat) : Int) := by
  have hx : a ^^^ b < 2 ^ 63 := Nat.xor_lt_two_pow (by omega) (by omega)
  have h1 : (BitVec.ofInt 64 (a : Int)).toNat = a := by
    rw [BitVec.ofInt_natCast, BitVec.toNat_ofNat]; exact Nat.mod_eq_of_lt (by omega)
  have h2 : (BitVec.ofInt 64 (b : Int)).toNat = b := by
    rw [BitVec.ofInt_natCast, BitVec.toNat_ofNat]; exact Nat.mod_eq_of_lt (by omega)
  show IntKind.i64.wrap ((BitVec.ofInt 64 (a : Int) ^^^ BitVec.ofInt 64 (b : Int)).toNat : Int) = _
  rw [BitVec.toNat_xor, h1, h2, IntKind.wrap_i64]
  omega
theorem bits_and_nat (a b : Nat) (ha : a < 9223372036854775808) (hb : b < 9223372036854775808) : bits .and .i64 (a : Int) (b : Int) = ((a &&& b : Nat) : Int) := by
  have hx : a &&& b < 2 ^ 63 := Nat.and_lt_two_pow _ (by omega)
  have h1 : (BitVec.ofInt 64 (a : Int)).toNat = a := by
    rw [BitVec.ofInt_natCast, BitVec.toNat_ofNat]; exact Nat.mod_eq_of_lt (by omega)
  have h2 : (BitVec.ofInt 64 (b : Int)).toNat = b := by
    rw [BitVec.ofInt_natCast, BitVec.toNat_ofNat]; exact Nat.mod_eq_of_lt (by omega)
  show IntKind.i64.wrap ((BitVec.ofInt 64 (a : Int) &&& BitVec.ofInt 64 (b : Int)).toNat : Int) = _
  rw [BitVec.toNat_and, h1, h2, IntKind.wrap_i64]
  omega
theorem bit_toNat (h : Bool) : bit h = ((h.toNat : Nat) : Int) := by cases h <;> rfl
theorem and_one (d : Nat) (h : d < 9223372036854775808) : bits BinOp.and IntKind.i64 (d : Int) 1 = ((d % 2 : Nat) : Int) := by
  have h1 := bits_and_nat d 1 h (by decide)
  rw [Nat.and_one_is_mod] at h1
  exact h1
/-- w >> i & 1 -/
theorem mk_shr (hs : List Bool) (h6 : hs.length ≤ 6) (i : Nat) : bits BinOp.and IntKind.i64 (((mk hs / 2 ^ i : Nat)) : Int) 1 = bit (hs.getD i false) := by
  have h := mk_lt64 hs h6
  have : mk hs / 2 ^ i ≤ mk hs := Nat.div_le_self _ _
  rw [and_one _ (by omega), mk_at, bit_toNat]
end Go.Proofs.Qxb6500363a
