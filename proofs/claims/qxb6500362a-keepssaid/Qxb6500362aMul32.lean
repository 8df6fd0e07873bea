/-
  THE REAL BENCH: Mul32, the narrow product.
-/
import Derived.Test.Qxb6500362aOps2
namespace Go.Proofs.Qxb6500362a
open Go.RowKit Go.Qx
set_option linter.unusedVariables false
set_option linter.unusedSimpArgs false

theorem w_half : W64 4656722014701092864 2048 := by
  have h := w64_of 2048 (by decide)
  have e : FloatKind.f64.nearest 2048 = 4656722014701092864 := by decide
  rw [e] at h; exact h

def m32ok (re im : Nat → Int) (i j : Int) : Bool := inP (re i.toNat) (im i.toNat) 2048 && inP (re j.toNat) (im j.toNat) 2048
def mul32E (re im : Nat → Int) (i j : Int) : Int := if cellsP i j = true then (if m32ok re im i j = true then mulE re im i j else 2) else 1
def mul32R (re im : Nat → Int) (i j : Int) : Nat → Int := if cellsP i j = true then (if m32ok re im i j = true then mulR re im i j else re) else re
def mul32I (re im : Nat → Int) (i j : Int) : Nat → Int := if cellsP i j = true then (if m32ok re im i j = true then mulI re im i j else im) else im

theorem half_bound {a b : Int} (ha : -2048 ≤ a ∧ a ≤ 2048) (hb : -2048 ≤ b ∧ b ≤ 2048) : (a * b).natAbs ≤ 4194304 := by
  rw [Int.natAbs_mul]
  have h1 : a.natAbs ≤ 2048 := by omega
  have h2 : b.natAbs ≤ 2048 := by omega
  exact Nat.mul_le_mul h1 h2

set_option maxHeartbeats 1000000 in
theorem mul32_any (w : World) (x v : Nat) (re im : Nat → Int) (R : Rep w x v re im) (I : Inv re im) (i j : Int) : Calls Try.prog 25 #[ptr x, .int .i64 i, .int .i64 j] w (repPost w x v (mul32E re im i j) (mul32R re im i j) (mul32I re im i j)) := by
  have hc := cells_any w i j
  rcases cells_cases i j with ⟨k, l, rfl, rfl, hk, hl, e0⟩ | e0
  · rw [e0] at hc
    obtain ⟨aa, bb, rowB, hrow⟩ := R.row
    have c0 := R.blk.cell 0
    simp at c0
    have cr := (rowB.cell k).trans (rowC_get aa bb k hk)
    have cr2 := (rowB.cell l).trans (rowC_get aa bb l hl)
    have i0 : (0 : Int) ≤ (k : Int) := by omega
    have i1 : (k : Int) < 4 := by omega
    have j0 : (0 : Int) ≤ (l : Int) := by omega
    have j1 : (l : Int) < 4 := by omega
    have hw1 := hide (within_any w _ _ _ _ _ _ (hrow k hk).1 (hrow k hk).2 w_half)
    have hw2 := hide (within_any w _ _ _ _ _ _ (hrow l hl).1 (hrow l hl).2 w_half)
    have RH := hide R
    by_cases hA : inP (re k) (im k) 2048 = true
    · by_cases hB : inP (re l) (im l) 2048 = true
      · have ok : m32ok re im k l = true := by simp [m32ok, hA, hB]
        have e1 : Hid (mul32E re im k l = putE (re k * re l - im k * im l) (re k * im l + im k * re l)) := by show _ = _; simp [mul32E, e0, ok, mulE]
        have e2 : Hid (mul32R re im k l = putF re k (re k * re l - im k * im l) (re k * im l + im k * re l) (re k * re l - im k * im l)) := by show _ = _; simp [mul32R, e0, ok, mulR]
        have e3 : Hid (mul32I re im k l = putF im k (re k * re l - im k * im l) (re k * im l + im k * re l) (re k * im l + im k * re l)) := by show _ = _; simp [mul32I, e0, ok, mulI]
        rw [unhide e1, unhide e2, unhide e3]
        have hA' := hA
        have hB' := hB
        simp only [inP, decide_eq_true_eq] at hA' hB'
        have b1 := half_bound ⟨hA'.1, hA'.2.1⟩ ⟨hB'.1, hB'.2.1⟩
        have b2 := half_bound ⟨hA'.2.2.1, hA'.2.2.2⟩ ⟨hB'.2.2.1, hB'.2.2.2⟩
        have b3 := half_bound ⟨hA'.1, hA'.2.1⟩ ⟨hB'.2.2.1, hB'.2.2.2⟩
        have b4 := half_bound ⟨hA'.2.2.1, hA'.2.2.2⟩ ⟨hB'.1, hB'.2.1⟩
        obtain ⟨p1, p2, n1, u1, u2⟩ := cnarrow (hrow k hk).1 (hrow k hk).2 (by omega) (by omega) Try.prog 66 73 (by kernel_rfl) (by kernel_rfl)
        obtain ⟨p3, p4, n2, u3, u4⟩ := cnarrow (hrow l hl).1 (hrow l hl).2 (by omega) (by omega) Try.prog 66 73 (by kernel_rfl) (by kernel_rfl)
        obtain ⟨p5, p6, n3, u5, u6⟩ := cmul32_whole u1 u2 u3 u4 (by omega) (by omega) (by omega) (by omega) (by omega) (by omega) (by omega) (by omega) (by omega) (by omega)
        obtain ⟨p7, p8, n4, u7, u8⟩ := cwiden u5 u6 (by omega) (by omega) Try.prog 73 66 (by kernel_rfl) (by kernel_rfl)
        have n3' := n3 Try.prog 73
        have hput := hide (put_any w x v re im R k hk p7 p8 _ _ u7 u8)
        rw [hA] at hw1
        rw [hB] at hw2
        unfold repPost at hput ⊢
        unfold ptr at hput ⊢
        generalize re k * re l - im k * im l = NN at *
        generalize re k * im l + im k * re l = MM at *
        clear e1 e2 e3 e0 rowB hrow R I hA hB hA' hB' ok b1 b2 b3 b4 u1 u2 u3 u4 u5 u6 u7 u8 n3
        go_enter Try.func25, Try.ntmps25
        go_wp2_with fail
        refine hc.mono ?_
        rintro e w' ⟨rfl, rfl⟩
        go_wp2_with fail
        refine (unhide hw1).mono ?_
        rintro e w' ⟨rfl, rfl⟩
        go_wp2_with fail
        refine (unhide hw2).mono ?_
        rintro e w' ⟨rfl, rfl⟩
        go_wp2_with fail
        refine (unhide hput).mono ?_
        rintro e w2 ⟨rfl, ch2, R2⟩
        go_wp2
        go_ret
        exact ⟨rfl, ch2, R2⟩
      · have hB' : inP (re l) (im l) 2048 = false := by simpa using hB
        have ok : m32ok re im k l = false := by simp [m32ok, hB']
        have e1 : Hid (mul32E re im k l = 2) := by show _ = _; simp [mul32E, e0, ok]
        have e2 : Hid (mul32R re im k l = re) := by show _ = _; simp [mul32R, e0, ok]
        have e3 : Hid (mul32I re im k l = im) := by show _ = _; simp [mul32I, e0, ok]
        rw [unhide e1, unhide e2, unhide e3]
        rw [hA] at hw1
        rw [hB'] at hw2
        unfold repPost ptr
        clear e1 e2 e3 e0 rowB hrow R I hA hB hB' ok
        go_enter Try.func25, Try.ntmps25
        go_wp2_with fail
        refine hc.mono ?_
        rintro e w' ⟨rfl, rfl⟩
        go_wp2_with fail
        refine (unhide hw1).mono ?_
        rintro e w' ⟨rfl, rfl⟩
        go_wp2_with fail
        refine (unhide hw2).mono ?_
        rintro e w' ⟨rfl, rfl⟩
        go_wp2
        go_ret
        exact ⟨rfl, Chg.refl _ _, unhide RH⟩
    · have hA' : inP (re k) (im k) 2048 = false := by simpa using hA
      have ok : m32ok re im k l = false := by simp [m32ok, hA']
      have e1 : Hid (mul32E re im k l = 2) := by show _ = _; simp [mul32E, e0, ok]
      have e2 : Hid (mul32R re im k l = re) := by show _ = _; simp [mul32R, e0, ok]
      have e3 : Hid (mul32I re im k l = im) := by show _ = _; simp [mul32I, e0, ok]
      rw [unhide e1, unhide e2, unhide e3]
      rw [hA'] at hw1
      unfold repPost ptr
      clear e1 e2 e3 e0 rowB hrow R I hA hA' ok
      go_enter Try.func25, Try.ntmps25
      go_wp2_with fail
      refine hc.mono ?_
      rintro e w' ⟨rfl, rfl⟩
      go_wp2_with fail
      refine (unhide hw1).mono ?_
      rintro e w' ⟨rfl, rfl⟩
      go_wp2
      go_ret
      exact ⟨rfl, Chg.refl _ _, unhide RH⟩
  · have e1 : Hid (mul32E re im i j = 1) := by show _ = _; simp [mul32E, e0]
    have e2 : Hid (mul32R re im i j = re) := by show _ = _; simp [mul32R, e0]
    have e3 : Hid (mul32I re im i j = im) := by show _ = _; simp [mul32I, e0]
    rw [e0] at hc
    rw [unhide e1, unhide e2, unhide e3]
    have RH := hide R
    unfold repPost ptr
    clear e1 e2 e3 e0 R I
    go_enter Try.func25, Try.ntmps25
    go_wp2_with fail
    refine hc.mono ?_
    rintro e w' ⟨rfl, rfl⟩
    go_wp2
    go_ret
    exact ⟨rfl, Chg.refl _ _, unhide RH⟩
end Go.Proofs.Qxb6500362a
