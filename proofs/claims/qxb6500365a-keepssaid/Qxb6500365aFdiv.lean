/-
  FLOATS OF 64 BITS AS WHOLE NUMBERS OF 2^-100: the quotient; floats of 32 bits.
-/
import Derived.Test.Qxb6500365aFlt
namespace Go.Proofs.Qxb6500365a
open Ieee
set_option linter.unusedVariables false
set_option linter.unusedSimpArgs false

theorem read_mag {b : Nat} {s : Bool} {m : Nat} {i : Int} (h : double.read b = .number s m i) : m < 2 ^ 53 := by
  have hb : double.binade = 4503599627370496 := rfl
  unfold Format.read at h
  dsimp only at h
  rw [hb] at h
  split at h
  · cases h; omega
  · split at h
    · cases h
      have := Nat.mod_lt (b % double.signWeight) (show 0 < 4503599627370496 by omega)
      omega
    · split at h <;> cases h

theorem dbl_log {b : Nat} {a : Int} {f : Nat} {s : Bool} {m : Nat} {i : Int} (e : a * 2 ^ lo = sgn s (m * 2 ^ (i + 1074).toNat)) (hi : -1074 ≤ i) (h1 : 2 ^ f ≤ a.natAbs) (h2 : a.natAbs < 2 ^ (f + 1)) :
    m ≠ 0 ∧ i + m.log2 = f - 100 ∧ a.natAbs * 2 ^ lo = m * 2 ^ (i + 1074).toNat ∧ a = sgn s a.natAbs := by
  have hA : a.natAbs * 2 ^ lo = m * 2 ^ (i + 1074).toNat := by
    have := congrArg Int.natAbs e
    rw [sgn_abs, Int.natAbs_mul, ← ip, Int.natAbs_natCast] at this
    exact this
  have hp := Nat.two_pow_pos f
  have ha : a.natAbs ≠ 0 := by omega
  have hm : m ≠ 0 := by
    intro h
    rw [h, Nat.zero_mul] at hA
    rcases Nat.mul_eq_zero.1 hA with h | h
    · exact ha h
    · exact absurd h (Nat.ne_of_gt (Nat.two_pow_pos _))
  refine ⟨hm, ?_, hA, ?_⟩
  · have l1 := log2_shift ha lo
    rw [hA, log2_shift hm, log2_unique h1 h2] at l1
    have := lo_eq
    omega
  · rw [← hA, sgn_mul, ip] at e
    exact pow_cancel _ e

theorem quot_datum {x y : Nat} {a b : Int} {fa fb : Nat} (hx : Dbl x a) (hy : Dbl y b) (a1 : 2 ^ fa ≤ a.natAbs) (a2 : a.natAbs < 2 ^ (fa + 1)) (b1 : 2 ^ fb ≤ b.natAbs) (b2 : b.natAbs < 2 ^ (fb + 1)) (hf : fb ≤ fa + 45) :
    ∃ (d : Datum) (q σ : Nat) (sa sb : Bool), (double.read x).quotient 54 (double.read y) = some d ∧ σ ≤ 1 ∧ a = sgn sa a.natAbs ∧ b = sgn sb b.natAbs ∧ At d 1074 (sgn (sa ^^ sb) ((2 * q + σ) * 2 ^ (fa + 45 - fb)) * 2 ^ lo) ∧
      2 * q * 2 ^ (fa + 45 - fb) * b.natAbs ≤ a.natAbs * 2 ^ 100 ∧ (σ = 0 ↔ 2 * q * 2 ^ (fa + 45 - fb) * b.natAbs = a.natAbs * 2 ^ 100) ∧ a.natAbs * 2 ^ 100 < (2 * q + 2) * 2 ^ (fa + 45 - fb) * b.natAbs ∧ 2 ^ 53 ≤ q ∧ q < 2 ^ 55 := by
  obtain ⟨s, m, i, e, hi, hv⟩ := hx
  obtain ⟨t, n, j, e', hj, hw⟩ := hy
  have rm := read_mag e
  have rn := read_mag e'
  obtain ⟨hm, lm, hA, sa⟩ := dbl_log (b := x) hv hi a1 a2
  obtain ⟨hn, ln, hB, sb⟩ := dbl_log (b := y) hw hj b1 b2
  have lm2 : m.log2 < 53 := (Nat.log2_lt hm).2 rm
  rw [e, e']
  unfold Datum.quotient
  dsimp only
  rw [if_neg hn]
  generalize hmore : 54 + n.log2 - m.log2 = more
  have hmi : (more : Int) = i - j + 54 - fa + fb := by omega
  have hwe : ((fa + 45 - fb : Nat) : Int) = fa + 45 - fb := by omega
  generalize fa + 45 - fb = w at *
  have hdm := Nat.div_add_mod (m <<< more) n
  have hml := Nat.mod_lt (m <<< more) (Nat.pos_of_ne_zero hn)
  have hsh : m <<< more = m * 2 ^ more := Nat.shiftLeft_eq _ _
  have lo1 := lo_eq
  refine ⟨_, m <<< more / n, (m <<< more % n != 0).toNat, s, t, rfl, ?_, sa, sb, ⟨_, _, _, rfl, by omega, ?_⟩, ?_⟩
  · cases (m <<< more % n != 0) <;> simp
  · rw [← ip, ← sgn_mul]
    congr 1
    rw [Nat.mul_assoc, ← Nat.pow_add]
    congr 2
    omega
  · have hb53 : 2 ^ 53 ≤ m <<< more / n := by
      rw [Nat.le_div_iff_mul_le (Nat.pos_of_ne_zero hn), hsh]
      have h1 : n < 2 ^ (n.log2 + 1) := Nat.lt_log2_self
      have h2 := Nat.log2_self_le hm
      have h3 : 2 ^ m.log2 * 2 ^ more = 2 ^ 53 * 2 ^ (n.log2 + 1) := by rw [← Nat.pow_add, ← Nat.pow_add]; congr 1; omega
      have h4 := Nat.mul_le_mul_right (2 ^ more) h2
      rw [h3] at h4
      exact Nat.le_trans (Nat.mul_le_mul_left _ (Nat.le_of_lt h1)) h4
    have hb55 : m <<< more / n < 2 ^ 55 := by
      rw [Nat.div_lt_iff_lt_mul (Nat.pos_of_ne_zero hn), hsh]
      have h1 : m < 2 ^ (m.log2 + 1) := Nat.lt_log2_self
      have h2 := Nat.log2_self_le hn
      have h3 : 2 ^ (m.log2 + 1) * 2 ^ more = 2 ^ 55 * 2 ^ n.log2 := by rw [← Nat.pow_add, ← Nat.pow_add]; congr 1; omega
      have h4 := Nat.mul_lt_mul_of_pos_right h1 (Nat.two_pow_pos more)
      rw [h3] at h4
      exact Nat.lt_of_lt_of_le h4 (Nat.mul_le_mul_left _ h2)
    rw [hsh] at hb53 hb55 hdm hml ⊢
    clear hsh
    generalize m * 2 ^ more / n = q at *
    -- everything times 2^lo
    have key : ∀ z : Nat, z * 2 ^ w * b.natAbs * 2 ^ lo = z * n * 2 ^ (w + (j + 1074).toNat) := by
      intro z
      rw [Nat.mul_assoc, hB, Nat.pow_add]
      rw [Nat.mul_assoc, Nat.mul_assoc, ← Nat.mul_assoc (2 ^ w), Nat.mul_comm (2 ^ w) n, Nat.mul_assoc]
    have keyA : a.natAbs * 2 ^ 100 * 2 ^ lo = 2 * (m * 2 ^ more) * 2 ^ (w + (j + 1074).toNat) := by
      rw [Nat.mul_assoc, Nat.mul_comm (2 ^ 100), ← Nat.mul_assoc, hA, Nat.mul_assoc, ← Nat.pow_add, Nat.mul_comm 2, Nat.mul_assoc, Nat.mul_assoc, show (2 * 2 ^ (w + (j + 1074).toNat) : Nat) = 2 ^ (w + (j + 1074).toNat + 1) by rw [Nat.pow_succ, Nat.mul_comm], ← Nat.pow_add]
      congr 2
      omega
    have pl := Nat.two_pow_pos lo
    have pw := Nat.two_pow_pos (w + (j + 1074).toNat)
    generalize m * 2 ^ more % n = r at *
    generalize m * 2 ^ more = D at *
    have hD : D = q * n + r := by rw [Nat.mul_comm] at hdm; omega
    refine ⟨?_, ?_, ?_, hb53, hb55⟩
    · refine Nat.le_of_mul_le_mul_right (c := 2 ^ lo) ?_ pl
      rw [key, keyA]
      refine Nat.mul_le_mul_right _ ?_
      rw [Nat.mul_assoc]; omega
    · constructor
      · intro hs
        have hr : r = 0 := by
          by_cases h : r = 0
          · exact h
          · have : (r != 0) = true := by simpa using h
            rw [this] at hs; cases hs
        refine natpow_cancel lo ?_
        rw [key, keyA, hD, hr, Nat.add_zero, Nat.mul_assoc 2 q n]
      · intro heq
        have h2 := congrArg (· * 2 ^ lo) heq
        try dsimp only at h2
        rw [key, keyA] at h2
        have h3 := Nat.eq_of_mul_eq_mul_right pw h2
        rw [Nat.mul_assoc] at h3
        have hr : r = 0 := by omega
        rw [hr]; rfl
    · refine Nat.lt_of_mul_lt_mul_right (a := 2 ^ lo) ?_
      rw [key, keyA]
      refine Nat.mul_lt_mul_of_pos_right ?_ pw
      rw [Nat.add_mul, Nat.mul_assoc 2 q n]; omega

/-! ### Floats of 32 bits that are whole numbers up to 2^24 -/
theorem read_word_s (j kept : Nat) (h1 : 2 ^ 23 ≤ kept) (h2 : kept < 2 ^ 24) (hj : j ≤ 253) : single.read (single.word false (min (j * single.binade + kept) single.infRung)) = .number false kept (j - 149) := by
  have hb : single.binade = 8388608 := rfl
  have hi : single.infRung = 2139095040 := rfl
  have hs : single.signWeight = 2147483648 := rfl
  have hl : single.leastPlace = -149 := rfl
  rw [hb, hi, Nat.min_eq_left (by omega)]
  unfold Format.read Format.word
  rw [hb, hi, hs, hl]
  simp only [Bool.false_eq_true, if_false]
  rw [show (j * 8388608 + kept) / 2147483648 % 2 = 0 by omega, show (j * 8388608 + kept) % 2147483648 = j * 8388608 + kept by omega, if_neg (by omega), if_pos (by omega)]
  rw [show 8388608 + (j * 8388608 + kept) % 8388608 = kept by omega]
  congr 1
  have : (j * 8388608 + kept) / 8388608 - 1 = j := by omega
  rw [this]
  omega
/-- The word of 32 bits of a whole number. -/
def sz (q : Nat) : Nat := single.nearest false q 0
theorem nearest_s (m : Nat) (i : Int) (k j : Nat) (hm : m ≠ 0) (hl : i + m.log2 - 23 = (j : Int) - 149) (hk : Toward.even.cut false (m <<< (i - ((j : Int) - 149)).toNat) (((j : Int) - 149) - i).toNat = k) : single.nearest false m i = single.word false (min (j * single.binade + k) single.infRung) := by
  unfold Format.nearest
  rw [if_neg hm]
  dsimp only
  rw [show max (i + m.log2 - (single.fractionBits : Nat)) single.leastPlace = (j : Int) - 149 by rw [show single.leastPlace = -149 from rfl, show single.fractionBits = 23 from rfl]; omega]
  rw [hk, show ((j : Int) - 149 - single.leastPlace).toNat = j by rw [show single.leastPlace = -149 from rfl]; omega]
theorem cut_pow (n u : Nat) (hn : n ≠ 0) : Toward.even.cut false (n * 2 ^ u) u = n := by
  obtain ⟨h1, h2⟩ := cut_even false (n * 2 ^ u) u (by rw [log2_shift hn]; omega)
  generalize Toward.even.cut false (n * 2 ^ u) u = k at *
  have hp := Nat.two_pow_pos u
  generalize 2 ^ u = P at *
  rw [← Nat.mul_assoc, ← Nat.mul_assoc] at h1 h2
  have h3 : (2 * k) * P + P = (2 * k + 1) * P := by rw [Nat.add_mul, Nat.one_mul]
  have h4 : (2 * n) * P + P = (2 * n + 1) * P := by rw [Nat.add_mul, Nat.one_mul]
  rw [h3] at h1
  rw [h4] at h2
  have := Nat.le_of_mul_le_mul_right h1 hp
  have := Nat.le_of_mul_le_mul_right h2 hp
  omega
/-- The word of a whole number, and any other spelling of it, is one word; it reads so. -/
theorem sz_spell (q z : Nat) (hq : 1 ≤ q) (hq2 : q ≤ 2 ^ 24) : single.nearest false (q * 2 ^ z) (-(z : Int)) = sz q ∧ ∃ m i, single.read (sz q) = .number false m i ∧ -149 ≤ i ∧ m * 2 ^ (i + 149).toNat = q * 2 ^ 149 := by
  have h0 : q ≠ 0 := by omega
  obtain ⟨L, hL⟩ : ∃ L, q.log2 = L := ⟨_, rfl⟩
  have l1 := Nat.log2_self_le h0
  have l2 : q < 2 ^ (q.log2 + 1) := Nat.lt_log2_self
  rw [hL] at l1 l2
  have hL24 : L < 25 := pow_le_of l1 (Nat.lt_of_le_of_lt hq2 (by decide))
  obtain ⟨k, hk⟩ : ∃ k, k * 2 ^ L = q * 2 ^ 23 := by
    by_cases h : L ≤ 23
    · refine ⟨q * 2 ^ (23 - L), ?_⟩
      rw [Nat.mul_assoc, ← Nat.pow_add]; congr 2; omega
    · have e : q = 2 ^ 24 := by
        have : L = 24 := by omega
        subst this; omega
      refine ⟨2 ^ 23, ?_⟩
      rw [e, show L = 24 by omega]
  have k1 : 2 ^ 23 ≤ k := by
    refine Nat.le_of_mul_le_mul_right (c := 2 ^ L) ?_ (Nat.two_pow_pos _)
    rw [hk, Nat.mul_comm]; exact Nat.mul_le_mul_right _ l1
  have k2 : k < 2 ^ 24 := by
    refine Nat.lt_of_mul_lt_mul_right (a := 2 ^ L) ?_
    rw [hk, show (2 ^ 24 * 2 ^ L : Nat) = 2 ^ (L + 1) * 2 ^ 23 by rw [← Nat.pow_add, ← Nat.pow_add]; congr 1; omega]
    exact Nat.mul_lt_mul_of_pos_right l2 (Nat.two_pow_pos _)
  have hcut : ∀ z : Nat, Toward.even.cut false ((q * 2 ^ z) <<< (-(z : Int) - (((L + 126 : Nat) : Int) - 149)).toNat) ((((L + 126 : Nat) : Int) - 149) - -(z : Int)).toNat = k := by
    intro z
    rw [Nat.shiftLeft_eq]
    by_cases hz : L + z ≤ 23
    · rw [show ((((L + 126 : Nat) : Int) - 149) - -(z : Int)).toNat = 0 by omega, cut_none]
      refine natpow_cancel L ?_
      rw [hk, Nat.mul_assoc, Nat.mul_assoc, ← Nat.pow_add, ← Nat.pow_add]; congr 2; omega
    · rw [show (-(z : Int) - (((L + 126 : Nat) : Int) - 149)).toNat = 0 by omega, Nat.pow_zero, Nat.mul_one]
      obtain ⟨u, hu⟩ : ∃ u : Nat, ((((L + 126 : Nat) : Int) - 149) - -(z : Int)).toNat = u := ⟨_, rfl⟩
      rw [hu]
      have : q * 2 ^ z = k * 2 ^ u := (pow_shift hk (by omega)).symm
      rw [this]
      exact cut_pow k u (by have := Nat.two_pow_pos 23; omega)
  have hsz : ∀ z : Nat, single.nearest false (q * 2 ^ z) (-(z : Int)) = single.word false (min ((L + 126) * single.binade + k) single.infRung) := by
    intro z
    refine nearest_s _ _ k (L + 126) ?_ ?_ (hcut z)
    · intro h
      rcases Nat.mul_eq_zero.1 h with h | h
      · exact h0 h
      · exact absurd h (Nat.ne_of_gt (Nat.two_pow_pos _))
    · rw [log2_shift h0, hL]; omega
  have hs0 : sz q = single.word false (min ((L + 126) * single.binade + k) single.infRung) := by
    have := hsz 0
    rw [Nat.pow_zero, Nat.mul_one] at this
    exact this
  refine ⟨(hsz z).trans hs0.symm, k, ((L + 126 : Nat) : Int) - 149, ?_, by omega, ?_⟩
  · rw [hs0]; exact read_word_s (L + 126) k k1 k2 (by omega)
  · exact pow_shift (u := L) (v := 23) hk (by omega)
end Go.Proofs.Qxb6500365a
