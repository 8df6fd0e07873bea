/-
  THE GATE's WAYS IN WHOLE NUMBERS: Quote's round trip, Take's product and sums, Vwap's mean.
-/
import Derived.Test.Qxb6500365aFtick
namespace Go.Proofs.Qxb6500365a
open Ieee
set_option linter.unusedVariables false
set_option linter.unusedSimpArgs false

theorem mul_near_ex {x y : Nat} {a b c : Int} (hx : Dbl x a) (hy : Dbl y b) (hc : a * b = c * one) (h1 : 2 ^ 52 ≤ c.natAbs) (h2 : c.natAbs < 2 ^ 250) : ∃ (r : Nat) (v u : Int), double.mul x y = some r ∧ Dbl r v ∧ 0 < u ∧ u * 4503599627370496 ≤ c.natAbs ∧ 2 * (v - c) ≤ u ∧ -u ≤ 2 * (v - c) := by
  obtain ⟨d, g1, g2⟩ := at_mul hx hy (by rw [hc, one_eq])
  obtain ⟨v, u, k, r1, r2, r3, r4, r5, r6, r7⟩ := near_ex (K := 2148) (by omega) g2 h1 h2
  exact ⟨_, v, u, by unfold Format.mul; rw [g1]; rfl, r1, r2, r3, r4, r5⟩
theorem add_near_ex {x y : Nat} {a b : Int} (hx : Dbl x a) (hy : Dbl y b) (h2 : (a + b).natAbs < 2 ^ 250) : ∃ (r : Nat) (v u : Int), double.add x y = some r ∧ Dbl r v ∧ 0 ≤ u ∧ u * 4503599627370496 ≤ (a + b).natAbs ∧ 2 * (v - (a + b)) ≤ u ∧ -u ≤ 2 * (v - (a + b)) := by
  by_cases h1 : 2 ^ 52 ≤ (a + b).natAbs
  · obtain ⟨d, g1, g2⟩ := at_sum hx.at hy.at
    rw [← Int.add_mul, lo_eq] at g2
    obtain ⟨v, u, k, r1, r2, r3, r4, r5, r6, r7⟩ := near_ex (K := 1074) (c := a + b) (by omega) g2 h1 h2
    exact ⟨_, v, u, by unfold Format.add; rw [g1]; rfl, r1, by omega, r3, r4, r5⟩
  · obtain ⟨r, e1, e2⟩ := add_dbl hx hy (fits_small (by omega))
    exact ⟨r, a + b, 0, e1, e2, by omega, by omega, by omega, by omega⟩

theorem fits_one {t : Int} (h : t.natAbs < 2 ^ 53) : Fits (t * one) := by rw [← one_eq]; exact fits_int h
theorem add_one {x y : Nat} {a b : Int} (hx : Dbl x (a * one)) (hy : Dbl y (b * one)) (h : (a + b).natAbs < 2 ^ 53) : ∃ r, double.add x y = some r ∧ Dbl r ((a + b) * one) := by
  have := add_dbl hx hy (by rw [← Int.add_mul]; exact fits_one h)
  rw [← Int.add_mul] at this
  exact this
theorem sub_one {x y : Nat} {a b : Int} (hx : Dbl x (a * one)) (hy : Dbl y (b * one)) (h : (a - b).natAbs < 2 ^ 53) : ∃ r, double.sub x y = some r ∧ Dbl r ((a - b) * one) := by
  have := sub_dbl hx hy (by rw [← Int.sub_mul]; exact fits_one h)
  rw [← Int.sub_mul] at this
  exact this
theorem mul_one_one {x y : Nat} {a b : Int} (hx : Dbl x (a * one)) (hy : Dbl y (b * one)) (h : (a * b).natAbs < 2 ^ 53) : ∃ r, double.mul x y = some r ∧ Dbl r (a * b * one) := by
  refine mul_dbl hx hy ?_ (fits_one h)
  rw [one_eq, Int.mul_assoc, Int.mul_left_comm one b, ← Int.mul_assoc, ← Int.mul_assoc]

/-- Quote's round trip. -/
theorem quote_way {d : Int} (hd : Ten d) {n : Int} (h1 : -1000000000000 ≤ n) (h2 : n ≤ 1000000000000) : ∃ x y xv v, double.div (floatOfInt .f64 n) (floatOfInt .f64 d) = some x ∧ Dbl x xv ∧ double.mul x (floatOfInt .f64 d) = some y ∧ Dbl y v ∧ -1000000000000 * one ≤ v ∧ v ≤ 1000000000000 * one ∧ rndP v = n := by
  have hd1 : 1 ≤ d ∧ d ≤ 10000 := by unfold Ten at hd; omega
  have dn := ofInt_one (n := n) (by omega)
  have dd := ofInt_one (n := d) (by omega)
  have hopos : (0 : Int) < one := by decide
  by_cases hex : n = 0 ∨ n = 1000000000000 ∨ n = -1000000000000
  · -- d divides n
    obtain ⟨m, hm⟩ : ∃ m, n = m * d := by
      refine ⟨n / d, ?_⟩
      unfold Ten at hd
      rcases hex with rfl | rfl | rfl <;> rcases hd with rfl | rfl | rfl | rfl | rfl | rfl | rfl | rfl | rfl | rfl <;> decide
    have hm2 : m.natAbs ≤ n.natAbs := by
      rw [hm, Int.natAbs_mul]; exact Nat.le_mul_of_pos_right _ (by omega)
    obtain ⟨x, e1, e2⟩ := div_dbl (V := m * one) dn dd (by
        intro h
        rcases Int.mul_eq_zero.1 h with h | h
        · omega
        · exact absurd h (by decide)) (by rw [hm, one_eq, Int.mul_assoc, Int.mul_assoc m, Int.mul_assoc m, Int.mul_left_comm one, Int.mul_assoc d]) (fits_one (by omega)) (by
        by_cases h0 : n = 0
        · right; rw [h0, Int.zero_mul]
        · left
          rw [Int.natAbs_mul, Int.natAbs_mul, Nat.mul_right_comm]
          refine Nat.mul_le_mul_right _ ?_
          omega)
    obtain ⟨y, e3, e4⟩ := mul_one_one e2 dd (by rw [← hm]; omega)
    rw [← hm] at e4
    refine ⟨x, y, _, _, e1, e2, e3, e4, ?_, ?_, ?_⟩
    · exact Int.mul_le_mul_of_nonneg_right h1 (by omega)
    · exact Int.mul_le_mul_of_nonneg_right h2 (by omega)
    · refine rndP_near _ _ ?_ ?_ <;> rw [Int.sub_self] <;> decide
  · have hn0 : n ≠ 0 := fun h => hex (.inl h)
    obtain ⟨x, v, u, k, D, W, g1, g2, g3, g4, g5, g6, g7, g8, g9, g10, _⟩ := quot_near dn dd hn0 (by omega) hd1.1 (by omega)
    have ho : one = 1267650600228229401496703205376 := rfl
    have hsg : (n < 0 ∧ 2 * (v + D) ≤ u ∧ -u ≤ 2 * (v + D)) ∨ (0 < n ∧ 2 * (v - D) ≤ u ∧ -u ≤ 2 * (v - D)) := by
      rcases Int.lt_or_lt_of_ne hn0 with c | c
      · exact .inl ⟨c, g8 c⟩
      · exact .inr ⟨c, g7 c⟩
    clear g7 g8
    have hB1 : 2 ^ 52 ≤ (v * d).natAbs ∧ (v * d).natAbs < 2 ^ 250 := by
      rw [ho] at g9 g10
      unfold Ten at hd
      rcases hd with rfl | rfl | rfl | rfl | rfl | rfl | rfl | rfl | rfl | rfl <;> omega
    obtain ⟨y, v2, u2, k1, k2, k3, k4, k5, k6⟩ := mul_near_ex (c := v * d) g2 dd (by rw [Int.mul_assoc]) hB1.1 hB1.2
    have hfin : 2 * (v2 - n * one) < one ∧ -one < 2 * (v2 - n * one) ∧ -1000000000000 * one ≤ v2 ∧ v2 ≤ 1000000000000 * one := by
      rw [ho] at g9 g10 ⊢
      clear hB1 dn dd g1 g2 k1 k2 ho
      unfold Ten at hd
      rcases hd with rfl | rfl | rfl | rfl | rfl | rfl | rfl | rfl | rfl | rfl <;> omega
    exact ⟨x, y, v, v2, g1, g2, k1, k2, hfin.2.2.1, hfin.2.2.2, rndP_near _ _ hfin.1 hfin.2.1⟩

/-- Take's product. -/
theorem take_way {fs : Nat} {t q : Int} (h1 : t.natAbs ≤ 1000000000000) (q1 : 1 ≤ q) (q2 : q ≤ 16777216) (hq : Dbl fs (q * one)) : ∃ p pv, double.mul (floatOfInt .f64 t) fs = some p ∧ Dbl p pv ∧ ((t * q).natAbs ≤ 281474976710656 → pv = t * q * one) ∧ (281474976710656 < (t * q).natAbs → 281474976710656 * one < pv ∨ pv < -281474976710656 * one) := by
  have dt := ofInt_one (n := t) (by omega)
  have ho : one = 1267650600228229401496703205376 := rfl
  have hz : (t * q).natAbs ≤ 1000000000000 * 16777216 := by
    rw [Int.natAbs_mul]; exact Nat.mul_le_mul h1 (by omega)
  by_cases hs : (t * q).natAbs < 2 ^ 53
  · obtain ⟨p, e1, e2⟩ := mul_one_one dt hq hs
    refine ⟨p, _, e1, e2, fun _ => rfl, fun h => ?_⟩
    generalize t * q = Z at *
    rw [ho]; omega
  · have hc : t * one * (q * one) = t * q * one * one := by rw [Int.mul_assoc, Int.mul_left_comm one q, ← Int.mul_assoc, ← Int.mul_assoc]
    generalize t * q = Z at *
    obtain ⟨p, v, u, k1, k2, k3, k4, k5, k6⟩ := mul_near_ex (c := Z * one) dt hq hc (by rw [ho]; omega) (by rw [ho]; omega)
    refine ⟨p, v, k1, k2, fun h => by omega, fun h => ?_⟩
    rw [ho] at k4 k5 k6 ⊢
    omega

def Bin (d : Int) : Prop := d = 1 ∨ d = 2 ∨ d = 4 ∨ d = 8 ∨ d = 16 ∨ d = 32 ∨ d = 64
/-- The sum of the taken prices. -/
def Px (d : Int) (px : Nat) (s n : Int) : Prop := ∃ v, Dbl px v ∧ ((Bin d ∧ v * d = s * one) ∨ (¬ Bin d ∧ -(n * (100000000000 * one)) ≤ v ∧ v ≤ n * (100000000000 * one)))
theorem bin_step {d : Int} (j : Nat) (hj : j ≤ 6) (hd : d = 2 ^ j) {px : Nat} {s t v : Int} (hp : Dbl px v) (hv : v * d = s * one) (hs : s.natAbs ≤ 16000000000000) (ht : t.natAbs ≤ 1000000000000) : ∃ z r, double.div (floatOfInt .f64 t) (floatOfInt .f64 d) = some z ∧ double.add px z = some r ∧ ∃ v', Dbl r v' ∧ v' * d = (s + t) * one := by
  have hd1 : 0 < d := by rw [hd]; exact Int.pow_pos (by omega)
  have hd2 : d ≤ 64 := by
    have : d = 1 ∨ d = 2 ∨ d = 4 ∨ d = 8 ∨ d = 16 ∨ d = 32 ∨ d = 64 := by
      have : j = 0 ∨ j = 1 ∨ j = 2 ∨ j = 3 ∨ j = 4 ∨ j = 5 ∨ j = 6 := by omega
      rcases this with rfl | rfl | rfl | rfl | rfl | rfl | rfl <;> rw [hd] <;> decide
    omega
  have dt := ofInt_one (n := t) (by omega)
  have dd := ofInt_one (n := d) (by omega)
  have eL : (2 : Int) ^ (100 - j) * d = one := by rw [hd, ← Int.pow_add, ← one_eq]; congr 1; omega
  have eV : v = s * 2 ^ (100 - j) := by
    refine Int.eq_of_mul_eq_mul_right (a := d) (by omega) ?_
    rw [Int.mul_assoc, eL]; exact hv
  obtain ⟨z, e1, e2⟩ := div_dbl (V := t * 2 ^ (100 - j)) dt dd (by
      intro h
      rcases Int.mul_eq_zero.1 h with h | h
      · omega
      · exact absurd h (by decide)) (by rw [← Int.mul_assoc, Int.mul_assoc t, eL, one_eq]) (fits_pow (by omega) (by omega)) (by
      by_cases h0 : t = 0
      · right; rw [h0, Int.zero_mul]
      · left
        rw [Int.natAbs_mul, Int.natAbs_mul, Nat.mul_right_comm]
        refine Nat.mul_le_mul_right _ ?_
        omega)
  obtain ⟨r, e3, e4⟩ := add_dbl hp e2 (by rw [eV, ← Int.add_mul]; exact fits_pow (by omega) (by omega))
  refine ⟨z, r, e1, e3, _, e4, ?_⟩
  rw [Int.add_mul, hv, Int.mul_assoc, eL, ← Int.add_mul]
theorem px_way {d : Int} (hd : Ten d) {px : Nat} {s n t : Int} (hp : Px d px s n) (hs : s.natAbs ≤ 16000000000000) (ht : t.natAbs ≤ 1000000000000) (n0 : 0 ≤ n) (n1 : n < 16) : ∃ z r, double.div (floatOfInt .f64 t) (floatOfInt .f64 d) = some z ∧ double.add px z = some r ∧ Px d r (s + t) (n + 1) := by
  obtain ⟨v, hv, ⟨hb, he⟩ | ⟨hb, b1, b2⟩⟩ := hp
  · obtain ⟨j, hj, hj2⟩ : ∃ j : Nat, j ≤ 6 ∧ d = 2 ^ j := by
      unfold Bin at hb
      rcases hb with h | h | h | h | h | h | h
      · exact ⟨0, by omega, h⟩
      · exact ⟨1, by omega, h⟩
      · exact ⟨2, by omega, h⟩
      · exact ⟨3, by omega, h⟩
      · exact ⟨4, by omega, h⟩
      · exact ⟨5, by omega, h⟩
      · exact ⟨6, by omega, h⟩
    obtain ⟨z, r, e1, e2, v', e3, e4⟩ := bin_step j hj hj2 hv he hs ht
    exact ⟨z, r, e1, e2, v', e3, .inl ⟨hb, e4⟩⟩
  · have hd3 : d = 100 ∨ d = 1000 ∨ d = 10000 := by unfold Ten at hd; unfold Bin at hb; omega
    have dt := ofInt_one (n := t) (by omega)
    have dd := ofInt_one (n := d) (by omega)
    have ho : one = 1267650600228229401496703205376 := rfl
    obtain ⟨z, zv, e1, e2, z1, z2⟩ : ∃ z zv, double.div (floatOfInt .f64 t) (floatOfInt .f64 d) = some z ∧ Dbl z zv ∧ -(20000000000 * one) ≤ zv ∧ zv ≤ 20000000000 * one := by
      by_cases ht0 : t = 0
      · obtain ⟨z, e1, e2⟩ := div_dbl (V := 0) dt dd (by
            intro h
            rcases Int.mul_eq_zero.1 h with h | h
            · omega
            · exact absurd h (by decide)) (by rw [ht0, Int.zero_mul, Int.zero_mul, Int.zero_mul]) (fits_small (by decide)) (.inr (by rw [ht0, Int.zero_mul]))
        exact ⟨z, 0, e1, e2, by decide, by decide⟩
      · obtain ⟨x, xv, u, k, D, W, g1, g2, g3, g4, g5, g6, g7, g8, g9, g10, _⟩ := quot_near dt dd ht0 (by omega) (by omega) (by omega)
        refine ⟨x, xv, g1, g2, ?_⟩
        have hsg : (t < 0 ∧ 2 * (xv + D) ≤ u ∧ -u ≤ 2 * (xv + D)) ∨ (0 < t ∧ 2 * (xv - D) ≤ u ∧ -u ≤ 2 * (xv - D)) := by
          rcases Int.lt_or_lt_of_ne ht0 with c | c
          · exact .inl ⟨c, g8 c⟩
          · exact .inr ⟨c, g7 c⟩
        clear g7 g8
        rw [ho] at g9 g10 ⊢
        rcases hd3 with rfl | rfl | rfl <;> omega
    rw [ho] at b1 b2 z1 z2
    obtain ⟨r, rv, u, k1, k2, k3, k4, k5, k6⟩ := add_near_ex hv e2 (by omega)
    refine ⟨z, r, e1, k1, rv, k2, .inr ⟨hb, ?_⟩⟩
    rw [ho]
    omega
theorem sum_way {d : Int} (hb : Bin d) {px : Nat} {s n : Int} (hp : Px d px s n) (hs : s.natAbs < 2 ^ 53) : ∃ y, double.mul px (floatOfInt .f64 d) = some y ∧ Dbl y (s * one) := by
  have hd : 1 ≤ d ∧ d ≤ 64 := by unfold Bin at hb; omega
  obtain ⟨v, hv, ⟨_, he⟩ | ⟨hn, _⟩⟩ := hp
  · refine mul_dbl hv (ofInt_one (n := d) (by omega)) ?_ (fits_one hs)
    rw [← Int.mul_assoc, he, one_eq]
  · exact absurd hb hn
theorem px_bound {d : Int} (hd : Ten d) {px : Nat} {s n : Int} (hp : Px d px s n) (n0 : 0 ≤ n) (hs : (s.natAbs : Int) ≤ n * 1000000000000) : ∃ v, Dbl px v ∧ -(n * 1000000000000 * one) ≤ v ∧ v ≤ n * 1000000000000 * one := by
  have ho : one = 1267650600228229401496703205376 := rfl
  obtain ⟨v, hv, ⟨hb, he⟩ | ⟨hb, b1, b2⟩⟩ := hp
  · refine ⟨v, hv, ?_⟩
    rw [ho] at he ⊢
    unfold Bin at hb
    rcases hb with rfl | rfl | rfl | rfl | rfl | rfl | rfl <;> omega
  · refine ⟨v, hv, ?_⟩
    rw [ho] at b1 b2 ⊢
    omega

/-- Feed's price and its product. -/
theorem feed_way {d : Int} (hd : Ten d) {m : Int} (hm : m.natAbs ≤ 549755813888) (u k : Nat) (hu : u ≤ 8) (hk : k ≤ 16) : ∃ p x y xv yv, double.mul (floatOfInt .f64 m) (floatOfInt .f64 (2 ^ u)) = some p ∧ double.div p (floatOfInt .f64 (2 ^ k)) = some x ∧ Dbl x xv ∧ double.mul x (floatOfInt .f64 d) = some y ∧ Dbl y yv ∧ yv * 2 ^ k = m * 2 ^ u * d * one ∧ yv.natAbs < 2 ^ 200 := by
  have hd1 : 1 ≤ d ∧ d ≤ 10000 := by unfold Ten at hd; omega
  have pu : ((2 : Int) ^ u) ≤ 256 ∧ 1 ≤ (2 : Int) ^ u := by
    have : u = 0 ∨ u = 1 ∨ u = 2 ∨ u = 3 ∨ u = 4 ∨ u = 5 ∨ u = 6 ∨ u = 7 ∨ u = 8 := by omega
    rcases this with rfl | rfl | rfl | rfl | rfl | rfl | rfl | rfl | rfl <;> decide
  have pk : ((2 : Int) ^ k) ≤ 65536 ∧ 1 ≤ (2 : Int) ^ k := by
    have h1 : ((2 : Int) ^ k) ≤ 2 ^ 16 := by
      rw [← ip, ← ip]; exact Int.ofNat_le.2 (Nat.pow_le_pow_right (by omega) hk)
    have h2 : (0 : Int) < 2 ^ k := Int.pow_pos (by omega)
    omega
  have dm := ofInt_one (n := m) (by omega)
  have du := ofInt_one (n := 2 ^ u) (by omega)
  have dk := ofInt_one (n := 2 ^ k) (by omega)
  have dd := ofInt_one (n := d) (by omega)
  have hmu : (m * 2 ^ u).natAbs ≤ 549755813888 * 256 := by
    rw [Int.natAbs_mul]; exact Nat.mul_le_mul hm (by omega)
  obtain ⟨p, e1, e2⟩ := mul_one_one dm du (by omega)
  have eL : (2 : Int) ^ (100 - k) * 2 ^ k = one := by rw [← Int.pow_add, ← one_eq]; congr 1; omega
  obtain ⟨x, e3, e4⟩ := div_dbl (V := m * 2 ^ (u + (100 - k))) e2 dk (by
      intro h
      rcases Int.mul_eq_zero.1 h with h | h
      · omega
      · exact absurd h (by decide)) (by rw [Int.pow_add, ← Int.mul_assoc, ← Int.mul_assoc, Int.mul_assoc (m * 2 ^ u), eL, one_eq]) (fits_pow (by omega) (by omega)) (by
      by_cases h0 : m = 0
      · right; rw [h0, Int.zero_mul, Int.zero_mul]
      · left
        rw [Int.natAbs_mul, Int.natAbs_mul (m * 2 ^ u), Nat.mul_right_comm]
        refine Nat.mul_le_mul_right _ ?_
        have : 1 ≤ (m * 2 ^ u).natAbs := by
          rw [Int.natAbs_mul]; exact Nat.mul_pos (by omega) (by omega)
        omega)
  have hmd : (m * d).natAbs ≤ 549755813888 * 10000 := by
    rw [Int.natAbs_mul]; exact Nat.mul_le_mul hm (by omega)
  obtain ⟨y, e5, e6⟩ := mul_dbl (c := m * d * 2 ^ (u + (100 - k))) e4 dd (by rw [one_eq, Int.mul_right_comm m d, Int.mul_assoc (m * 2 ^ (u + (100 - k)))]) (fits_pow (by omega) (by omega))
  refine ⟨p, x, y, _, _, e1, e3, e4, e5, e6, ?_, ?_⟩
  · rw [Int.pow_add, Int.mul_assoc, Int.mul_assoc, Int.mul_assoc, eL, ← Int.mul_assoc, ← Int.mul_assoc, Int.mul_right_comm m d]
  · rw [Int.natAbs_mul]
    have h1 : ((2 : Int) ^ (u + (100 - k))).natAbs = 2 ^ (u + (100 - k)) := by rw [← ip, Int.natAbs_natCast]
    rw [h1]
    have h2 : 2 ^ (u + (100 - k)) ≤ 2 ^ 108 := Nat.pow_le_pow_right (by omega) (by omega)
    have h3 := Nat.mul_le_mul hmd h2
    omega

/-- The cut and what is left. -/
theorem ticks_way {y : Nat} {v : Int} (hy : Dbl y v) (h1 : -1000000000000 * one ≤ v) (h2 : v ≤ 1000000000000 * one) : floatToIntVal .f64 y .i64 = some (v.tdiv one) ∧ (v.tdiv one).natAbs ≤ 1000000000000 ∧ ∃ r, double.sub y (floatOfInt .f64 (v.tdiv one)) = some r ∧ Dbl r (v - v.tdiv one * one) := by
  have ho : one = 1267650600228229401496703205376 := rfl
  have hb := tdiv_bounds v
  have ht : (v.tdiv one).natAbs ≤ 1000000000000 := by
    rw [ho] at hb h1 h2 ⊢
    generalize v.tdiv 1267650600228229401496703205376 = t at *
    rcases Int.lt_or_le v 0 with c | c
    · have := hb.2 (by omega); omega
    · have := hb.1 c; omega
  refine ⟨?_, ht, ?_⟩
  · unfold floatToIntVal
    have := toInt_dbl hy
    rw [one_eq] at this
    rw [show FloatKind.f64.decode y = double.read y from rfl, this]
    have k1 : IntKind.i64.min = -9223372036854775808 := by decide
    have k2 : IntKind.i64.max = 9223372036854775807 := by decide
    dsimp only
    rw [k1, k2, if_pos (by omega)]
  · refine sub_dbl hy (ofInt_one (n := v.tdiv one) (by omega)) ?_
    have h := fits_rem (dbl_fits hy (by
      refine Nat.lt_of_lt_of_le (m := 2 ^ 141) ?_ (Nat.pow_le_pow_right (by omega) (by omega))
      rw [ho] at h1 h2
      omega))
    rw [one_eq] at h
    exact h

/-- A whole float back to its int. -/
theorem whole_way {x : Nat} {n : Int} (hx : Dbl x (n * one)) (hn : n.natAbs < 2 ^ 53) : floatToIntVal .f64 x .i64 = some n := by
  unfold floatToIntVal
  have := toInt_dbl hx
  rw [one_eq, Int.mul_tdiv_cancel _ (by decide)] at this
  rw [show FloatKind.f64.decode x = double.read x from rfl, this]
  have k1 : IntKind.i64.min = -9223372036854775808 := by decide
  have k2 : IntKind.i64.max = 9223372036854775807 := by decide
  dsimp only
  rw [k1, k2, if_pos (by omega)]

/-- Vwap's quotient. -/
theorem vwap_way {a b : Nat} {A v : Int} (ha : Dbl a (A * one)) (hb : Dbl b (v * one)) (hA : 0 ≤ A) (hA2 : A ≤ 4503599627370496) (hv : 1 ≤ v) (hv2 : v ≤ 268435456) : ∃ r t, double.div a b = some r ∧ floatToIntVal .f64 r .i64 = some t ∧ (t = A / v ∨ t = A / v + 1) ∧ 0 ≤ t := by
  have ho : one = 1267650600228229401496703205376 := rfl
  have hq0 : 0 ≤ A / v := Int.ediv_nonneg hA (by omega)
  have hqA : A / v ≤ A := Int.ediv_le_self _ hA
  obtain ⟨r, rv, e1, e2, e3, e4⟩ : ∃ r rv, double.div a b = some r ∧ Dbl r rv ∧ A / v * one ≤ rv ∧ rv ≤ (A / v + 1) * one := by
    by_cases h0 : A = 0
    · subst h0
      obtain ⟨r, e1, e2⟩ := div_dbl (V := 0) ha hb (by
          intro h
          rcases Int.mul_eq_zero.1 h with h | h
          · omega
          · exact absurd h (by decide)) (by rw [Int.zero_mul, Int.zero_mul, Int.zero_mul]) (fits_small (by decide)) (.inr (by rw [Int.zero_mul]))
      exact ⟨r, 0, e1, e2, by rw [Int.zero_ediv]; decide, by rw [Int.zero_ediv]; decide⟩
    · obtain ⟨x, xv, u, k, D, W, g1, g2, g3, g4, g5, g6, g7, g8, g9, g10, hk, ⟨z, hz⟩, lowF, highF⟩ := quot_near ha hb h0 (by omega) hv (by omega)
      obtain ⟨p1, p2⟩ := g7 (by omega)
      have l1 := lowF (A / v) (by have := Int.ediv_mul_le A (b := v) (by omega); omega)
      have l2 := highF (A / v + 1) (by have := Int.lt_ediv_add_one_mul_self A (b := v) (by omega); omega)
      refine ⟨x, xv, g1, g2, ?_, ?_⟩
      · rw [hk, hz, ← Int.mul_assoc]
        refine Int.mul_le_mul_of_nonneg_right ?_ (by omega)
        rw [hz, ← Int.mul_assoc] at l1
        rw [hk] at p1 p2
        have q1 : (2 * (A / v * z)) * u ≤ (2 * k + 1) * u := by
          rw [Int.add_mul, Int.one_mul, Int.mul_assoc, Int.mul_assoc 2]; omega
        have := Int.le_of_mul_le_mul_right q1 g3
        omega
      · rw [hk, hz, ← Int.mul_assoc]
        refine Int.mul_le_mul_of_nonneg_right ?_ (by omega)
        rw [hz, ← Int.mul_assoc] at l2
        rw [hk] at p1 p2
        have q1 : (2 * k) * u ≤ (2 * ((A / v + 1) * z) + 1) * u := by
          rw [Int.add_mul, Int.one_mul, Int.mul_assoc, Int.mul_assoc 2]; omega
        have := Int.le_of_mul_le_mul_right q1 g3
        omega
  refine ⟨r, rv.tdiv one, e1, ?_, ?_, ?_⟩
  · unfold floatToIntVal
    have := toInt_dbl e2
    rw [one_eq] at this
    rw [show FloatKind.f64.decode r = double.read r from rfl, this]
    have k1 : IntKind.i64.min = -9223372036854775808 := by decide
    have k2 : IntKind.i64.max = 9223372036854775807 := by decide
    have hb := (tdiv_bounds rv).1 (by rw [ho] at e3; omega)
    dsimp only
    rw [ho] at e3 e4 hb ⊢
    generalize rv.tdiv 1267650600228229401496703205376 = t at *
    generalize A / v = F at *
    rw [k1, k2, if_pos (by omega)]
  · have hb := (tdiv_bounds rv).1 (by rw [ho] at e3; omega)
    rw [ho] at e3 e4 hb ⊢
    generalize rv.tdiv 1267650600228229401496703205376 = t at *
    generalize A / v = F at *
    omega
  · have hb := (tdiv_bounds rv).1 (by rw [ho] at e3; omega)
    rw [ho] at e3 e4 hb ⊢
    generalize rv.tdiv 1267650600228229401496703205376 = t at *
    generalize A / v = F at *
    omega
end Go.Proofs.Qxb6500365a
