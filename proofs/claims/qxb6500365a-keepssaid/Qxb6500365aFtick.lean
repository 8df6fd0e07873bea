/-
  THE GATE's TICKS: the round trip, the product, the sums, the weighted mean.
-/
import Derived.Test.Qxb6500365aFgate
namespace Go.Proofs.Qxb6500365a
open Ieee
set_option linter.unusedVariables false
set_option linter.unusedSimpArgs false

/-- v / 2^100 to the nearest whole number, a half away from zero. -/
def rndP (v : Int) : Int := if 2 * (v - v.tdiv one * one) ≥ one then v.tdiv one + 1 else if 2 * (v - v.tdiv one * one) ≤ -one then v.tdiv one - 1 else v.tdiv one
theorem tdiv_bounds (v : Int) : (0 ≤ v → 0 ≤ v - v.tdiv one * one ∧ v - v.tdiv one * one < one) ∧ (v ≤ 0 → v - v.tdiv one * one ≤ 0 ∧ -one < v - v.tdiv one * one) := by
  have ho : one = 1267650600228229401496703205376 := rfl
  constructor
  · intro h
    rw [Int.tdiv_eq_ediv_of_nonneg h]
    have h1 := Int.ediv_mul_le v (b := one) (by decide)
    have h2 := Int.lt_ediv_add_one_mul_self v (b := one) (by decide)
    rw [Int.add_mul, Int.one_mul] at h2
    omega
  · intro h
    have e : v.tdiv one = -((-v).tdiv one) := by rw [Int.neg_tdiv, Int.neg_neg]
    rw [e, Int.tdiv_eq_ediv_of_nonneg (by omega)]
    have h1 := Int.ediv_mul_le (-v) (b := one) (by decide)
    have h2 := Int.lt_ediv_add_one_mul_self (-v) (b := one) (by decide)
    rw [Int.add_mul, Int.one_mul] at h2
    rw [Int.neg_mul]
    omega
theorem rndP_near (v n : Int) (h1 : 2 * (v - n * one) < one) (h2 : -one < 2 * (v - n * one)) : rndP v = n := by
  have ho : one = 1267650600228229401496703205376 := rfl
  obtain ⟨b1, b2⟩ := tdiv_bounds v
  unfold rndP
  rw [ho] at h1 h2 b1 b2 ⊢
  clear ho
  generalize v.tdiv 1267650600228229401496703205376 = t at *
  by_cases hv : 0 ≤ v
  · have := b1 hv
    split
    · omega
    · split <;> omega
  · have := b2 (by omega)
    split
    · omega
    · split <;> omega

/-- Go's RoundDiv. -/
def roundDiv (n d : Int) : Int := if d < 1 then 0 else (if n < 0 then -1 else 1) * ((n.natAbs : Int) / d + if 2 * ((n.natAbs : Int) % d) ≥ d then 1 else 0)
theorem rndP_div (v n d : Int) (hd : 1 ≤ d) (h : v * d = n * one) : rndP v = roundDiv n d := by
  have ho : 0 < one := by decide
  unfold roundDiv
  rw [if_neg (by omega)]
  have hq1 := Int.mul_ediv_add_emod (n.natAbs : Int) d
  have hq2 := Int.emod_nonneg (n.natAbs : Int) (b := d) (by omega)
  have hq3 := Int.emod_lt_of_pos (n.natAbs : Int) (b := d) (by omega)
  generalize (n.natAbs : Int) / d = q at *
  generalize (n.natAbs : Int) % d = r at *
  obtain ⟨b1, b2⟩ := tdiv_bounds v
  -- |v| d = |n| one
  have key : ∀ a m : Int, 0 ≤ a → a * d = m * one → d * q + r = m → ∀ t : Int, 0 ≤ a - t * one → a - t * one < one → t = q ∧ (2 * (a - t * one) ≥ one ↔ 2 * r ≥ d) := by
    intro a m ha hm hqr t t1 t2
    have e1 : (a - t * one) * d = (d * q + r - t * d) * one := by
      rw [Int.sub_mul, hm, ← hqr, Int.sub_mul]
      congr 1
      rw [Int.mul_assoc, Int.mul_assoc, Int.mul_comm one d]
    have e2 : d * q + r - t * d = d * (q - t) + r := by rw [Int.mul_sub, Int.mul_comm t d]; omega
    rw [e2] at e1
    have h1 : 0 ≤ (d * (q - t) + r) * one := by rw [← e1]; exact Int.mul_nonneg t1 (by omega)
    have h2 : (d * (q - t) + r) * one < d * one := by
      rw [← e1, Int.mul_comm d one]; exact Int.mul_lt_mul_of_pos_right t2 (by omega)
    have h3 : d * (q - t) + r < d := Int.lt_of_mul_lt_mul_right h2 (by omega)
    have h4 : 0 ≤ d * (q - t) + r := by
      refine Int.le_of_mul_le_mul_right (a := one) ?_ ho
      rw [Int.zero_mul]; exact h1
    have ht : t = q := by
      rcases Int.lt_trichotomy t q with c | c | c
      · have : d * 1 ≤ d * (q - t) := Int.mul_le_mul_of_nonneg_left (by omega) (by omega)
        rw [Int.mul_one] at this
        omega
      · exact c
      · have : d * (q - t) ≤ d * (-1) := Int.mul_le_mul_of_nonneg_left (by omega) (by omega)
        rw [Int.mul_neg, Int.mul_one] at this
        omega
    subst ht
    refine ⟨rfl, ?_⟩
    rw [Int.sub_self, Int.mul_zero, Int.zero_add] at e1
    constructor
    · intro hh
      refine Int.le_of_mul_le_mul_right (a := one) ?_ ho
      rw [Int.mul_assoc, ← e1, ← Int.mul_assoc, Int.mul_comm d one]
      exact Int.mul_le_mul_of_nonneg_right hh (by omega)
    · intro hh
      refine Int.le_of_mul_le_mul_right (a := d) ?_ (by omega)
      rw [Int.mul_assoc, e1, ← Int.mul_assoc, Int.mul_comm one d]
      exact Int.mul_le_mul_of_nonneg_right hh (by omega)
  by_cases hn : n < 0
  · have hv : v ≤ 0 := by
      rcases Int.lt_or_le 0 v with c | c
      · have : 0 < v * d := Int.mul_pos c (by omega)
        have : n * one < 0 := Int.mul_neg_of_neg_of_pos hn ho
        omega
      · exact c
    have hb := b2 hv
    obtain ⟨k1, k2⟩ := key (-v) (-n) (by omega) (by rw [Int.neg_mul, Int.neg_mul, h]) (by omega) (-(v.tdiv one)) (by rw [Int.neg_mul]; omega) (by rw [Int.neg_mul]; omega)
    rw [if_pos hn]
    unfold rndP
    have k2' : 2 * (v - v.tdiv one * one) ≤ -one ↔ 2 * r ≥ d := by
      rw [← k2, Int.neg_mul]; omega
    by_cases hr : 2 * r ≥ d
    · have := k2'.2 hr
      rw [if_neg (by omega), if_pos this, if_pos hr]; omega
    · have : ¬ 2 * (v - v.tdiv one * one) ≤ -one := fun c => hr (k2'.1 c)
      rw [if_neg (by omega), if_neg this, if_neg hr]; omega
  · have hv : 0 ≤ v := by
      rcases Int.lt_or_le v 0 with c | c
      · have : v * d < 0 := Int.mul_neg_of_neg_of_pos c (by omega)
        have : 0 ≤ n * one := Int.mul_nonneg (by omega) (by omega)
        omega
      · exact c
    have hb := b1 hv
    obtain ⟨k1, k2⟩ := key v n hv h (by omega) (v.tdiv one) hb.1 hb.2
    rw [if_neg hn]
    unfold rndP
    by_cases hr : 2 * r ≥ d
    · rw [if_pos (k2.2 hr), if_pos hr]; omega
    · have : ¬ 2 * (v - v.tdiv one * one) ≥ one := fun c => hr (k2.1 c)
      rw [if_neg this, if_neg (by omega), if_neg hr]; omega

def Ten (d : Int) : Prop := d = 1 ∨ d = 2 ∨ d = 4 ∨ d = 8 ∨ d = 16 ∨ d = 32 ∨ d = 64 ∨ d = 100 ∨ d = 1000 ∨ d = 10000
instance (d : Int) : Decidable (Ten d) := by unfold Ten; infer_instance

/-- A rounding, in plain: the result is within half a unit, the unit is at most |c| / 2^52. -/
theorem near_ex {d : Datum} {K : Nat} {c : Int} (hK : 100 ≤ K) (h : At d K (c * 2 ^ (K - 100))) (h1 : 2 ^ 52 ≤ c.natAbs) (h2 : c.natAbs < 2 ^ 250) : ∃ v u k : Int, Dbl (double.write d) v ∧ 0 < u ∧ u * 4503599627370496 ≤ c.natAbs ∧ 2 * (v - c) ≤ u ∧ -u ≤ 2 * (v - c) ∧ v = k * u ∧ (c.natAbs < 2 ^ 153 → ∃ z, one = z * u) := by
  have h0 : c.natAbs ≠ 0 := by
    have : 0 < 2 ^ 52 := by decide
    omega
  obtain ⟨f, f1, f2⟩ := log2_ex h0
  have hf : 52 < f + 1 := pow_le_of h1 f2
  have hf2 := pow_le_of f1 h2
  obtain ⟨k, k1, k2, k3⟩ := write_near hK h f1 f2 (by omega) (by omega)
  refine ⟨_, 2 ^ (f - 52), k, k1, Int.pow_pos (by omega), ?_, by omega, by omega, rfl, ?_⟩
  · have : (2 : Int) ^ (f - 52) * 4503599627370496 = ((2 ^ f : Nat) : Int) := by
      rw [ip, show (4503599627370496 : Int) = 2 ^ 52 by decide, ← Int.pow_add]; congr 1; omega
    rw [this]
    omega
  · intro h
    have := pow_le_of f1 h
    refine ⟨2 ^ (152 - f), ?_⟩
    rw [← one_eq, ← Int.pow_add]; congr 1; omega

theorem quot_near {x y : Nat} {n d : Int} (hx : Dbl x (n * one)) (hy : Dbl y (d * one)) (hn : n ≠ 0) (hn2 : n.natAbs ≤ 2 ^ 52) (hd : 1 ≤ d) (hd2 : d ≤ 2 ^ 28) :
    ∃ (r : Nat) (v u k D W : Int), double.div x y = some r ∧ Dbl r v ∧ 0 < u ∧ u * 4503599627370496 ≤ D ∧ 0 < W ∧ 18014398509481984 * W ≤ D ∧ (0 < n → 2 * (v - D) ≤ u ∧ -u ≤ 2 * (v - D)) ∧ (n < 0 → 2 * (v + D) ≤ u ∧ -u ≤ 2 * (v + D)) ∧ D * d ≤ n.natAbs * one + W * d ∧ n.natAbs * one < D * d + 2 * (W * d) ∧ v = k * u ∧ (∃ z, one = z * u) ∧
      (∀ F : Int, F * d ≤ n.natAbs → F * one ≤ D) ∧ (∀ F : Int, n.natAbs < F * d → D ≤ F * one) := by
  have hone : one = ((2 ^ 100 : Nat) : Int) := by decide
  have hopos : (0 : Int) < one := by decide
  have ea : (n * one).natAbs = n.natAbs * 2 ^ 100 := by rw [Int.natAbs_mul]; rfl
  have eb : (d * one).natAbs = d.natAbs * 2 ^ 100 := by rw [Int.natAbs_mul]; rfl
  obtain ⟨l, l1, l2⟩ := log2_ex (n := n.natAbs) (by omega)
  obtain ⟨e, e1, e2⟩ := log2_ex (n := d.natAbs) (by omega)
  have hl : l < 53 := pow_le_of l1 (by omega)
  have he : e < 29 := pow_le_of e1 (by omega)
  have pw : ∀ (m f : Nat), 2 ^ f ≤ m → 2 ^ (f + 100) ≤ m * 2 ^ 100 := fun m f h => by rw [Nat.pow_add]; exact Nat.mul_le_mul_right _ h
  have pw2 : ∀ (m f : Nat), m < 2 ^ (f + 1) → m * 2 ^ 100 < 2 ^ (f + 100 + 1) := fun m f h => by
    rw [show f + 100 + 1 = (f + 1) + 100 by omega, Nat.pow_add]; exact Nat.mul_lt_mul_of_pos_right h (by decide)
  obtain ⟨dt, q, σ, sa, sb, g1, hσ, hsa, hsb, g2, g3, g4, g5, g6, g7⟩ := quot_datum (fa := l + 100) (fb := e + 100) hx hy (by rw [ea]; exact pw _ _ l1) (by rw [ea]; exact pw2 _ _ l2) (by rw [eb]; exact pw _ _ e1) (by rw [eb]; exact pw2 _ _ e2) (by omega)
  rw [ea, eb] at g3 g4 g5
  have hW : 2 ^ (l + 100 + 45 - (e + 100)) = 2 ^ (l + 45 - e) := by congr 1; omega
  rw [hW] at g2 g3 g4 g5
  have hWp := Nat.two_pow_pos (l + 45 - e)
  have hW2 : ∃ z : Nat, 2 ^ 100 = z * (2 * 2 ^ (l + 45 - e)) := ⟨2 ^ (100 - (l + 46 - e)), by
    rw [show (2 * 2 ^ (l + 45 - e) : Nat) = 2 ^ (l + 45 - e + 1) by rw [Nat.pow_succ, Nat.mul_comm], ← Nat.pow_add]; congr 1; omega⟩
  generalize 2 ^ (l + 45 - e) = W at *
  have g3' : 2 * q * W * d.natAbs ≤ n.natAbs * 2 ^ 100 := by
    refine Nat.le_of_mul_le_mul_right (c := 2 ^ 100) ?_ (by decide)
    rw [Nat.mul_assoc]; exact g3
  have g5' : n.natAbs * 2 ^ 100 < (2 * q + 2) * W * d.natAbs := by
    refine Nat.lt_of_mul_lt_mul_right (a := 2 ^ 100) ?_
    rw [Nat.mul_assoc _ d.natAbs]; exact g5
  have hdn : (d.natAbs : Int) = d := by omega
  have hD53 : 2 ^ 53 * W ≤ q * W := Nat.mul_le_mul_right _ g6
  have hsb0 : sb = false := by
    cases sb
    · rfl
    · have : 0 < d * one := Int.mul_pos (by omega) hopos
      unfold sgn at hsb; simp only [if_true] at hsb; omega
  subst hsb0
  rw [Bool.xor_false] at g2
  have eX : 2 * q * W = 2 * (q * W) := by rw [Nat.mul_assoc]
  have eX2 : (2 * q + 2) * W = 2 * (q * W) + 2 * W := by rw [Nat.add_mul, eX]
  have eX3 : (2 * q + σ) * W = 2 * (q * W) + σ * W := by rw [Nat.add_mul, eX]
  have hσW : σ * W ≤ W := by
    have : σ = 0 ∨ σ = 1 := by omega
    rcases this with h | h <;> rw [h] <;> omega
  have hq55 : q * W < 2 ^ 55 * W := Nat.mul_lt_mul_of_pos_right g7 hWp
  obtain ⟨z, hz⟩ := hW2
  -- multiples of 2W
  have low : ∀ F : Int, F * d ≤ n.natAbs → F * one ≤ (2 * (q * W) : Nat) := by
    intro F hF
    rcases Int.lt_or_le F 0 with c | c
    · have : F * one ≤ 0 := Int.mul_nonpos_of_nonpos_of_nonneg (by omega) (by omega)
      omega
    · obtain ⟨G, rfl⟩ := Int.eq_ofNat_of_zero_le c
      have h1 : G * d.natAbs ≤ n.natAbs := by
        have : ((G * d.natAbs : Nat) : Int) ≤ n.natAbs := by rw [Int.natCast_mul, hdn]; exact hF
        omega
      have h2 : G * z * (2 * W) * d.natAbs < (q + 1) * (2 * W) * d.natAbs := by
        have e1 : (q + 1) * (2 * W) = (2 * q + 2) * W := by rw [← Nat.mul_assoc]; congr 1; omega
        rw [e1]
        refine Nat.lt_of_le_of_lt ?_ g5'
        rw [Nat.mul_assoc G, ← hz, Nat.mul_assoc, Nat.mul_comm (2 ^ 100), ← Nat.mul_assoc]
        exact Nat.mul_le_mul_right _ h1
      have h3 := Nat.lt_of_mul_lt_mul_right (Nat.lt_of_mul_lt_mul_right h2)
      have h4 : G * z * (2 * W) ≤ q * (2 * W) := Nat.mul_le_mul_right _ (by omega)
      rw [Nat.mul_assoc G, ← hz] at h4
      have h5 : q * (2 * W) = 2 * (q * W) := Nat.mul_left_comm _ _ _
      rw [h5] at h4
      rw [hone, ← Int.natCast_mul]
      omega
  have high : ∀ F : Int, n.natAbs < F * d → ((2 * (q * W) + W : Nat) : Int) ≤ F * one := by
    intro F hF
    have hF0 : 0 ≤ F := by
      rcases Int.lt_or_le F 0 with c | c
      · have : F * d ≤ 0 := Int.mul_nonpos_of_nonpos_of_nonneg (by omega) (by omega)
        omega
      · exact c
    obtain ⟨G, rfl⟩ := Int.eq_ofNat_of_zero_le hF0
    have h1 : n.natAbs < G * d.natAbs := by
      have : ((n.natAbs : Nat) : Int) < ((G * d.natAbs : Nat) : Int) := by rw [Int.natCast_mul, hdn]; exact hF
      omega
    have h2 : q * (2 * W) * d.natAbs < G * z * (2 * W) * d.natAbs := by
      have h5 : q * (2 * W) = 2 * q * W := by rw [Nat.mul_left_comm, Nat.mul_assoc]
      rw [h5]
      refine Nat.lt_of_le_of_lt g3' ?_
      rw [Nat.mul_assoc G, ← hz, Nat.mul_assoc G, Nat.mul_comm (2 ^ 100), ← Nat.mul_assoc]
      exact Nat.mul_lt_mul_of_pos_right h1 (by decide)
    have h3 := Nat.lt_of_mul_lt_mul_right (Nat.lt_of_mul_lt_mul_right h2)
    have h4 : (q + 1) * (2 * W) ≤ G * z * (2 * W) := Nat.mul_le_mul_right _ (by omega)
    rw [Nat.mul_assoc G, ← hz, Nat.add_mul, Nat.one_mul] at h4
    have h5 : q * (2 * W) = 2 * (q * W) := Nat.mul_left_comm _ _ _
    rw [h5] at h4
    rw [hone, ← Int.natCast_mul]
    omega
  rw [eX3] at g2
  rw [eX] at g3'
  rw [eX2] at g5'
  have hS : 2 ^ 52 ≤ 2 * (q * W) + σ * W := by omega
  have hS2 : 2 * (q * W) + σ * W < 2 ^ 153 := by
    have h1 := Nat.le_mul_of_pos_right (2 * (q * W)) (show 0 < d.natAbs by omega)
    have h2 : n.natAbs * 2 ^ 100 ≤ 2 ^ 52 * 2 ^ 100 := Nat.mul_le_mul_right _ hn2
    have h3 : (2 ^ 53 * W) * 1 ≤ 2 ^ 53 * W := by omega
    omega
  have hc := sgn_abs sa (2 * (q * W) + σ * W)
  obtain ⟨v, u, k, r1, r2, r3, r4, r5, r6, r7⟩ := near_ex (K := 1074) (c := sgn sa (2 * (q * W) + σ * W)) (by omega) (by rw [lo_eq] at g2; exact g2) (by rw [hc]; exact hS) (by rw [hc]; omega)
  rw [hc] at r3 r7
  refine ⟨_, v, u, k, ((2 * (q * W) + σ * W : Nat) : Int), (W : Int), by unfold Format.div; rw [show double.fractionBits + 2 = 54 from rfl, g1]; rfl, r1, r2, r3, by omega, by omega, ?_, ?_, ?_, ?_, r6, r7 hS2, ?_, ?_⟩
  · intro hp
    have hs : sa = false := by
      cases sa
      · rfl
      · have : 0 < n * one := Int.mul_pos hp hopos
        unfold sgn at hsa; simp only [if_true] at hsa; omega
    subst hs
    unfold sgn at r4 r5
    simp only [Bool.false_eq_true, if_false] at r4 r5
    omega
  · intro hp
    have hs : sa = true := by
      cases sa
      · have : n * one < 0 := Int.mul_neg_of_neg_of_pos hp hopos
        unfold sgn at hsa; simp only [Bool.false_eq_true, if_false] at hsa; omega
      · rfl
    subst hs
    unfold sgn at r4 r5
    simp only [if_true] at r4 r5
    omega
  · have h1 : (2 * (q * W) + σ * W) * d.natAbs ≤ n.natAbs * 2 ^ 100 + W * d.natAbs := by
      rw [Nat.add_mul]
      have := Nat.mul_le_mul_right d.natAbs hσW
      omega
    rw [hone]
    have h2 : ((2 * (q * W) + σ * W : Nat) : Int) * d = (((2 * (q * W) + σ * W) * d.natAbs : Nat) : Int) := by rw [Int.natCast_mul, hdn]
    have h3 : (n.natAbs : Int) * ((2 ^ 100 : Nat) : Int) + (W : Int) * d = ((n.natAbs * 2 ^ 100 + W * d.natAbs : Nat) : Int) := by rw [Int.natCast_add, Int.natCast_mul, Int.natCast_mul, hdn]
    rw [h2, h3]
    exact Int.ofNat_le.2 h1
  · have hle : 2 * (q * W) ≤ 2 * (q * W) + σ * W := by omega
    generalize 2 * (q * W) + σ * W = A at hle ⊢
    have h1 : n.natAbs * 2 ^ 100 < A * d.natAbs + 2 * (W * d.natAbs) := by
      refine Nat.lt_of_lt_of_le g5' ?_
      rw [Nat.add_mul, Nat.mul_assoc 2 W]
      exact Nat.add_le_add_right (Nat.mul_le_mul_right _ hle) _
    rw [hone]
    have h2 : (A : Int) * d + 2 * ((W : Int) * d) = ((A * d.natAbs + 2 * (W * d.natAbs) : Nat) : Int) := by rw [Int.natCast_add, Int.natCast_mul, Int.natCast_mul, Int.natCast_mul, hdn]; rfl
    have h3 : (n.natAbs : Int) * ((2 ^ 100 : Nat) : Int) = ((n.natAbs * 2 ^ 100 : Nat) : Int) := by rw [Int.natCast_mul]
    rw [h2, h3]
    exact Int.ofNat_lt.2 h1
  · intro F hF
    have := low F hF
    omega
  · intro F hF
    have := high F hF
    omega
end Go.Proofs.Qxb6500365a
