/-
  FLOATS OF 64 BITS AS WHOLE NUMBERS OF 2^-100: rounding, the four operations, the order, the cut.
-/
import Derived.Laws.FloatArith
namespace Go.Proofs.Qxb6500365a
open Ieee
set_option linter.unusedVariables false
set_option linter.unusedSimpArgs false

/-! ### Cutting -/
theorem cut_none (way : Toward) (neg : Bool) (n : Nat) : way.cut neg n 0 = n := by
  unfold Toward.cut
  simp [Nat.mod_one]
  cases way <;> simp
theorem shl_one (k : Nat) : 1 <<< k = 2 ^ k := by rw [Nat.shiftLeft_eq, Nat.one_mul]
theorem cut_even (neg : Bool) (n drop : Nat) (h : drop ≤ n.log2 + 2) : 2 * n ≤ 2 * (Toward.even.cut neg n drop * 2 ^ drop) + 2 ^ drop ∧ 2 * (Toward.even.cut neg n drop * 2 ^ drop) ≤ 2 * n + 2 ^ drop := by
  unfold Toward.cut
  rw [Nat.min_eq_left h, shl_one]
  dsimp only
  have hp : 0 < 2 ^ drop := Nat.two_pow_pos _
  generalize 2 ^ drop = g at *
  have h1 := Nat.div_add_mod n g
  have h2 := Nat.mod_lt n hp
  generalize n / g = lo at *
  generalize n % g = r at *
  have e : g * lo = lo * g := Nat.mul_comm _ _
  rw [e] at h1
  by_cases hm : (decide (g < 2 * r) || (g == 2 * r && lo % 2 == 1)) = true
  · rw [hm]
    have h3 : g ≤ 2 * r := by
      rw [Bool.or_eq_true] at hm
      rcases hm with hm | hm
      · have := of_decide_eq_true hm; omega
      · rw [Bool.and_eq_true] at hm
        have := eq_of_beq hm.1; omega
    show 2 * n ≤ 2 * ((lo + 1) * g) + g ∧ 2 * ((lo + 1) * g) ≤ 2 * n + g
    rw [Nat.add_mul, Nat.one_mul]
    generalize lo * g = lg at *
    omega
  · have h3 : 2 * r ≤ g := by
      have := (Bool.or_eq_false_iff.1 (Bool.eq_false_iff.2 hm)).1
      have := of_decide_eq_false this
      omega
    rw [Bool.eq_false_iff.2 hm]
    show 2 * n ≤ 2 * ((lo + 0) * g) + g ∧ 2 * ((lo + 0) * g) ≤ 2 * n + g
    rw [Nat.add_zero]
    generalize lo * g = lg at *
    omega
theorem cut_zero (neg : Bool) (n drop : Nat) : Toward.zero.cut neg n drop = n / 2 ^ drop := by
  unfold Toward.cut
  rw [shl_one]
  show n / 2 ^ min drop (n.log2 + 2) + 0 = _
  rw [Nat.add_zero]
  by_cases h : drop ≤ n.log2 + 2
  · rw [Nat.min_eq_left h]
  · rw [Nat.min_eq_right (by omega)]
    have h1 : n < 2 ^ (n.log2 + 1) := Nat.lt_log2_self
    have h2 : 2 ^ (n.log2 + 1) ≤ 2 ^ (n.log2 + 2) := Nat.pow_le_pow_right (by omega) (by omega)
    have h3 : 2 ^ (n.log2 + 2) ≤ 2 ^ drop := Nat.pow_le_pow_right (by omega) (by omega)
    rw [Nat.div_eq_of_lt (by omega), Nat.div_eq_of_lt (by omega)]

theorem log2_unique {n e : Nat} (h1 : 2 ^ e ≤ n) (h2 : n < 2 ^ (e + 1)) : n.log2 = e := by
  have hn : n ≠ 0 := by have := Nat.two_pow_pos e; omega
  have := (Nat.log2_lt hn).2 h2
  have := (Nat.le_log2 hn).2 h1
  omega

theorem log2_shift {m : Nat} (hm : m ≠ 0) (k : Nat) : (m * 2 ^ k).log2 = m.log2 + k := by
  refine log2_unique ?_ ?_
  · rw [Nat.pow_add]; exact Nat.mul_le_mul_right _ (Nat.log2_self_le hm)
  · rw [show m.log2 + k + 1 = (m.log2 + 1) + k by omega, Nat.pow_add]
    exact Nat.mul_lt_mul_of_pos_right Nat.lt_log2_self (Nat.two_pow_pos k)

/-! ### One rounding -/
theorem read_word (neg : Bool) (j kept : Nat) (h1 : 2 ^ 52 ≤ kept) (h2 : kept < 2 ^ 53) (hj : j ≤ 2044) : double.read (double.word neg (min (j * double.binade + kept) double.infRung)) = .number neg kept (j - 1074) := by
  have hb : double.binade = 4503599627370496 := rfl
  have hi : double.infRung = 9218868437227405312 := rfl
  have hs : double.signWeight = 9223372036854775808 := rfl
  have hl : double.leastPlace = -1074 := rfl
  rw [hb, hi, Nat.min_eq_left (by omega)]
  unfold Format.read Format.word
  rw [hb, hi, hs, hl]
  have e1 : (if neg = true then 9223372036854775808 + (j * 4503599627370496 + kept) else j * 4503599627370496 + kept) / 9223372036854775808 % 2 = if neg then 1 else 0 := by
    cases neg
    · simp only [Bool.false_eq_true, if_false]; omega
    · simp only [if_true]; omega
  have e2 : (if neg = true then 9223372036854775808 + (j * 4503599627370496 + kept) else j * 4503599627370496 + kept) % 9223372036854775808 = j * 4503599627370496 + kept := by
    cases neg
    · simp only [Bool.false_eq_true, if_false]; omega
    · simp only [if_true]; omega
  dsimp only
  rw [e1, e2, if_neg (by omega), if_pos (by omega)]
  have e3 : ((if neg = true then 1 else 0 : Nat) == 1) = neg := by cases neg <;> rfl
  rw [e3, show 4503599627370496 + (j * 4503599627370496 + kept) % 4503599627370496 = kept by omega]
  congr 1
  have : (j * 4503599627370496 + kept) / 4503599627370496 - 1 = j := by omega
  rw [this]
  omega

theorem round_core (neg : Bool) (m : Nat) (i : Int) (K e : Nat) (hi : 0 ≤ i + K) (h1 : 2 ^ e ≤ m * 2 ^ (i + K).toNat) (h2 : m * 2 ^ (i + K).toNat < 2 ^ (e + 1)) (he : K ≤ e + 1022) (he1 : 52 ≤ e) (he2 : e ≤ K + 1000) :
    ∃ (k m' : Nat) (i' : Int), double.read (double.nearest neg m i) = .number neg m' i' ∧ -1074 ≤ i' ∧ 0 ≤ i' + K ∧ m' * 2 ^ (i' + K).toNat = k * 2 ^ (e - 52) ∧ 2 * (m * 2 ^ (i + K).toNat) ≤ 2 * (k * 2 ^ (e - 52)) + 2 ^ (e - 52) ∧ 2 * (k * 2 ^ (e - 52)) ≤ 2 * (m * 2 ^ (i + K).toNat) + 2 ^ (e - 52) := by
  have hm : m ≠ 0 := by
    intro h; rw [h, Nat.zero_mul] at h1
    have := Nat.two_pow_pos e; omega
  have hl : m.log2 + (i + K).toNat = e := by rw [← log2_shift hm]; exact log2_unique h1 h2
  have hlast : max (i + m.log2 - (double.fractionBits : Nat)) double.leastPlace = (e : Int) - K - 52 := by
    rw [show double.leastPlace = -1074 from rfl, show double.fractionBits = 52 from rfl]; omega
  have hq : ∀ kept : Nat, 2 ^ 52 ≤ kept → kept ≤ 2 ^ 53 → ∃ (m' : Nat) (i' : Int), double.read (double.word neg (min (((e : Int) - K - 52 - double.leastPlace).toNat * double.binade + kept) double.infRung)) = .number neg m' i' ∧ -1074 ≤ i' ∧ 0 ≤ i' + K ∧ m' * 2 ^ (i' + K).toNat = kept * 2 ^ (e - 52) := by
    intro kept g1 g2
    obtain ⟨j, hj⟩ : ∃ j : Nat, ((e : Int) - K - 52 - double.leastPlace).toNat = j := ⟨_, rfl⟩
    rw [hj]
    rw [show double.leastPlace = -1074 from rfl] at hj
    by_cases g3 : kept < 2 ^ 53
    · refine ⟨kept, j - 1074, read_word neg j kept g1 g3 (by omega), by omega, by omega, ?_⟩
      rw [show ((j : Int) - 1074 + K).toNat = e - 52 by omega]
    · have e3 : kept = 2 ^ 53 := by omega
      have h := read_word neg (j + 1) (2 ^ 52) (Nat.le_refl _) (by decide) (by omega)
      rw [show (j + 1) * double.binade + 2 ^ 52 = j * double.binade + kept by rw [e3, show double.binade = 2 ^ 52 from rfl]; omega] at h
      refine ⟨2 ^ 52, ((j + 1 : Nat) : Int) - 1074, h, by omega, by omega, ?_⟩
      rw [show (((j + 1 : Nat) : Int) - 1074 + K).toNat = 1 + (e - 52) by omega, Nat.pow_add, e3, ← Nat.mul_assoc]
  unfold Format.nearest
  rw [if_neg hm]
  dsimp only
  rw [hlast]
  by_cases hc : (e : Int) - K - 52 ≤ i
  · obtain ⟨u, hu⟩ : ∃ u : Nat, (i - ((e : Int) - K - 52)).toNat = u := ⟨_, rfl⟩
    rw [hu, show ((e : Int) - K - 52 - i).toNat = 0 by omega, cut_none, Nat.shiftLeft_eq]
    have e1 : m * 2 ^ (i + K).toNat = m * 2 ^ u * 2 ^ (e - 52) := by
      rw [Nat.mul_assoc, ← Nat.pow_add]; congr 2; omega
    have g1 : 2 ^ 52 ≤ m * 2 ^ u := by
      refine Nat.le_of_mul_le_mul_right (c := 2 ^ (e - 52)) ?_ (Nat.two_pow_pos _)
      rw [← e1, ← Nat.pow_add, show 52 + (e - 52) = e by omega]; exact h1
    have g2 : m * 2 ^ u < 2 ^ 53 := by
      refine Nat.lt_of_mul_lt_mul_right (a := 2 ^ (e - 52)) ?_
      rw [← e1, ← Nat.pow_add, show 53 + (e - 52) = e + 1 by omega]; exact h2
    obtain ⟨m', i', r1, r2, r3, r4⟩ := hq (m * 2 ^ u) g1 (by omega)
    have hp := Nat.two_pow_pos (e - 52)
    exact ⟨m * 2 ^ u, m', i', r1, r2, r3, r4, by rw [e1]; omega, by rw [e1]; omega⟩
  · obtain ⟨u, hu⟩ : ∃ u : Nat, ((e : Int) - K - 52 - i).toNat = u := ⟨_, rfl⟩
    rw [hu, show (i - ((e : Int) - K - 52)).toNat = 0 by omega, Nat.shiftLeft_zero]
    have hc2 := cut_even neg m u (by omega)
    generalize Toward.even.cut neg m u = kept at *
    have e1 : 2 ^ (e - 52) = 2 ^ u * 2 ^ (i + K).toNat := by rw [← Nat.pow_add]; congr 1; omega
    have hp := Nat.two_pow_pos (i + K).toNat
    have hpu := Nat.two_pow_pos u
    have eb : 2 ^ 52 * 2 ^ u = 2 ^ m.log2 := by rw [← Nat.pow_add]; congr 1; omega
    have eb2 : 2 ^ 53 * 2 ^ u = 2 ^ (m.log2 + 1) := by rw [← Nat.pow_add]; congr 1; omega
    have ms := Nat.log2_self_le hm
    have ml : m < 2 ^ (m.log2 + 1) := Nat.lt_log2_self
    have g1 : 2 ^ 52 ≤ kept := by
      by_cases c : 2 ^ 52 ≤ kept
      · exact c
      · have : (kept + 1) * 2 ^ u ≤ 2 ^ 52 * 2 ^ u := Nat.mul_le_mul_right _ (by omega)
        rw [Nat.add_mul, Nat.one_mul] at this
        omega
    have g2 : kept ≤ 2 ^ 53 := by
      by_cases c : kept ≤ 2 ^ 53
      · exact c
      · have : (2 ^ 53 + 1) * 2 ^ u ≤ kept * 2 ^ u := Nat.mul_le_mul_right _ (by omega)
        rw [Nat.add_mul, Nat.one_mul] at this
        omega
    obtain ⟨m', i', r1, r2, r3, r4⟩ := hq kept g1 g2
    refine ⟨kept, m', i', r1, r2, r3, r4, ?_, ?_⟩
    · have := Nat.mul_le_mul_right (2 ^ (i + K).toNat) hc2.1
      rw [e1]
      rw [Nat.add_mul] at this
      have q1 : 2 * m * 2 ^ (i + K).toNat = 2 * (m * 2 ^ (i + K).toNat) := Nat.mul_assoc ..
      have q2 : 2 * (kept * 2 ^ u) * 2 ^ (i + K).toNat = 2 * (kept * (2 ^ u * 2 ^ (i + K).toNat)) := by rw [Nat.mul_assoc 2, Nat.mul_assoc kept]
      rw [q1, q2] at this
      exact this
    · have := Nat.mul_le_mul_right (2 ^ (i + K).toNat) hc2.2
      rw [e1]
      rw [Nat.add_mul] at this
      have q1 : 2 * m * 2 ^ (i + K).toNat = 2 * (m * 2 ^ (i + K).toNat) := Nat.mul_assoc ..
      have q2 : 2 * (kept * 2 ^ u) * 2 ^ (i + K).toNat = 2 * (kept * (2 ^ u * 2 ^ (i + K).toNat)) := by rw [Nat.mul_assoc 2, Nat.mul_assoc kept]
      rw [q1, q2] at this
      exact this

/-! ### What a word is worth -/
def sgn (s : Bool) (n : Nat) : Int := if s then -(n : Int) else n
theorem signed_eq (s : Bool) (m u : Nat) : signed s m u = sgn s (m * 2 ^ u) := by
  unfold signed sgn; rw [Nat.shiftLeft_eq]
theorem sgn_mul (s : Bool) (a b : Nat) : sgn s (a * b) = sgn s a * b := by
  unfold sgn; cases s <;> simp [Int.neg_mul]
theorem sgn_abs (s : Bool) (n : Nat) : (sgn s n).natAbs = n := by
  unfold sgn; cases s <;> simp
theorem sgn_neg (s : Bool) (n : Nat) : sgn (!s) n = - sgn s n := by
  unfold sgn; cases s <;> simp
theorem sgn_xor (s t : Bool) (a b : Nat) : sgn (s ^^ t) (a * b) = sgn s a * sgn t b := by
  unfold sgn; cases s <;> cases t <;> simp [Int.neg_mul, Int.mul_neg]
theorem sgn_inj {s : Bool} {a b : Nat} (h : sgn s a = sgn s b) : a = b := by
  have := congrArg Int.natAbs h; rwa [sgn_abs, sgn_abs] at this
theorem ip (k : Nat) : (((2 ^ k : Nat)) : Int) = (2 : Int) ^ k := by simp

/-- d is v / 2^K. -/
def At (d : Datum) (K : Nat) (v : Int) : Prop := ∃ s m i, d = .number s m i ∧ 0 ≤ i + K ∧ v = sgn s (m * 2 ^ (i + K).toNat)
@[irreducible] def lo : Nat := 974
theorem lo_eq : lo = 974 := by unfold lo; rfl
/-- The word b is worth v / 2^100. -/
def Dbl (b : Nat) (v : Int) : Prop := ∃ s m i, double.read b = .number s m i ∧ -1074 ≤ i ∧ v * 2 ^ lo = sgn s (m * 2 ^ (i + 1074).toNat)

theorem pow_cancel {a b : Int} (k : Nat) (h : a * 2 ^ k = b * 2 ^ k) : a = b :=
  Int.eq_of_mul_eq_mul_right (Int.ne_of_gt (Int.pow_pos (by omega))) h
theorem natpow_cancel {a b : Nat} (k : Nat) (h : a * 2 ^ k = b * 2 ^ k) : a = b :=
  Nat.eq_of_mul_eq_mul_right (Nat.two_pow_pos _) h

theorem pow_shift {m X u v a b : Nat} (h : m * 2 ^ u = X * 2 ^ v) (e : u + b = v + a) : m * 2 ^ a = X * 2 ^ b := by
  refine natpow_cancel u ?_
  rw [Nat.mul_assoc, ← Nat.pow_add, Nat.add_comm a u, Nat.pow_add, ← Nat.mul_assoc, h, Nat.mul_assoc, Nat.mul_assoc, ← Nat.pow_add, ← Nat.pow_add]
  congr 2; omega
theorem Dbl.one {b : Nat} {v u : Int} (h : Dbl b v) (h' : Dbl b u) : v = u := by
  obtain ⟨s, m, i, e, _, e2⟩ := h
  obtain ⟨s', m', i', f, _, f2⟩ := h'
  rw [e] at f
  cases f
  exact pow_cancel lo (e2.trans f2.symm)
theorem Dbl.at {b : Nat} {v : Int} (h : Dbl b v) : At (double.read b) 1074 (v * 2 ^ lo) := by
  obtain ⟨s, m, i, e, h1, h2⟩ := h
  exact ⟨s, m, i, e, by omega, h2⟩

theorem read_zero (s : Bool) : double.read (double.word s 0) = .number s 0 (-1074) := by cases s <;> rfl
theorem dbl_zero {b : Nat} {s : Bool} {i : Int} (h : double.read b = .number s 0 i) (hi : -1074 ≤ i) : Dbl b 0 :=
  ⟨s, 0, i, h, hi, by rw [Nat.zero_mul, Int.zero_mul]; cases s <;> rfl⟩
theorem write_zero (s : Bool) (i : Int) : Dbl (double.write (.number s 0 i)) 0 := by
  refine dbl_zero (s := s) (i := -1074) ?_ (by omega)
  show double.read (double.nearest s 0 i) = _
  unfold Format.nearest
  rw [if_pos rfl, read_zero]

theorem write_near {d : Datum} {K : Nat} {c : Int} {f : Nat} (hK : 100 ≤ K) (h : At d K (c * 2 ^ (K - 100))) (h1 : 2 ^ f ≤ c.natAbs) (h2 : c.natAbs < 2 ^ (f + 1)) (hf : 52 ≤ f) (hf2 : f ≤ 1000) :
    ∃ k : Int, Dbl (double.write d) (k * 2 ^ (f - 52)) ∧ 2 * c ≤ 2 * (k * 2 ^ (f - 52)) + 2 ^ (f - 52) ∧ 2 * (k * 2 ^ (f - 52)) ≤ 2 * c + 2 ^ (f - 52) := by
  obtain ⟨s, m, i, rfl, hi, hv⟩ := h
  have hA : c.natAbs * 2 ^ (K - 100) = m * 2 ^ (i + K).toNat := by
    have := congrArg Int.natAbs hv
    rw [sgn_abs, Int.natAbs_mul, ← ip, Int.natAbs_natCast] at this
    exact this
  have hc : c = sgn s c.natAbs := by
    rw [← hA, sgn_mul, ip] at hv
    exact pow_cancel _ hv
  have e1 : f + (K - 100) - 52 = (f - 52) + (K - 100) := by omega
  obtain ⟨k, m', i', r1, r2, r3, r4, r5, r6⟩ := round_core s m i K (f + (K - 100)) hi
    (by rw [← hA, Nat.pow_add]; exact Nat.mul_le_mul_right _ h1)
    (by rw [← hA, show f + (K - 100) + 1 = (f + 1) + (K - 100) by omega, Nat.pow_add]; exact Nat.mul_lt_mul_of_pos_right h2 (Nat.two_pow_pos _))
    (by omega) (by omega) (by omega)
  rw [e1, Nat.pow_add, ← Nat.mul_assoc] at r4
  rw [e1, Nat.pow_add] at r5 r6
  rw [← hA] at r5 r6
  refine ⟨sgn s k, ⟨s, m', i', r1, r2, ?_⟩, ?_⟩
  · rw [← ip, ← sgn_mul, ← ip, ← sgn_mul]
    refine congrArg (sgn s) ?_
    exact (pow_shift r4 (by have := lo_eq; omega)).symm
  · have q5 : 2 * c.natAbs ≤ 2 * (k * 2 ^ (f - 52)) + 2 ^ (f - 52) := by
      refine Nat.le_of_mul_le_mul_right (c := 2 ^ (K - 100)) ?_ (Nat.two_pow_pos _)
      rw [Nat.add_mul, Nat.mul_assoc, Nat.mul_assoc, Nat.mul_assoc]
      exact r5
    have q6 : 2 * (k * 2 ^ (f - 52)) ≤ 2 * c.natAbs + 2 ^ (f - 52) := by
      refine Nat.le_of_mul_le_mul_right (c := 2 ^ (K - 100)) ?_ (Nat.two_pow_pos _)
      rw [Nat.add_mul, Nat.mul_assoc, Nat.mul_assoc, Nat.mul_assoc]
      exact r6
    have e2 : sgn s k * (2 : Int) ^ (f - 52) = sgn s (k * 2 ^ (f - 52)) := by rw [sgn_mul, ip]
    have e3 : ((2 : Int) ^ (f - 52)) = ((2 ^ (f - 52) : Nat) : Int) := (ip _).symm
    rw [e2, e3]
    generalize k * 2 ^ (f - 52) = X at *
    generalize 2 ^ (f - 52) = Y at *
    generalize c.natAbs = Z at *
    rw [hc]
    unfold sgn
    cases s <;> simp only [Bool.false_eq_true, if_false, if_true] <;> omega

theorem log2_ex {n : Nat} (h : n ≠ 0) : ∃ f, 2 ^ f ≤ n ∧ n < 2 ^ (f + 1) := ⟨n.log2, Nat.log2_self_le h, Nat.lt_log2_self⟩
theorem pow_le_of {f g n : Nat} (h1 : 2 ^ f ≤ n) (h2 : n < 2 ^ g) : f < g :=
  (Nat.pow_lt_pow_iff_right (by omega)).1 (Nat.lt_of_le_of_lt h1 h2)

/-- What fits is written as it is. -/
theorem write_exact {d : Datum} {K : Nat} {a : Int} {g : Nat} (hK : 200 ≤ K) (h : At d K (a * 2 ^ g * 2 ^ (K - 100))) (ha : a.natAbs < 2 ^ 53) (hg2 : g ≤ 900) : Dbl (double.write d) (a * 2 ^ g) := by
  obtain ⟨s, m, i, rfl, hi, hv⟩ := h
  have hA : a.natAbs * 2 ^ g * 2 ^ (K - 100) = m * 2 ^ (i + K).toNat := by
    have := congrArg Int.natAbs hv
    rw [sgn_abs, Int.natAbs_mul, Int.natAbs_mul, ← ip, ← ip, Int.natAbs_natCast, Int.natAbs_natCast] at this
    exact this
  by_cases h0 : a = 0
  · subst h0
    rw [show (0 : Int).natAbs = 0 from rfl, Nat.zero_mul, Nat.zero_mul] at hA
    have hm : m = 0 := by
      rcases Nat.mul_eq_zero.1 hA.symm with h | h
      · exact h
      · exact absurd h (Nat.ne_of_gt (Nat.two_pow_pos _))
    subst hm
    rw [Int.zero_mul]
    exact write_zero s i
  · have hc : a * 2 ^ g = sgn s (a.natAbs * 2 ^ g) := by
      rw [← hA, sgn_mul, ip] at hv
      exact pow_cancel _ hv
    obtain ⟨f, f1, f2⟩ := log2_ex (n := a.natAbs) (by omega)
    have f3 : f < 53 := pow_le_of f1 ha
    have e1 : a.natAbs * 2 ^ g * 2 ^ (K - 100) = a.natAbs * 2 ^ (g + (K - 100)) := by rw [Nat.mul_assoc, Nat.pow_add]
    obtain ⟨k, m', i', r1, r2, r3, r4, r5, r6⟩ := round_core s m i K (f + (g + (K - 100))) hi
      (by rw [← hA, e1, Nat.pow_add]; exact Nat.mul_le_mul_right _ f1)
      (by rw [← hA, e1, show f + (g + (K - 100)) + 1 = (f + 1) + (g + (K - 100)) by omega, Nat.pow_add 2 (f + 1)]; exact Nat.mul_lt_mul_of_pos_right f2 (Nat.two_pow_pos _))
      (by omega) (by omega) (by omega)
    have e2 : m * 2 ^ (i + K).toNat = (a.natAbs * 2 ^ (52 - f)) * 2 ^ (f + (g + (K - 100)) - 52) := by
      rw [← hA, e1, Nat.mul_assoc, ← Nat.pow_add, show 52 - f + (f + (g + (K - 100)) - 52) = g + (K - 100) by omega]
    have hk : k = a.natAbs * 2 ^ (52 - f) := by
      rw [e2] at r5 r6
      have hp := Nat.two_pow_pos (f + (g + (K - 100)) - 52)
      generalize a.natAbs * 2 ^ (52 - f) = A at *
      generalize 2 ^ (f + (g + (K - 100)) - 52) = P at *
      rw [← Nat.mul_assoc, ← Nat.mul_assoc] at r5 r6
      have h3 : (2 * k) * P + P = (2 * k + 1) * P := by rw [Nat.add_mul, Nat.one_mul]
      have h4 : (2 * A) * P + P = (2 * A + 1) * P := by rw [Nat.add_mul, Nat.one_mul]
      rw [h3] at r5
      rw [h4] at r6
      have := Nat.le_of_mul_le_mul_right r5 hp
      have := Nat.le_of_mul_le_mul_right r6 hp
      omega
    refine ⟨s, m', i', r1, r2, ?_⟩
    rw [hc, ← ip, ← sgn_mul]
    refine congrArg (sgn s) ?_
    rw [hk, ← e2, ← hA] at r4
    exact (pow_shift r4 (by have := lo_eq; omega)).symm

/-! ### The four operations on what they stand for -/
theorem at_opp {d : Datum} {K : Nat} {A : Int} (h : At d K A) : At d.opposite K (-A) := by
  obtain ⟨s, m, i, rfl, hi, rfl⟩ := h
  exact ⟨!s, m, i, rfl, hi, (sgn_neg _ _).symm⟩
theorem sgn_total (z : Bool) (t : Int) (n : Nat) : sgn (if t = 0 then z else decide (t < 0)) (t.natAbs * n) = t * n := by
  by_cases h : t = 0
  · subst h
    simp [sgn]
  · rw [if_neg h, sgn_mul]
    congr 1
    unfold sgn
    by_cases h2 : t < 0
    · rw [decide_eq_true h2, if_pos rfl]; omega
    · rw [decide_eq_false h2]; simp only [Bool.false_eq_true, if_false]; omega
theorem at_sum {d e : Datum} {K : Nat} {A B : Int} (h : At d K A) (h' : At e K B) : ∃ r, d.sum e = some r ∧ At r K (A + B) := by
  obtain ⟨s, m, i, rfl, hi, rfl⟩ := h
  obtain ⟨t, n, j, rfl, hj, rfl⟩ := h'
  refine ⟨_, rfl, _, _, _, rfl, by omega, ?_⟩
  rw [sgn_total, signed_eq, signed_eq, Int.add_mul, ← sgn_mul, ← sgn_mul]
  congr 2
  · rw [Nat.mul_assoc, ← Nat.pow_add]; congr 2; omega
  · rw [Nat.mul_assoc, ← Nat.pow_add]; congr 2; omega
theorem at_product {d e : Datum} {K L : Nat} {A B : Int} (h : At d K A) (h' : At e L B) : ∃ r, d.product e = some r ∧ At r (K + L) (A * B) := by
  obtain ⟨s, m, i, rfl, hi, rfl⟩ := h
  obtain ⟨t, n, j, rfl, hj, rfl⟩ := h'
  refine ⟨_, rfl, _, _, _, rfl, by omega, ?_⟩
  rw [← sgn_xor]
  congr 1
  rw [show (i + j + ((K + L : Nat) : Int)).toNat = (i + K).toNat + (j + L).toNat by omega, Nat.pow_add]
  rw [Nat.mul_assoc, Nat.mul_assoc, Nat.mul_left_comm n]

def Fits (v : Int) : Prop := ∃ (a : Int) (g : Nat), v = a * 2 ^ g ∧ a.natAbs < 2 ^ 53 ∧ g ≤ 900
theorem fits_int {t : Int} (h : t.natAbs < 2 ^ 53) : Fits (t * 2 ^ 100) := ⟨t, 100, rfl, h, by omega⟩
theorem write_fits {d : Datum} {K : Nat} {v : Int} (hK : 200 ≤ K) (h : At d K (v * 2 ^ (K - 100))) (hv : Fits v) : Dbl (double.write d) v := by
  obtain ⟨a, g, rfl, h1, h2⟩ := hv
  exact write_exact hK h h1 h2

theorem add_dbl {x y : Nat} {a b : Int} (hx : Dbl x a) (hy : Dbl y b) (hf : Fits (a + b)) : ∃ r, double.add x y = some r ∧ Dbl r (a + b) := by
  obtain ⟨r, h1, h2⟩ := at_sum hx.at hy.at
  refine ⟨_, by unfold Format.add; rw [h1]; rfl, write_fits (K := 1074) (by omega) ?_ hf⟩
  rw [← Int.add_mul, lo_eq] at h2
  exact h2
theorem sub_dbl {x y : Nat} {a b : Int} (hx : Dbl x a) (hy : Dbl y b) (hf : Fits (a - b)) : ∃ r, double.sub x y = some r ∧ Dbl r (a - b) := by
  obtain ⟨r, h1, h2⟩ := at_sum hx.at (at_opp hy.at)
  refine ⟨_, by unfold Format.sub; rw [h1]; rfl, write_fits (K := 1074) (by omega) ?_ hf⟩
  rw [← Int.neg_mul, ← Int.add_mul, ← Int.sub_eq_add_neg, lo_eq] at h2
  exact h2
theorem at_mul {x y : Nat} {a b c : Int} (hx : Dbl x a) (hy : Dbl y b) (hc : a * b = c * 2 ^ 100) : ∃ d, (double.read x).product (double.read y) = some d ∧ At d 2148 (c * 2 ^ (2148 - 100)) := by
  obtain ⟨r, h1, h2⟩ := at_product hx.at hy.at
  refine ⟨r, h1, ?_⟩
  have e : a * 2 ^ lo * (b * 2 ^ lo) = c * 2 ^ (2148 - 100) := by
    rw [Int.mul_assoc, Int.mul_left_comm (2 ^ lo) b, ← Int.mul_assoc, hc, Int.mul_assoc, ← Int.pow_add, ← Int.pow_add]
    have := lo_eq
    congr 2; omega
  rw [e] at h2
  exact h2
theorem mul_dbl {x y : Nat} {a b c : Int} (hx : Dbl x a) (hy : Dbl y b) (hc : a * b = c * 2 ^ 100) (hf : Fits c) : ∃ r, double.mul x y = some r ∧ Dbl r c := by
  obtain ⟨d, h1, h2⟩ := at_mul hx hy hc
  exact ⟨_, by unfold Format.mul; rw [h1]; rfl, write_fits (K := 2148) (by omega) h2 hf⟩
theorem mul_near {x y : Nat} {a b c : Int} {f : Nat} (hx : Dbl x a) (hy : Dbl y b) (hc : a * b = c * 2 ^ 100) (h1 : 2 ^ f ≤ c.natAbs) (h2 : c.natAbs < 2 ^ (f + 1)) (hf : 52 ≤ f) (hf2 : f ≤ 1000) :
    ∃ r k, double.mul x y = some r ∧ Dbl r (k * 2 ^ (f - 52)) ∧ 2 * c ≤ 2 * (k * 2 ^ (f - 52)) + 2 ^ (f - 52) ∧ 2 * (k * 2 ^ (f - 52)) ≤ 2 * c + 2 ^ (f - 52) := by
  obtain ⟨d, g1, g2⟩ := at_mul hx hy hc
  obtain ⟨k, g3, g4⟩ := write_near (K := 2148) (by omega) g2 h1 h2 hf hf2
  exact ⟨_, k, by unfold Format.mul; rw [g1]; rfl, g3, g4⟩
theorem neg_dbl {x : Nat} {a : Int} (hx : Dbl x a) : At (double.read x).opposite 1074 (-(a * 2 ^ lo)) := at_opp hx.at

/-! ### The order -/
theorem order_dbl {x y : Nat} {a b : Int} (hx : Dbl x a) (hy : Dbl y b) : double.order x y = some (compare a b) := by
  obtain ⟨s, m, i, e, hi, hv⟩ := hx
  obtain ⟨t, n, j, e', hj, hw⟩ := hy
  unfold Format.order
  rw [e, e']
  show some (compare (signed s m (i - min i j).toNat) (signed t n (j - min i j).toNat)) = _
  congr 1
  have p1 : a * 2 ^ lo = signed s m (i - min i j).toNat * 2 ^ (min i j + 1074).toNat := by
    rw [hv, signed_eq, ← ip, ← sgn_mul, Nat.mul_assoc, ← Nat.pow_add]; congr 3; omega
  have p2 : b * 2 ^ lo = signed t n (j - min i j).toNat * 2 ^ (min i j + 1074).toNat := by
    rw [hw, signed_eq, ← ip, ← sgn_mul, Nat.mul_assoc, ← Nat.pow_add]; congr 3; omega
  generalize signed s m (i - min i j).toNat = A at *
  generalize signed t n (j - min i j).toNat = B at *
  have h1 : (0 : Int) < 2 ^ lo := Int.pow_pos (by omega)
  have h2 : (0 : Int) < 2 ^ (min i j + 1074).toNat := Int.pow_pos (by omega)
  rcases Int.lt_trichotomy A B with h | h | h
  · have q := Int.mul_lt_mul_of_pos_right h h2
    rw [← p1, ← p2] at q
    have q2 := Int.lt_of_mul_lt_mul_right q (Int.le_of_lt h1)
    rw [Int.compare_eq_lt.2 h, Int.compare_eq_lt.2 q2]
  · subst h
    rw [← p1] at p2
    have := pow_cancel lo p2
    rw [this]
    rw [Int.compare_eq_eq.2 rfl, Int.compare_eq_eq.2 rfl]
  · have q := Int.mul_lt_mul_of_pos_right h h2
    rw [← p1, ← p2] at q
    have q2 := Int.lt_of_mul_lt_mul_right q (Int.le_of_lt h1)
    rw [Int.compare_eq_gt.2 h, Int.compare_eq_gt.2 q2]

/-! ### The cut -/
theorem toInt_dbl {x : Nat} {a : Int} (hx : Dbl x a) : (double.read x).toInt .zero = some (a.tdiv (2 ^ 100)) := by
  obtain ⟨s, m, i, e, hi, hv⟩ := hx
  rw [e]
  show some (signed s (Toward.zero.cut s (m <<< i.toNat) (-i).toNat) 0) = _
  congr 1
  rw [cut_zero, signed_eq, Nat.pow_zero, Nat.mul_one, Nat.shiftLeft_eq]
  have hA : a.natAbs * 2 ^ lo = m * 2 ^ (i + 1074).toNat := by
    have := congrArg Int.natAbs hv
    rw [sgn_abs, Int.natAbs_mul, ← ip, Int.natAbs_natCast] at this
    exact this
  have hq : m * 2 ^ i.toNat / 2 ^ (-i).toNat = a.natAbs / 2 ^ 100 := by
    have h1 : m * 2 ^ i.toNat * 2 ^ 100 = a.natAbs * 2 ^ (-i).toNat := by
      refine natpow_cancel lo ?_
      rw [Nat.mul_assoc _ (2 ^ (-i).toNat), Nat.mul_comm (2 ^ (-i).toNat), ← Nat.mul_assoc, hA, Nat.mul_assoc, Nat.mul_assoc, Nat.mul_assoc, ← Nat.pow_add, ← Nat.pow_add, ← Nat.pow_add]
      have := lo_eq
      congr 2; omega
    rw [← Nat.mul_div_mul_right _ (2 ^ (-i).toNat) (Nat.two_pow_pos 100), h1, Nat.mul_comm (2 ^ (-i).toNat), Nat.mul_div_mul_right _ _ (Nat.two_pow_pos _)]
  rw [hq]
  have hs : a = sgn s a.natAbs := by
    rw [← hA, sgn_mul, ip] at hv
    exact pow_cancel _ hv
  rw [hs, sgn_abs]
  generalize a.natAbs = n
  unfold sgn
  cases s
  · simp only [Bool.false_eq_true, if_false]
    rw [Int.tdiv_eq_ediv_of_nonneg (by omega), ← ip]; rfl
  · simp only [if_true]
    rw [Int.neg_tdiv, Int.tdiv_eq_ediv_of_nonneg (by omega), ← ip]; rfl

/-! ### Whole numbers -/
theorem ofInt_dbl {n : Int} (h : n.natAbs < 2 ^ 53) : Dbl (FloatKind.f64.nearest n) (n * 2 ^ 100) := by
  show Dbl (double.write (.number (decide (n < 0)) n.natAbs 0)) _
  refine write_exact (K := 1074) (by omega) ⟨_, _, _, rfl, by omega, ?_⟩ h (by omega)
  rw [Int.mul_assoc, ← Int.pow_add, ← ip]
  have := sgn_total false n (2 ^ (0 + ((1074 : Nat) : Int)).toNat)
  by_cases h0 : n = 0
  · subst h0
    rw [Int.zero_mul, show (0 : Int).natAbs = 0 from rfl, Nat.zero_mul]; rfl
  · rw [if_neg h0] at this
    rw [this, show (0 + ((1074 : Nat) : Int)).toNat = 100 + (1074 - 100) by omega]
end Go.Proofs.Qxb6500365a
