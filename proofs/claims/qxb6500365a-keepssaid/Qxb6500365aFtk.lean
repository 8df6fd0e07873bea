/-
  WHAT THE WIRE's PRICE IS TO THE GATE; the size of 32 bits.
-/
import Derived.Test.Qxb6500365aFway
namespace Go.Proofs.Qxb6500365a
open Ieee
set_option linter.unusedVariables false
set_option linter.unusedSimpArgs false

def FinX (x : Nat) : Prop := double.order x x = some .eq ∧ ∃ z, double.sub x x = some z ∧ double.order z 0 = some .eq
def GoodY (y : Nat) (t : Int) : Prop := (∃ o, double.order y 4786511204640096256 = some o ∧ o ≠ .gt) ∧ (∃ o, double.order y 14009883241494872064 = some o ∧ o ≠ .lt) ∧ t.natAbs ≤ 1000000000000 ∧
  ∃ t0 r o1 o2, floatToIntVal .f64 y .i64 = some t0 ∧ t0.natAbs ≤ 1000000000000 ∧ double.sub y (floatOfInt .f64 t0) = some r ∧ double.order r 4602678819172646912 = some o1 ∧ double.order r 13826050856027422720 = some o2 ∧ t = (if o1 ≠ .lt then t0 + 1 else if o2 ≠ .gt then t0 - 1 else t0)
def BadY (y : Nat) : Prop := double.order y 4786511204640096256 = some .gt ∨ ∃ o, double.order y 4786511204640096256 = some o ∧ o ≠ .gt ∧ double.order y 14009883241494872064 = some .lt
/-- What Ticks answers on the wire's price x at the denominator d. -/
def Tick (d : Int) (x : Nat) (t e : Int) : Prop :=
  (FinX x ∧ ∃ y, double.mul x (floatOfInt .f64 d) = some y ∧ ((GoodY y t ∧ e = 0) ∨ (BadY y ∧ t = 0 ∧ e = 8))) ∨
  (double.order x x = none ∧ t = 0 ∧ e = 6) ∨ (double.order x x = some .eq ∧ double.sub x x = none ∧ t = 0 ∧ e = 7)

theorem finX_dbl {x : Nat} {v : Int} (h : Dbl x v) : FinX x := by
  refine ⟨by rw [order_dbl h h, Int.compare_eq_eq.2 rfl], ?_⟩
  obtain ⟨z, e1, e2⟩ := sub_dbl h h (by rw [Int.sub_self]; exact fits_small (by decide))
  rw [Int.sub_self] at e2
  exact ⟨z, e1, by rw [order_dbl e2 dbl_c0, Int.compare_eq_eq.2 rfl]⟩
theorem cmp_ne_gt {a b : Int} (h : a ≤ b) : compare a b ≠ .gt := fun c => by have := Int.compare_eq_gt.1 c; omega
theorem cmp_ne_lt {a b : Int} (h : b ≤ a) : compare a b ≠ .lt := fun c => by have := Int.compare_eq_lt.1 c; omega
theorem rndP_bound (v : Int) (h1 : -1000000000000 * one ≤ v) (h2 : v ≤ 1000000000000 * one) : (rndP v).natAbs ≤ 1000000000000 := by
  have ho : one = 1267650600228229401496703205376 := rfl
  have hb := tdiv_bounds v
  unfold rndP
  rw [ho] at hb h1 h2 ⊢
  generalize v.tdiv 1267650600228229401496703205376 = t at *
  have : (0 ≤ v - t * 1267650600228229401496703205376 ∧ v - t * 1267650600228229401496703205376 < 1267650600228229401496703205376 ∧ 0 ≤ v) ∨ (v - t * 1267650600228229401496703205376 ≤ 0 ∧ -1267650600228229401496703205376 < v - t * 1267650600228229401496703205376 ∧ v ≤ 0) := by
    rcases Int.lt_or_le v 0 with c | c
    · have := hb.2 (by omega); omega
    · have := hb.1 c; omega
  clear hb
  split
  · omega
  · split <;> omega
theorem goodY_dbl {y : Nat} {v : Int} (hy : Dbl y v) (h1 : -1000000000000 * one ≤ v) (h2 : v ≤ 1000000000000 * one) : GoodY y (rndP v) := by
  obtain ⟨e1, e2, r, e3, e4⟩ := ticks_way hy h1 h2
  refine ⟨⟨_, order_dbl hy dbl_tick, cmp_ne_gt h2⟩, ⟨_, order_dbl hy dbl_ntick, cmp_ne_lt h1⟩, rndP_bound v h1 h2, _, r, _, _, e1, e2, e3, order_dbl e4 dbl_half, order_dbl e4 dbl_nhalf, ?_⟩
  have ho : one = 1267650600228229401496703205376 := rfl
  have c1 : (compare (v - v.tdiv one * one) (one / 2) ≠ .lt) = (2 * (v - v.tdiv one * one) ≥ one) := by
    refine propext ⟨fun h => ?_, fun h => cmp_ne_lt (by rw [ho] at h ⊢; omega)⟩
    rcases Int.lt_or_le (v - v.tdiv one * one) (one / 2) with c | c
    · exact absurd (Int.compare_eq_lt.2 c) h
    · rw [ho] at c ⊢; omega
  have c2 : (compare (v - v.tdiv one * one) (-(one / 2)) ≠ .gt) = (2 * (v - v.tdiv one * one) ≤ -one) := by
    refine propext ⟨fun h => ?_, fun h => cmp_ne_gt (by rw [ho] at h ⊢; omega)⟩
    rcases Int.lt_or_le (-(one / 2)) (v - v.tdiv one * one) with c | c
    · exact absurd (Int.compare_eq_gt.2 c) h
    · rw [ho] at c ⊢; omega
  unfold rndP
  by_cases b1 : 2 * (v - v.tdiv one * one) ≥ one
  · have n1 : compare (v - v.tdiv one * one) (one / 2) ≠ .lt := by rw [c1]; exact b1
    rw [if_pos b1, if_pos n1]
  · have n1 : ¬ compare (v - v.tdiv one * one) (one / 2) ≠ .lt := by rw [c1]; exact b1
    rw [if_neg b1, if_neg n1]
    by_cases b2 : 2 * (v - v.tdiv one * one) ≤ -one
    · have n2 : compare (v - v.tdiv one * one) (-(one / 2)) ≠ .gt := by rw [c2]; exact b2
      rw [if_pos b2, if_pos n2]
    · have n2 : ¬ compare (v - v.tdiv one * one) (-(one / 2)) ≠ .gt := by rw [c2]; exact b2
      rw [if_neg b2, if_neg n2]
theorem badY_dbl {y : Nat} {v : Int} (hy : Dbl y v) (h : v < -1000000000000 * one ∨ 1000000000000 * one < v) : BadY y := by
  rcases Int.lt_or_le (1000000000000 * one) v with c | c
  · exact .inl (by rw [order_dbl hy dbl_tick, Int.compare_eq_gt.2 c])
  · refine .inr ⟨_, order_dbl hy dbl_tick, cmp_ne_gt c, ?_⟩
    rw [order_dbl hy dbl_ntick, Int.compare_eq_lt.2 (h.resolve_right (by omega))]

theorem tick_good {d : Int} {x y : Nat} {xv v : Int} (hx : Dbl x xv) (hm : double.mul x (floatOfInt .f64 d) = some y) (hy : Dbl y v) (h1 : -1000000000000 * one ≤ v) (h2 : v ≤ 1000000000000 * one) : Tick d x (rndP v) 0 :=
  .inl ⟨finX_dbl hx, y, hm, .inl ⟨goodY_dbl hy h1 h2, rfl⟩⟩
theorem tick_bad {d : Int} {x y : Nat} {xv v : Int} (hx : Dbl x xv) (hm : double.mul x (floatOfInt .f64 d) = some y) (hy : Dbl y v) (h : v < -1000000000000 * one ∨ 1000000000000 * one < v) : Tick d x 0 8 :=
  .inl ⟨finX_dbl hx, y, hm, .inr ⟨badY_dbl hy h, rfl, rfl⟩⟩
theorem tick_zero {d : Int} (hd : Ten d) {x : Nat} (hx : Dbl x 0) : Tick d x 0 0 := by
  have hd1 : 1 ≤ d ∧ d ≤ 10000 := by unfold Ten at hd; omega
  obtain ⟨y, e1, e2⟩ := mul_dbl (c := 0) hx (ofInt_one (n := d) (by omega)) (by rw [Int.zero_mul, Int.zero_mul]) (fits_small (by decide))
  have := tick_good hx e1 e2 (by decide) (by decide)
  have e : rndP 0 = 0 := by decide
  rw [e] at this
  exact this
theorem tick_quote {d : Int} (hd : Ten d) {n : Int} (h1 : -1000000000000 ≤ n) (h2 : n ≤ 1000000000000) : ∃ x, double.div (floatOfInt .f64 n) (floatOfInt .f64 d) = some x ∧ Tick d x n 0 := by
  obtain ⟨x, y, xv, v, e1, e2, e3, e4, e5, e6, e7⟩ := quote_way hd h1 h2
  have := tick_good e2 e3 e4 e5 e6
  rw [e7] at this
  exact ⟨x, e1, this⟩
/-- What Ticks answers behind Feed. -/
def feedT (d m : Int) (u k : Nat) : Int × Int := if m * 2 ^ u * d > 1000000000000 * 2 ^ k ∨ m * 2 ^ u * d < -1000000000000 * 2 ^ k then (0, 8) else (roundDiv (m * 2 ^ u * d) (2 ^ k), 0)
theorem tick_feed {d : Int} (hd : Ten d) {m : Int} (hm : m.natAbs ≤ 549755813888) (u k : Nat) (hu : u ≤ 8) (hk : k ≤ 16) : ∃ p x, double.mul (floatOfInt .f64 m) (floatOfInt .f64 (2 ^ u)) = some p ∧ double.div p (floatOfInt .f64 (2 ^ k)) = some x ∧ Tick d x (feedT d m u k).1 (feedT d m u k).2 := by
  obtain ⟨p, x, y, xv, yv, e1, e2, e3, e4, e5, e6, e7⟩ := feed_way hd hm u k hu hk
  refine ⟨p, x, e1, e2, ?_⟩
  have hp : (0 : Int) < 2 ^ k := Int.pow_pos (by omega)
  have hopos : (0 : Int) < one := by decide
  unfold feedT
  have key1 : ∀ T : Int, (T * one < yv) ↔ T * 2 ^ k < m * 2 ^ u * d := by
    intro T
    constructor
    · intro h
      have := Int.mul_lt_mul_of_pos_right h hp
      rw [e6, Int.mul_right_comm] at this
      exact Int.lt_of_mul_lt_mul_right this (by omega)
    · intro h
      have := Int.mul_lt_mul_of_pos_right h hopos
      rw [← e6, Int.mul_right_comm] at this
      exact Int.lt_of_mul_lt_mul_right this (by omega)
  have key2 : ∀ T : Int, (yv < T * one) ↔ m * 2 ^ u * d < T * 2 ^ k := by
    intro T
    constructor
    · intro h
      have := Int.mul_lt_mul_of_pos_right h hp
      rw [e6, Int.mul_right_comm T] at this
      exact Int.lt_of_mul_lt_mul_right this (by omega)
    · intro h
      have := Int.mul_lt_mul_of_pos_right h hopos
      rw [← e6, Int.mul_right_comm T] at this
      exact Int.lt_of_mul_lt_mul_right this (by omega)
  by_cases hc : m * 2 ^ u * d > 1000000000000 * 2 ^ k ∨ m * 2 ^ u * d < -1000000000000 * 2 ^ k
  · rw [if_pos hc]
    refine tick_bad e3 e4 e5 ?_
    rcases hc with c | c
    · exact .inr ((key1 _).2 c)
    · exact .inl ((key2 _).2 c)
  · rw [if_neg hc]
    have h1 : -1000000000000 * one ≤ yv := by
      rcases Int.lt_or_le yv (-1000000000000 * one) with c | c
      · exact absurd (.inr ((key2 _).1 c)) hc
      · exact c
    have h2 : yv ≤ 1000000000000 * one := by
      rcases Int.lt_or_le (1000000000000 * one) yv with c | c
      · exact absurd (.inl ((key1 _).1 c)) hc
      · exact c
    have := tick_good e3 e4 e5 h1 h2
    rw [rndP_div yv (m * 2 ^ u * d) (2 ^ k) (by omega) e6] at this
    exact this

/-! ### The odd values -/
theorem mul_huge : double.mul 9214364837600034816 4611686018427387904 = some 9218868437227405312 := by decide +kernel
theorem sub_inf : double.sub 9218868437227405312 9218868437227405312 = none := by decide +kernel
theorem neg_inf : Op.negFloat .f64 9218868437227405312 = 18442240474082181120 := by decide +kernel
theorem neg_huge : Op.negFloat .f64 9214364837600034816 = 18437736874454810624 := by decide +kernel
theorem neg_zero : Op.negFloat .f64 0 = 9223372036854775808 := by decide +kernel
theorem tick_pinf (d : Int) : Tick d 9218868437227405312 0 7 := .inr (.inr ⟨by decide +kernel, by decide +kernel, rfl, rfl⟩)
theorem tick_ninf (d : Int) : Tick d 18442240474082181120 0 7 := .inr (.inr ⟨by decide +kernel, by decide +kernel, rfl, rfl⟩)
theorem tick_nzero {d : Int} (hd : Ten d) : Tick d 9223372036854775808 0 0 := tick_zero hd (dbl_zero (s := true) (i := -1074) (by decide +kernel) (by omega))
theorem tick_nan (d : Int) {x : Nat} (h : double.order x x = none) : Tick d x 0 6 := .inr (.inl ⟨h, rfl, rfl⟩)
theorem fin_huge : FinX 9214364837600034816 := ⟨by decide +kernel, 0, by decide +kernel, by decide +kernel⟩
theorem fin_nhuge : FinX 18437736874454810624 := ⟨by decide +kernel, 0, by decide +kernel, by decide +kernel⟩
theorem fin_tiny : FinX 1 := ⟨by decide +kernel, 0, by decide +kernel, by decide +kernel⟩
theorem tick_huge {d : Int} (hd : Ten d) : Tick d 9214364837600034816 0 8 := by
  refine .inl ⟨fin_huge, ?_⟩
  unfold Ten at hd
  rcases hd with rfl | rfl | rfl | rfl | rfl | rfl | rfl | rfl | rfl | rfl
  · exact ⟨9214364837600034816, by decide +kernel, .inr ⟨.inl (by decide +kernel), rfl, rfl⟩⟩
  all_goals exact ⟨9218868437227405312, by decide +kernel, .inr ⟨.inl (by decide +kernel), rfl, rfl⟩⟩
theorem tick_nhuge {d : Int} (hd : Ten d) : Tick d 18437736874454810624 0 8 := by
  refine .inl ⟨fin_nhuge, ?_⟩
  unfold Ten at hd
  rcases hd with rfl | rfl | rfl | rfl | rfl | rfl | rfl | rfl | rfl | rfl
  · exact ⟨18437736874454810624, by decide +kernel, .inr ⟨.inr ⟨.lt, by decide +kernel, by decide, by decide +kernel⟩, rfl, rfl⟩⟩
  all_goals exact ⟨18442240474082181120, by decide +kernel, .inr ⟨.inr ⟨.lt, by decide +kernel, by decide, by decide +kernel⟩, rfl, rfl⟩⟩
theorem tick_tiny {d : Int} (hd : Ten d) : Tick d 1 0 0 := by
  refine .inl ⟨fin_tiny, ?_⟩
  unfold Ten at hd
  rcases hd with rfl | rfl | rfl | rfl | rfl | rfl | rfl | rfl | rfl | rfl
  · exact ⟨1, by decide +kernel, .inl ⟨⟨⟨.lt, by decide +kernel, by decide⟩, ⟨.gt, by decide +kernel, by decide⟩, by decide, 0, 1, .lt, .gt, by decide +kernel, by decide, by decide +kernel, by decide +kernel, by decide +kernel, by decide⟩, rfl⟩⟩
  · exact ⟨2, by decide +kernel, .inl ⟨⟨⟨.lt, by decide +kernel, by decide⟩, ⟨.gt, by decide +kernel, by decide⟩, by decide, 0, 2, .lt, .gt, by decide +kernel, by decide, by decide +kernel, by decide +kernel, by decide +kernel, by decide⟩, rfl⟩⟩
  · exact ⟨4, by decide +kernel, .inl ⟨⟨⟨.lt, by decide +kernel, by decide⟩, ⟨.gt, by decide +kernel, by decide⟩, by decide, 0, 4, .lt, .gt, by decide +kernel, by decide, by decide +kernel, by decide +kernel, by decide +kernel, by decide⟩, rfl⟩⟩
  · exact ⟨8, by decide +kernel, .inl ⟨⟨⟨.lt, by decide +kernel, by decide⟩, ⟨.gt, by decide +kernel, by decide⟩, by decide, 0, 8, .lt, .gt, by decide +kernel, by decide, by decide +kernel, by decide +kernel, by decide +kernel, by decide⟩, rfl⟩⟩
  · exact ⟨16, by decide +kernel, .inl ⟨⟨⟨.lt, by decide +kernel, by decide⟩, ⟨.gt, by decide +kernel, by decide⟩, by decide, 0, 16, .lt, .gt, by decide +kernel, by decide, by decide +kernel, by decide +kernel, by decide +kernel, by decide⟩, rfl⟩⟩
  · exact ⟨32, by decide +kernel, .inl ⟨⟨⟨.lt, by decide +kernel, by decide⟩, ⟨.gt, by decide +kernel, by decide⟩, by decide, 0, 32, .lt, .gt, by decide +kernel, by decide, by decide +kernel, by decide +kernel, by decide +kernel, by decide⟩, rfl⟩⟩
  · exact ⟨64, by decide +kernel, .inl ⟨⟨⟨.lt, by decide +kernel, by decide⟩, ⟨.gt, by decide +kernel, by decide⟩, by decide, 0, 64, .lt, .gt, by decide +kernel, by decide, by decide +kernel, by decide +kernel, by decide +kernel, by decide⟩, rfl⟩⟩
  · exact ⟨100, by decide +kernel, .inl ⟨⟨⟨.lt, by decide +kernel, by decide⟩, ⟨.gt, by decide +kernel, by decide⟩, by decide, 0, 100, .lt, .gt, by decide +kernel, by decide, by decide +kernel, by decide +kernel, by decide +kernel, by decide⟩, rfl⟩⟩
  · exact ⟨1000, by decide +kernel, .inl ⟨⟨⟨.lt, by decide +kernel, by decide⟩, ⟨.gt, by decide +kernel, by decide⟩, by decide, 0, 1000, .lt, .gt, by decide +kernel, by decide, by decide +kernel, by decide +kernel, by decide +kernel, by decide⟩, rfl⟩⟩
  · exact ⟨10000, by decide +kernel, .inl ⟨⟨⟨.lt, by decide +kernel, by decide⟩, ⟨.gt, by decide +kernel, by decide⟩, by decide, 0, 10000, .lt, .gt, by decide +kernel, by decide, by decide +kernel, by decide +kernel, by decide +kernel, by decide⟩, rfl⟩⟩
/-! ### A NaN out of the tape -/
theorem nan_cut (x y t : Nat) : double.order ((Question.nanBits .f64 x y).cut t) ((Question.nanBits .f64 x y).cut t) = none := by
  have h : ∃ s f, double.read ((Question.nanBits .f64 x y).cut t) = .nan s f := by
    have hi : double.infRung = 9218868437227405312 := rfl
    have hb : double.binade = 4503599627370496 := rfl
    have hs : double.signWeight = 9223372036854775808 := rfl
    have e : (Question.nanBits .f64 x y).cut t = t % 2 * 9223372036854775808 + 9218868437227405312 + 1 + t / 2 % 4503599627370495 := rfl
    rw [e]
    have h1 : t / 2 % 4503599627370495 < 4503599627370495 := Nat.mod_lt _ (by omega)
    generalize t / 2 % 4503599627370495 = z at *
    have h2 : t % 2 < 2 := Nat.mod_lt _ (by omega)
    generalize t % 2 = b at *
    unfold Format.read
    rw [hi, hb, hs]
    dsimp only
    rw [show (b * 9223372036854775808 + 9218868437227405312 + 1 + z) % 9223372036854775808 = 9218868437227405312 + 1 + z by omega]
    rw [if_neg (by omega), if_neg (by omega), if_neg (by omega)]
    exact ⟨_, _, rfl⟩
  obtain ⟨s, f, h⟩ := h
  unfold Format.order
  rw [h]
  rfl
theorem nan_zero (x y t : Nat) : (double.order ((Question.nanBits .f64 x y).cut t) 0 != some .eq) = true := by
  have h := nan_cut x y t
  generalize (Question.nanBits .f64 x y).cut t = b at *
  unfold Format.order at h ⊢
  generalize double.read b = d at *
  cases d with
  | nan s f => rfl
  | infinity s => cases h
  | number s m i => cases h
theorem run_float_nan {P : Program} (w : World) (t : TypeId) (x y : Nat) (h : double.sub x y = none) : (binOp .sub t (.float .f64 x) (.float .f64 y)).run P w = .ok (.float .f64 ((Question.nanBits .f64 x y).cut (w.tape w.drawn (.nanBits .f64 x y)))) w.drew := by
  have h' : FloatKind.f64.format.sub x y = none := h
  simp [binOp, Op.floatArith, h', Question.forced]

/-! ### The size of 32 bits -/
theorem read_norm {b : Nat} {s : Bool} {m : Nat} {i : Int} (h : double.read b = .number s m i) (hi : -1074 < i) : 2 ^ 52 ≤ m := by
  have hb : double.binade = 4503599627370496 := rfl
  have hl : double.leastPlace = -1074 := rfl
  unfold Format.read at h
  dsimp only at h
  rw [hb] at h
  split at h
  · rw [hl] at h; cases h; omega
  · split at h
    · cases h; omega
    · split at h <;> cases h
theorem size_way (q : Int) (h1 : 1 ≤ q) (h2 : q ≤ 16777216) : ∃ r, floatToFloatBits .f32 (floatOfInt .f32 q) .f64 = some r ∧ Dbl r (q * one) ∧ floatToFloatBits .f64 r .f32 = some (floatOfInt .f32 q) ∧ single.order (floatOfInt .f32 q) (floatOfInt .f32 q) = some .eq := by
  obtain ⟨n, rfl⟩ := Int.eq_ofNat_of_zero_le (show 0 ≤ q by omega)
  have hsz : floatOfInt .f32 (n : Int) = sz n := by
    show single.write (.number (decide ((n : Int) < 0)) (n : Int).natAbs 0) = _
    rw [decide_eq_false (by omega)]; rfl
  rw [hsz]
  obtain ⟨_, m, i, e1, hi, e2⟩ := sz_spell n 0 (by omega) (by omega)
  have hd : Dbl (double.nearest false m i) ((n : Int) * one) := by
    have := write_exact (d := .number false m i) (K := 1074) (a := (n : Int)) (g := 100) (by omega) ⟨_, _, _, rfl, by omega, ?_⟩ (by omega) (by omega)
    · rw [one_eq] at this; exact this
    · have := pow_shift (a := (i + 1074).toNat) (b := 100 + (1074 - 100)) e2 (by omega)
      show _ = ((m * 2 ^ (i + 1074).toNat : Nat) : Int)
      rw [this, Int.natCast_mul, Int.mul_assoc, ← Int.pow_add]
      exact congrArg (fun z => (n : Int) * z) (ip _).symm
  have hd2 := hd
  obtain ⟨s', m', i', f1, f2, f3⟩ := hd2
  have hnum : double.read (double.write (.number false m i)) = .number s' m' i' := f1
  refine ⟨double.nearest false m i, ?_, hd, ?_, ?_⟩
  · unfold floatToFloatBits
    rw [if_neg (by decide)]
    rw [show FloatKind.f32.decode (sz n) = .number false m i from e1]
    dsimp only
    rw [show FloatKind.f64.decode (FloatKind.f64.encode (.number false m i)) = .number s' m' i' from f1]
    rfl
  · have hs : s' = false := by
      cases s'
      · rfl
      · have : (0 : Int) < (n : Int) * one * 2 ^ lo := Int.mul_pos (Int.mul_pos (by omega) (by decide)) (Int.pow_pos (by omega))
        unfold sgn at f3; simp only [if_true] at f3; omega
    subst hs
    have lo1 := lo_eq
    have f4 : n * 2 ^ (100 + lo) = m' * 2 ^ (i' + 1074).toNat := by
      have : ((n * 2 ^ (100 + lo) : Nat) : Int) = ((m' * 2 ^ (i' + 1074).toNat : Nat) : Int) := by
        rw [show ((m' * 2 ^ (i' + 1074).toNat : Nat) : Int) = sgn false (m' * 2 ^ (i' + 1074).toNat) from rfl, ← f3, Int.natCast_mul, ip, ← one_eq, Int.mul_assoc, ← Int.pow_add]
      exact Int.ofNat.inj this
    have hi' : i' ≤ 0 := by
      rcases Int.lt_or_le 0 i' with c | c
      · have h52 := read_norm f1 (by omega)
        have := pow_shift (a := i'.toNat) (b := 0) f4.symm (by omega)
        rw [Nat.pow_zero, Nat.mul_one] at this
        have : m' ≤ n := by rw [← this]; exact Nat.le_mul_of_pos_right _ (Nat.two_pow_pos _)
        omega
      · exact c
    have f5 : m' = n * 2 ^ (-i').toNat := by
      have := pow_shift (a := 0) (b := (-i').toNat) f4.symm (by omega)
      rw [Nat.pow_zero, Nat.mul_one] at this
      exact this
    have hsp := (sz_spell n (-i').toNat (by omega) (by omega)).1
    rw [← f5, show -(((-i').toNat : Nat) : Int) = i' by omega] at hsp
    unfold floatToFloatBits
    rw [if_neg (by decide)]
    rw [show FloatKind.f64.decode (double.nearest false m i) = .number false m' i' from f1]
    dsimp only
    rw [show FloatKind.f32.encode (.number false m' i') = sz n from hsp, show FloatKind.f32.decode (sz n) = .number false m i from e1]
    rfl
  · unfold Format.order
    rw [e1]
    show some (compare _ _) = _
    rw [Int.compare_eq_eq.2 rfl]
end Go.Proofs.Qxb6500365a
