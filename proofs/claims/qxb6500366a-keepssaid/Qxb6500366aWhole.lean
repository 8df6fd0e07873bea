import Derived.Laws.ComplexArith
import Derived.Laws.ComplexQuo
namespace Go.Qx
open Ieee

def sg (s : Bool) : Int := if s then -1 else 1

theorem signed_eq (s : Bool) (m k : Nat) : signed s m k = sg s * ((m : Int) * 2 ^ k) := by
  unfold signed sg
  rw [Nat.shiftLeft_eq]
  cases s <;> simp

theorem sg_natAbs (s : Bool) (x : Int) : (sg s * x).natAbs = x.natAbs := by
  unfold sg; cases s <;> simp

/-- 'm * 2 ^ e', with its sign, is the whole number n. -/
def Val (s : Bool) (m : Nat) (e : Int) (n : Int) : Prop := ∃ B : Nat, 0 ≤ e + B ∧ sg s * ((m : Int) * 2 ^ (e + B).toNat) = n * 2 ^ B

theorem pow_pos2 (k : Nat) : (0 : Int) < 2 ^ k := by
  have := Nat.two_pow_pos k
  exact_mod_cast this

theorem Val.at {s : Bool} {m : Nat} {e n : Int} (v : Val s m e n) (B : Nat) (hB : 0 ≤ e + B) : sg s * ((m : Int) * 2 ^ (e + B).toNat) = n * 2 ^ B := by
  obtain ⟨B0, h0, h1⟩ := v
  by_cases hle : B0 ≤ B
  · obtain ⟨d, rfl⟩ := Nat.exists_eq_add_of_le hle
    have e1 : (e + ((B0 + d : Nat) : Int)).toNat = (e + B0).toNat + d := by omega
    rw [e1, Int.pow_add, Int.pow_add, ← Int.mul_assoc (m : Int), ← Int.mul_assoc (sg s), h1, Int.mul_assoc]
  · obtain ⟨d, rfl⟩ := Nat.exists_eq_add_of_le (show B ≤ B0 by omega)
    have e1 : (e + ((B + d : Nat) : Int)).toNat = (e + B).toNat + d := by omega
    rw [e1, Int.pow_add, Int.pow_add, ← Int.mul_assoc (m : Int), ← Int.mul_assoc (sg s), ← Int.mul_assoc n] at h1
    exact Int.eq_of_mul_eq_mul_right (Int.ne_of_gt (pow_pos2 d)) h1

theorem Val.abs {s : Bool} {m : Nat} {e n : Int} (v : Val s m e n) (B : Nat) (hB : 0 ≤ e + B) : m * 2 ^ (e + B).toNat = n.natAbs * 2 ^ B := by
  have h := congrArg Int.natAbs (v.at B hB)
  rw [sg_natAbs, Int.natAbs_mul, Int.natAbs_mul, Int.natAbs_natCast, Int.natAbs_pow, Int.natAbs_pow] at h
  exact h

theorem cut_exact (way : Toward) (neg : Bool) (n drop : Nat) (hn : n ≠ 0) (hd : 2 ^ drop ∣ n) : way.cut neg n drop = n / 2 ^ drop := by
  have hle : 2 ^ drop ≤ n := Nat.le_of_dvd (by omega) hd
  have hlog : drop ≤ n.log2 := by
    rcases Nat.lt_or_ge n.log2 drop with h | h
    · have h1 : n < 2 ^ (n.log2 + 1) := Nat.lt_log2_self
      have h2 : 2 ^ (n.log2 + 1) ≤ 2 ^ drop := Nat.pow_le_pow_right (by omega) (by omega)
      omega
    · exact h
  unfold Toward.cut
  have hmin : min drop (n.log2 + 2) = drop := by omega
  have hpos := Nat.two_pow_pos drop
  have hz : n % 2 ^ drop = 0 := Nat.mod_eq_zero_of_dvd hd
  simp only [hmin, Nat.shiftLeft_eq, Nat.one_mul, hz]
  cases way <;> simp

/-- A format in which every whole number up to two binades stands exactly. -/
structure Good (f : Format) : Prop where
  l0 : f.leastPlace ≤ 0
  room : ((-f.leastPlace).toNat + 3) * f.binade ≤ f.infRung
  sw : f.infRung ≤ f.signWeight

theorem good_double : Good double := ⟨by decide, by decide, by decide⟩
theorem good_single : Good single := ⟨by decide, by decide, by decide⟩

theorem read_word {f : Format} (g : Good f) (s : Bool) (r : Nat) (hr : r < f.infRung) :
    f.read (f.word s r) = if r < f.binade then .number s r f.leastPlace else .number s (f.binade + r % f.binade) (f.leastPlace + (r / f.binade - 1 : Nat)) := by
  have hs : r < f.signWeight := Nat.lt_of_lt_of_le hr g.sw
  have hp : 0 < f.signWeight := by omega
  have e1 : f.word s r % f.signWeight = r := by
    unfold Format.word
    cases s
    · simp [Nat.mod_eq_of_lt hs]
    · simp [Nat.mod_eq_of_lt hs]
  have e2 : (f.word s r / f.signWeight % 2 == 1) = s := by
    unfold Format.word
    cases s
    · simp [Nat.div_eq_of_lt hs]
    · have : (f.signWeight + r) / f.signWeight = 1 := by
        rw [Nat.add_div_left _ hp, Nat.div_eq_of_lt hs]
      simp [this]
  unfold Format.read
  simp only [e1, e2]
  by_cases h : r < f.binade
  · rw [if_pos h, if_pos h]
  · rw [if_neg h, if_neg h, if_pos hr]

theorem read_rung {f : Format} (g : Good f) (s : Bool) (last : Int) (kept : Nat) (h0 : f.leastPlace ≤ last) (h1 : last ≤ 1) (hk : kept < 2 * f.binade) (hl : f.leastPlace < last → f.binade ≤ kept) :
    f.read (f.word s (min ((last - f.leastPlace).toNat * f.binade + kept) f.infRung)) = .number s kept last := by
  have g1 := g.room
  have g0 := g.l0
  have hb : 0 < f.binade := Nat.two_pow_pos _
  generalize hB : f.binade = Bn at *
  have hq : (last - f.leastPlace).toNat + 2 ≤ (-f.leastPlace).toNat + 3 := by omega
  have hlt : (last - f.leastPlace).toNat * Bn + kept < f.infRung := by
    have h2 : ((last - f.leastPlace).toNat + 2) * Bn ≤ ((-f.leastPlace).toNat + 3) * Bn := Nat.mul_le_mul_right _ hq
    rw [Nat.add_mul] at h2
    omega
  rw [Nat.min_eq_left (Nat.le_of_lt hlt), read_word g s _ hlt, hB]
  generalize hQ : (last - f.leastPlace).toNat = Q at *
  by_cases hz : Q = 0
  · subst hz
    have hlast : last = f.leastPlace := by omega
    rw [Nat.zero_mul, Nat.zero_add]
    by_cases hkb : kept < Bn
    · rw [if_pos hkb, hlast]
    · rw [if_neg hkb]
      have e1 : kept / Bn = 1 := by
        apply Nat.div_eq_of_lt_le <;> omega
      have e2 : kept % Bn = kept - Bn := by
        have := Nat.div_add_mod kept Bn
        rw [e1] at this; omega
      rw [e1, e2, hlast]
      congr 1 <;> omega
  · have hkb := hl (by omega)
    have hge : ¬ Q * Bn + kept < Bn := by
      have : Bn ≤ Q * Bn := Nat.le_mul_of_pos_left _ (by omega)
      omega
    rw [if_neg hge]
    have e1 : (Q * Bn + kept) / Bn = Q + 1 := by
      rw [Nat.add_comm, Nat.add_mul_div_right _ _ hb]
      have : kept / Bn = 1 := by apply Nat.div_eq_of_lt_le <;> omega
      omega
    have e2 : (Q * Bn + kept) % Bn = kept - Bn := by
      rw [Nat.add_comm, Nat.add_mul_mod_self_right]
      have e3 : kept / Bn = 1 := by apply Nat.div_eq_of_lt_le <;> omega
      have := Nat.div_add_mod kept Bn
      rw [e3] at this; omega
    rw [e1, e2]
    congr 1 <;> omega

theorem Val.zero {s : Bool} {e n : Int} (v : Val s 0 e n) : n = 0 := by
  have h := v.abs (-e).toNat (by omega)
  rw [Nat.zero_mul] at h
  have hp := Nat.two_pow_pos (-e).toNat
  have : n.natAbs = 0 := by
    rcases Nat.eq_zero_or_pos n.natAbs with h0 | h0
    · exact h0
    · have := Nat.mul_pos h0 hp; omega
  omega

theorem val_zero (s : Bool) (e : Int) : Val s 0 e 0 := ⟨(-e).toNat, by omega, by simp⟩

/-- A whole number of at most two binades, over 2 ^ q, is written exactly. -/
theorem nearest_scaled {f : Format} (g : Good f) (q : Nat) (hq : f.leastPlace + q ≤ 0) {s : Bool} {m : Nat} {e n : Int} (v : Val s m (e + q) n) (hn : n.natAbs ≤ 2 * f.binade) : ∃ k l, f.read (f.nearest s m e) = .number s k l ∧ Val s k (l + q) n := by
  have hbin : f.binade = 2 ^ f.fractionBits := rfl
  unfold Format.nearest
  by_cases hm : m = 0
  · subst hm
    have h0 := v.zero
    subst h0
    rw [if_pos rfl]
    have hb : 0 < f.binade := Nat.two_pow_pos _
    have hi : 0 < f.infRung := by
      have := g.room
      have h3 : 1 * 1 ≤ ((-f.leastPlace).toNat + 3) * f.binade := Nat.mul_le_mul (by omega) hb
      omega
    refine ⟨0, f.leastPlace, ?_, val_zero _ _⟩
    rw [read_word g s 0 hi, if_pos hb]
  · rw [if_neg hm]
    have l1 : 2 ^ m.log2 ≤ m := Nat.log2_self_le hm
    have l2 : m < 2 ^ (m.log2 + 1) := Nat.lt_log2_self
    generalize m.log2 = lg at *
    have g0 := g.l0
    generalize hfb : f.fractionBits = fb at *
    rw [hbin, ← Nat.pow_succ'] at hn
    generalize hE' : e + (q : Int) = E at *
    -- how great the number is
    have habs := v.abs (-E).toNat (by omega)
    have hA : E + lg ≤ fb + 1 := by
      rcases Int.lt_or_le (fb + 1 : Int) (E + lg) with h | h
      · have h1 : 2 ^ (lg + (E + ((-E).toNat : Int)).toNat) ≤ m * 2 ^ (E + ((-E).toNat : Int)).toNat := by
          rw [Nat.pow_add]; exact Nat.mul_le_mul_right _ l1
        have h2 : n.natAbs * 2 ^ (-E).toNat ≤ 2 ^ (fb + 1 + (-E).toNat) := by
          rw [Nat.pow_add]; exact Nat.mul_le_mul_right _ hn
        have h3 : 2 ^ (fb + 1 + (-E).toNat) < 2 ^ (lg + (E + ((-E).toNat : Int)).toNat) := Nat.pow_lt_pow_right (by omega) (by omega)
        omega
      · exact h
    have hlast1 : max (e + lg - fb) f.leastPlace + q ≤ 1 := by omega
    have hlastL : f.leastPlace ≤ max (e + lg - fb) f.leastPlace := by omega
    have hlastG : e + lg - fb ≤ max (e + lg - fb) f.leastPlace := by omega
    have hlastE : f.leastPlace < max (e + lg - fb) f.leastPlace → max (e + lg - fb) f.leastPlace = e + lg - fb := by omega
    have hlast0 : max (e + lg - fb) f.leastPlace + q = 1 → max (e + lg - fb) f.leastPlace = e + lg - fb := by omega
    simp only
    generalize max (e + lg - fb) f.leastPlace = last at *
    generalize hT : last + (q : Int) = T at *
    -- what is kept
    obtain ⟨kept, hkept, hkv, hku, hkl⟩ : ∃ kept, Toward.even.cut s (m <<< (e - last).toNat) (last - e).toNat = kept ∧ Val s kept T n ∧ kept < 2 ^ (fb + 1) ∧ (last = e + lg - fb → 2 ^ fb ≤ kept) := by
      by_cases hle : last ≤ e
      · refine ⟨m * 2 ^ (e - last).toNat, ?_, ?_, ?_, ?_⟩
        · rw [show (last - e).toNat = 0 by omega, Nat.shiftLeft_eq, cut_exact _ _ _ 0 ?_ (by simp)]
          · simp
          · have := Nat.two_pow_pos (e - last).toNat
            exact Nat.ne_of_gt (Nat.mul_pos (by omega) this)
        · refine ⟨(-E).toNat + (-T).toNat, by omega, ?_⟩
          rw [← v.at ((-E).toNat + (-T).toNat) (by omega)]
          rw [show (E + (((-E).toNat + (-T).toNat : Nat) : Int)).toNat = (e - last).toNat + (T + (((-E).toNat + (-T).toNat : Nat) : Int)).toNat by omega, Int.pow_add]
          push_cast
          rw [Int.mul_assoc]
        · have h1 : m * 2 ^ (e - last).toNat < 2 ^ (lg + 1) * 2 ^ (e - last).toNat := (Nat.mul_lt_mul_right (Nat.two_pow_pos _)).2 l2
          rw [← Nat.pow_add] at h1
          exact Nat.lt_of_lt_of_le h1 (Nat.pow_le_pow_right (by omega) (by omega))
        · intro hE
          have h1 : 2 ^ lg * 2 ^ (e - last).toNat ≤ m * 2 ^ (e - last).toNat := Nat.mul_le_mul_right _ l1
          rw [← Nat.pow_add, show lg + (e - last).toNat = fb by omega] at h1
          exact h1
      · have hdv : 2 ^ (last - e).toNat ∣ m := by
          have he0 : E ≤ 0 := by omega
          have hm2 : m = n.natAbs * 2 ^ (-E).toNat := by
            rw [show (E + ((-E).toNat : Int)).toNat = 0 by omega, Nat.pow_zero, Nat.mul_one] at habs
            exact habs
          by_cases hl0 : T ≤ 0
          · rw [hm2]
            exact Nat.dvd_mul_left_of_dvd (Nat.pow_dvd_pow 2 (by omega)) _
          · have h1 : T = 1 := by omega
            have h1' := hlast0 h1
            have h2 : E + lg = fb + 1 := by omega
            have hge : 2 ^ (fb + 1) ≤ n.natAbs := by
              rcases Nat.lt_or_ge n.natAbs (2 ^ (fb + 1)) with h | h
              · have h3 : n.natAbs * 2 ^ (-E).toNat < 2 ^ (fb + 1) * 2 ^ (-E).toNat := (Nat.mul_lt_mul_right (Nat.two_pow_pos _)).2 h
                rw [← Nat.pow_add, show fb + 1 + (-E).toNat = lg by omega] at h3
                omega
              · exact h
            have hEq : n.natAbs = 2 ^ (fb + 1) := by omega
            rw [hm2, hEq, ← Nat.pow_add]
            exact Nat.pow_dvd_pow 2 (by omega)
        obtain ⟨c, hc⟩ := hdv
        have hpp := Nat.two_pow_pos (last - e).toNat
        refine ⟨c, ?_, ?_, ?_, ?_⟩
        · rw [show (e - last).toNat = 0 by omega, Nat.shiftLeft_eq, Nat.pow_zero, Nat.mul_one, cut_exact _ _ _ _ hm ⟨c, hc⟩]
          conv => lhs; arg 1; rw [hc]
          exact Nat.mul_div_cancel_left _ hpp
        · refine ⟨(-E).toNat + (-T).toNat, by omega, ?_⟩
          rw [← v.at ((-E).toNat + (-T).toNat) (by omega)]
          rw [show (T + (((-E).toNat + (-T).toNat : Nat) : Int)).toNat = (last - e).toNat + (E + (((-E).toNat + (-T).toNat : Nat) : Int)).toNat by omega, Int.pow_add]
          rw [hc]
          push_cast
          ac_rfl
        · rcases Nat.lt_or_ge c (2 ^ (fb + 1)) with h | h
          · exact h
          · have h1 : 2 ^ (last - e).toNat * 2 ^ (fb + 1) ≤ m := by rw [hc]; exact Nat.mul_le_mul_left _ h
            rw [← Nat.pow_add] at h1
            have h2 : 2 ^ (lg + 1) ≤ 2 ^ ((last - e).toNat + (fb + 1)) := Nat.pow_le_pow_right (by omega) (by omega)
            omega
        · intro hE
          rcases Nat.lt_or_ge c (2 ^ fb) with h | h
          · have h1 : m < 2 ^ (last - e).toNat * 2 ^ fb := by
              conv => lhs; rw [hc]
              exact (Nat.mul_lt_mul_left hpp).2 h
            rw [← Nat.pow_add, show (last - e).toNat + fb = lg by omega] at h1
            omega
          · exact h
    refine ⟨kept, last, ?_, by rw [hT]; exact hkv⟩
    rw [hkept]
    refine read_rung g s last kept hlastL (by omega) ?_ ?_
    · rw [hbin, ← Nat.pow_succ']; exact hku
    · intro h; rw [hbin]; exact hkl (hlastE h)

/-- A whole number of at most two binades is written exactly. -/
theorem nearest_exact {f : Format} (g : Good f) {s : Bool} {m : Nat} {e n : Int} (v : Val s m e n) (hn : n.natAbs ≤ 2 * f.binade) : ∃ k l, f.read (f.nearest s m e) = .number s k l ∧ Val s k l n := by
  have := nearest_scaled g 0 (by have := g.l0; omega) (s := s) (m := m) (e := e) (n := n) (by simpa using v) hn
  simpa using this

/-- The word x stands for the whole number n. -/
def Whole (f : Format) (x : Nat) (n : Int) : Prop := ∃ s m e, f.read x = .number s m e ∧ Val s m e n

theorem write_whole {f : Format} (g : Good f) {s : Bool} {m : Nat} {e n : Int} (v : Val s m e n) (hn : n.natAbs ≤ 2 * f.binade) : Whole f (f.write (.number s m e)) n := by
  obtain ⟨k, l, h1, h2⟩ := nearest_exact g v hn
  exact ⟨s, k, l, h1, h2⟩

theorem sg_of (x : Int) : sg (decide (x < 0)) * (x.natAbs : Int) = x := by
  unfold sg
  by_cases h : x < 0
  · simp [h]; omega
  · simp [h]; omega

theorem val_of_total {s : Bool} {total base n : Int} (hs : total ≠ 0 → s = decide (total < 0)) (B : Nat) (hB : 0 ≤ base + B) (h : total * 2 ^ (base + B).toNat = n * 2 ^ B) : Val s total.natAbs base n := by
  refine ⟨B, hB, ?_⟩
  rw [← h]
  by_cases h0 : total = 0
  · subst h0; simp
  · rw [hs h0, ← Int.mul_assoc, sg_of]

theorem sum_val {s t : Bool} {m k : Nat} {i j a b : Int} (va : Val s m i a) (vb : Val t k j b) : ∃ s' m' e', (Datum.number s m i).sum (Datum.number t k j) = some (.number s' m' e') ∧ Val s' m' e' (a + b) := by
  simp only [Datum.sum]
  refine ⟨_, _, _, rfl, ?_⟩
  refine val_of_total ?_ ((-i).toNat + (-j).toNat) (by omega) ?_
  · intro h; rw [if_neg h]
  · rw [signed_eq, signed_eq, Int.add_mul, Int.add_mul]
    congr 1
    · rw [← va.at ((-i).toNat + (-j).toNat) (by omega), show (i + (((-i).toNat + (-j).toNat : Nat) : Int)).toNat = (i - min i j).toNat + (min i j + (((-i).toNat + (-j).toNat : Nat) : Int)).toNat by omega, Int.pow_add]
      ac_rfl
    · rw [← vb.at ((-i).toNat + (-j).toNat) (by omega), show (j + (((-i).toNat + (-j).toNat : Nat) : Int)).toNat = (j - min i j).toNat + (min i j + (((-i).toNat + (-j).toNat : Nat) : Int)).toNat by omega, Int.pow_add]
      ac_rfl

theorem sg_xor (s t : Bool) : sg (s ^^ t) = sg s * sg t := by
  unfold sg; cases s <;> cases t <;> rfl

theorem sg_not (s : Bool) : sg (!s) = - sg s := by
  unfold sg; cases s <;> rfl

theorem product_val {s t : Bool} {m k : Nat} {i j a b : Int} (va : Val s m i a) (vb : Val t k j b) : Val (s ^^ t) (m * k) (i + j) (a * b) := by
  refine ⟨(-i).toNat + (-j).toNat, by omega, ?_⟩
  have h1 := va.at (-i).toNat (by omega)
  have h2 := vb.at (-j).toNat (by omega)
  rw [sg_xor, show (i + j + (((-i).toNat + (-j).toNat : Nat) : Int)).toNat = (i + ((-i).toNat : Int)).toNat + (j + ((-j).toNat : Int)).toNat by omega, Int.pow_add, Int.pow_add]
  have h3 : a * b * (2 ^ (-i).toNat * 2 ^ (-j).toNat) = (a * 2 ^ (-i).toNat) * (b * 2 ^ (-j).toNat) := by ac_rfl
  rw [h3, ← h1, ← h2]
  push_cast
  ac_rfl

theorem opposite_val {s : Bool} {m : Nat} {i a : Int} (va : Val s m i a) : Val (!s) m i (-a) := by
  refine ⟨(-i).toNat, by omega, ?_⟩
  rw [sg_not, Int.neg_mul, va.at (-i).toNat (by omega), Int.neg_mul]

variable {f : Format}

theorem add_whole (g : Good f) {x y : Nat} {a b : Int} (hx : Whole f x a) (hy : Whole f y b) (hn : (a + b).natAbs ≤ 2 * f.binade) : ∃ z, f.add x y = some z ∧ Whole f z (a + b) := by
  obtain ⟨s, m, i, h1, va⟩ := hx
  obtain ⟨t, k, j, h2, vb⟩ := hy
  obtain ⟨s', m', e', h3, v⟩ := sum_val va vb
  unfold Format.add
  rw [h1, h2, h3]
  exact ⟨_, rfl, write_whole g v hn⟩

theorem sub_whole (g : Good f) {x y : Nat} {a b : Int} (hx : Whole f x a) (hy : Whole f y b) (hn : (a - b).natAbs ≤ 2 * f.binade) : ∃ z, f.sub x y = some z ∧ Whole f z (a - b) := by
  obtain ⟨s, m, i, h1, va⟩ := hx
  obtain ⟨t, k, j, h2, vb⟩ := hy
  obtain ⟨s', m', e', h3, v⟩ := sum_val va (opposite_val vb)
  rw [← Int.sub_eq_add_neg] at v
  unfold Format.sub
  rw [h1, h2]
  simp only [Datum.opposite]
  rw [h3]
  exact ⟨_, rfl, write_whole g v hn⟩

theorem mul_whole (g : Good f) {x y : Nat} {a b : Int} (hx : Whole f x a) (hy : Whole f y b) (hn : (a * b).natAbs ≤ 2 * f.binade) : ∃ z, f.mul x y = some z ∧ Whole f z (a * b) := by
  obtain ⟨s, m, i, h1, va⟩ := hx
  obtain ⟨t, k, j, h2, vb⟩ := hy
  unfold Format.mul
  rw [h1, h2]
  exact ⟨_, rfl, write_whole g (product_val va vb) hn⟩

theorem nearest_whole (g : Good f) (n : Int) (hn : n.natAbs ≤ 2 * f.binade) : Whole f (f.write (.number (n < 0) n.natAbs 0)) n :=
  write_whole g ⟨0, by omega, by simp; exact sg_of n⟩ hn

theorem order_whole {x y : Nat} {a b : Int} (hx : Whole f x a) (hy : Whole f y b) : f.order x y = some (compare a b) := by
  obtain ⟨s, m, i, h1, va⟩ := hx
  obtain ⟨t, k, j, h2, vb⟩ := hy
  unfold Format.order
  rw [h1, h2]
  simp only [Datum.order]
  congr 1
  rw [signed_eq, signed_eq]
  have e1 : (sg s * ((m : Int) * 2 ^ (i - min i j).toNat)) * 2 ^ (min i j + (((-i).toNat + (-j).toNat : Nat) : Int)).toNat = a * 2 ^ ((-i).toNat + (-j).toNat) := by
    rw [← va.at ((-i).toNat + (-j).toNat) (by omega), show (i + (((-i).toNat + (-j).toNat : Nat) : Int)).toNat = (i - min i j).toNat + (min i j + (((-i).toNat + (-j).toNat : Nat) : Int)).toNat by omega, Int.pow_add]
    ac_rfl
  have e2 : (sg t * ((k : Int) * 2 ^ (j - min i j).toNat)) * 2 ^ (min i j + (((-i).toNat + (-j).toNat : Nat) : Int)).toNat = b * 2 ^ ((-i).toNat + (-j).toNat) := by
    rw [← vb.at ((-i).toNat + (-j).toNat) (by omega), show (j + (((-i).toNat + (-j).toNat : Nat) : Int)).toNat = (j - min i j).toNat + (min i j + (((-i).toNat + (-j).toNat : Nat) : Int)).toNat by omega, Int.pow_add]
    ac_rfl
  generalize sg s * ((m : Int) * 2 ^ (i - min i j).toNat) = X at *
  generalize sg t * ((k : Int) * 2 ^ (j - min i j).toNat) = Y at *
  have p1 := pow_pos2 (min i j + (((-i).toNat + (-j).toNat : Nat) : Int)).toNat
  have p2 := pow_pos2 ((-i).toNat + (-j).toNat)
  generalize (2 : Int) ^ (min i j + (((-i).toNat + (-j).toNat : Nat) : Int)).toNat = P at *
  generalize (2 : Int) ^ ((-i).toNat + (-j).toNat) = Q at *
  have hlt : X < Y ↔ a < b := by
    rw [← Int.mul_lt_mul_right p1, e1, e2, Int.mul_lt_mul_right p2]
  have hlt2 : Y < X ↔ b < a := by
    rw [← Int.mul_lt_mul_right p1, e2, e1, Int.mul_lt_mul_right p2]
  simp only [compare, compareOfLessAndEq]
  by_cases h : X < Y
  · rw [if_pos h, if_pos (hlt.1 h)]
  · have h' : ¬ a < b := fun q => h (hlt.2 q)
    rw [if_neg h, if_neg h']
    by_cases h3 : X = Y
    · have : a = b := by
        have : ¬ b < a := fun q => by have := hlt2.2 q; omega
        omega
      rw [if_pos h3, if_pos this]
    · have : ¬ a = b := fun q => by
        have h4 : ¬ Y < X := fun q2 => by have := hlt2.1 q2; omega
        omega
      rw [if_neg h3, if_neg this]

theorem toInt_whole {x : Nat} {n : Int} (hx : Whole f x n) : (f.read x).toInt .zero = some n := by
  obtain ⟨s, m, e, h1, v⟩ := hx
  rw [h1]
  simp only [Datum.toInt, Datum.integral]
  congr 1
  rw [signed_eq, Int.pow_zero, Int.mul_one]
  by_cases hm : m = 0
  · subst hm
    have h0 := v.zero
    subst h0
    simp [Toward.cut]
  · have hk : Toward.zero.cut s (m <<< e.toNat) (-e).toNat = m * 2 ^ e.toNat / 2 ^ (-e).toNat := by
      rw [Nat.shiftLeft_eq]
      refine cut_exact _ _ _ _ ?_ ?_
      · exact Nat.ne_of_gt (Nat.mul_pos (by omega) (Nat.two_pow_pos _))
      · have h2 := v.abs (-e).toNat (by omega)
        rw [show (e + ((-e).toNat : Int)).toNat = e.toNat by omega] at h2
        rw [h2]
        exact Nat.dvd_mul_left _ _
    rw [hk]
    have h2 := v.at (-e).toNat (by omega)
    have h3 := v.abs (-e).toNat (by omega)
    rw [show (e + ((-e).toNat : Int)).toNat = e.toNat by omega] at h2 h3
    rw [h3, Nat.mul_div_cancel _ (Nat.two_pow_pos _)]
    have h4 : ((m : Int) * 2 ^ e.toNat) = (n.natAbs : Int) * 2 ^ (-e).toNat := by exact_mod_cast h3
    rw [h4, ← Int.mul_assoc] at h2
    exact Int.eq_of_mul_eq_mul_right (Int.ne_of_gt (pow_pos2 _)) h2

/-! ### float64 -/
/-- The float64 word x stands for the whole number n. -/
abbrev W64 (x : Nat) (n : Int) : Prop := Whole double x n

theorem two_binades : 2 * double.binade = 9007199254740992 := by decide

theorem w64_add {x y : Nat} {a b : Int} (hx : W64 x a) (hy : W64 y b) (hn : (a + b).natAbs ≤ 9007199254740992) : ∃ z, floatBits .add .f64 x y = some z ∧ W64 z (a + b) := add_whole good_double hx hy (by rw [two_binades]; exact hn)
theorem w64_sub {x y : Nat} {a b : Int} (hx : W64 x a) (hy : W64 y b) (hn : (a - b).natAbs ≤ 9007199254740992) : ∃ z, floatBits .sub .f64 x y = some z ∧ W64 z (a - b) := sub_whole good_double hx hy (by rw [two_binades]; exact hn)
theorem w64_mul {x y : Nat} {a b : Int} (hx : W64 x a) (hy : W64 y b) (hn : (a * b).natAbs ≤ 9007199254740992) : ∃ z, floatBits .mul .f64 x y = some z ∧ W64 z (a * b) := mul_whole good_double hx hy (by rw [two_binades]; exact hn)
theorem w64_of (n : Int) (hn : n.natAbs ≤ 9007199254740992) : W64 (FloatKind.f64.nearest n) n := nearest_whole good_double n (by rw [two_binades]; exact hn)
theorem w64_order {x y : Nat} {a b : Int} (hx : W64 x a) (hy : W64 y b) : FloatKind.f64.format.order x y = some (compare a b) := order_whole hx hy
theorem w64_toInt {x : Nat} {n : Int} (hx : W64 x n) : (FloatKind.f64.decode x).toInt .zero = some n := toInt_whole hx

/-! ### Quarters; division by 1, -1, 2, 4 -/
theorem read_mag {f : Format} {x : Nat} {s : Bool} {m : Nat} {e : Int} (h : f.read x = .number s m e) : m < 2 * f.binade := by
  unfold Format.read at h
  simp only at h
  have hb : 0 < f.binade := Nat.two_pow_pos _
  split at h
  · cases h; omega
  · split at h
    · cases h
      have := Nat.mod_lt (x % f.signWeight) hb
      omega
    · split at h <;> cases h

theorem Val.up {s : Bool} {m : Nat} {e n : Int} (v : Val s m e n) (q : Nat) : Val s m (e + q) (n * 2 ^ q) := by
  refine ⟨(-e).toNat, by omega, ?_⟩
  have h := v.at (-e).toNat (by omega)
  rw [show (e + (q : Int) + ((-e).toNat : Int)).toNat = (e + ((-e).toNat : Int)).toNat + q by omega, Int.pow_add, ← Int.mul_assoc (m : Int), ← Int.mul_assoc (sg s), h]
  ac_rfl

theorem Val.down {s : Bool} {m : Nat} {e n : Int} (q : Nat) (v : Val s m (e + q) (n * 2 ^ q)) : Val s m e n := by
  refine ⟨(-e).toNat, by omega, ?_⟩
  have h := v.at (-e).toNat (by omega)
  rw [show (e + (q : Int) + ((-e).toNat : Int)).toNat = (e + ((-e).toNat : Int)).toNat + q by omega, Int.pow_add, ← Int.mul_assoc (m : Int), ← Int.mul_assoc (sg s)] at h
  have h2 : n * 2 ^ q * 2 ^ (-e).toNat = n * 2 ^ (-e).toNat * 2 ^ q := by ac_rfl
  rw [h2] at h
  exact Int.eq_of_mul_eq_mul_right (Int.ne_of_gt (pow_pos2 q)) h

/-- The float64 word x stands for n quarters. -/
def Q64 (x : Nat) (n : Int) : Prop := ∃ s m e, double.read x = .number s m e ∧ Val s m (e + (2 : Nat)) n

theorem Q64.of_whole {x : Nat} {n : Int} (h : W64 x n) : Q64 x (n * 4) := by
  obtain ⟨s, m, e, h1, v⟩ := h
  exact ⟨s, m, e, h1, v.up 2⟩

theorem Q64.whole {x : Nat} {n : Int} (h : Q64 x (n * 4)) : W64 x n := by
  obtain ⟨s, m, e, h1, v⟩ := h
  exact ⟨s, m, e, h1, Val.down 2 v⟩

theorem pow2_div (m k : Nat) (c : Nat) (h : m * 2 ^ k = 2 ^ c) : k ≤ c ∧ m = 2 ^ (c - k) := by
  have hk : k ≤ c := by
    rcases Nat.lt_or_ge c k with hlt | hge
    · have h1 : 2 ^ c < 2 ^ k := Nat.pow_lt_pow_right (by omega) hlt
      have h2 : 0 < m := by
        rcases Nat.eq_zero_or_pos m with h0 | h0
        · rw [h0, Nat.zero_mul] at h
          have := Nat.two_pow_pos c; omega
        · exact h0
      have h3 : 1 * 2 ^ k ≤ m * 2 ^ k := Nat.mul_le_mul_right _ h2
      omega
    · exact hge
  refine ⟨hk, ?_⟩
  have h1 : 2 ^ c = 2 ^ (c - k) * 2 ^ k := by rw [← Nat.pow_add]; congr 1; omega
  rw [h1] at h
  exact Nat.eq_of_mul_eq_mul_right (Nat.two_pow_pos k) h

/-- Divided by a power of two, with its sign. -/
theorem div_pow2 {x y : Nat} {a c : Int} {t : Bool} {k : Nat} (hk : k ≤ 2) (hc : c = sg t * 2 ^ k) (hx : W64 x a) (hy : W64 y c) (hn : a.natAbs ≤ 9007199254740992) : ∃ z, floatBits .quo .f64 x y = some z ∧ Q64 z (sg t * a * 2 ^ (2 - k)) := by
  obtain ⟨s, m, i, h1, va⟩ := hx
  obtain ⟨t', n, j, h2, vc⟩ := hy
  have hm := read_mag h1
  have hbin : double.binade = 2 ^ 52 := rfl
  -- the divisor's magnitude is a power of two
  have habs := vc.abs (-j).toNat (by omega)
  have hca : c.natAbs = 2 ^ k := by
    rw [hc, sg_natAbs, Int.natAbs_pow]; rfl
  rw [hca, ← Nat.pow_add] at habs
  obtain ⟨hle, hn2⟩ := pow2_div n _ _ habs
  obtain ⟨p, hp⟩ : ∃ p, k + (-j).toNat - (j + ((-j).toNat : Int)).toNat = p := ⟨_, rfl⟩
  rw [hp] at hn2
  have hpj : (p : Int) = k - j := by omega
  subst hn2
  have hsg : sg t' = sg t := by
    have h := vc.at (-j).toNat (by omega)
    rw [hc] at h
    have p1 : (0 : Int) < ((2 ^ p : Nat) : Int) * 2 ^ (j + ((-j).toNat : Int)).toNat := Int.mul_pos (by exact_mod_cast Nat.two_pow_pos p) (pow_pos2 _)
    have p2 : (0 : Int) < 2 ^ k * 2 ^ (-j).toNat := Int.mul_pos (pow_pos2 _) (pow_pos2 _)
    rw [Int.mul_assoc (sg t)] at h
    generalize ((2 ^ p : Nat) : Int) * 2 ^ (j + ((-j).toNat : Int)).toNat = U at *
    generalize (2 : Int) ^ k * 2 ^ (-j).toNat = V at *
    revert h
    unfold sg
    cases t <;> cases t' <;> simp <;> intro h <;> omega
  have hlog : (2 ^ p).log2 = p := Nat.log2_two_pow
  have hlg : m.log2 ≤ 52 := by
    by_cases h0 : m = 0
    · subst h0; simp
    · have h3 : 2 ^ m.log2 ≤ m := Nat.log2_self_le h0
      rcases Nat.lt_or_ge 52 m.log2 with h | h
      · have h4 : 2 ^ 53 ≤ 2 ^ m.log2 := Nat.pow_le_pow_right (by omega) (by omega)
        rw [hbin] at hm
        omega
      · exact h
  obtain ⟨mr, hmr⟩ : ∃ mr, double.fractionBits + 2 + p - m.log2 = mr := ⟨_, rfl⟩
  have hmr2 : p ≤ mr := by
    have : double.fractionBits = 52 := rfl
    omega
  have hdiv : m <<< mr / 2 ^ p = m * 2 ^ (mr - p) := by
    rw [Nat.shiftLeft_eq, show mr = (mr - p) + p by omega, Nat.pow_add, ← Nat.mul_assoc, Nat.mul_div_cancel _ (Nat.two_pow_pos p), Nat.add_sub_cancel]
  have hmod : m <<< mr % 2 ^ p = 0 := by
    rw [Nat.shiftLeft_eq, show mr = (mr - p) + p by omega, Nat.pow_add, ← Nat.mul_assoc, Nat.mul_mod_left]
  have hq : (double.read x).quotient (double.fractionBits + 2) (double.read y) = some (.number (s ^^ t') (2 * (m * 2 ^ (mr - p))) (i - j - mr - 1)) := by
    rw [h1, h2]
    have hne : ¬ 2 ^ p = 0 := by have := Nat.two_pow_pos p; omega
    simp only [Datum.quotient, hlog, hmr]
    rw [if_neg hne, hdiv, hmod]
    simp
  have hv : Val (s ^^ t') (2 * (m * 2 ^ (mr - p))) (i - j - mr - 1 + (k : Nat)) (sg t * a) := by
    refine ⟨(-i).toNat + mr + 1 + p + (j.toNat), by omega, ?_⟩
    have h := va.at ((-i).toNat + mr + 1 + p + j.toNat) (by omega)
    rw [sg_xor, hsg, Int.mul_assoc (sg t) a, ← h]
    have e1 : (i + (((-i).toNat + mr + 1 + p + j.toNat : Nat) : Int)).toNat = 1 + (mr - p) + (i - j - mr - 1 + (k : Nat) + (((-i).toNat + mr + 1 + p + j.toNat : Nat) : Int)).toNat := by omega
    rw [e1, Int.pow_add, Int.pow_add]
    push_cast
    ac_rfl
  have hna : (sg t * a).natAbs ≤ 2 * double.binade := by rw [sg_natAbs, two_binades]; exact hn
  have hL : double.leastPlace = -1074 := by decide
  obtain ⟨kk, l, h5, h6⟩ := nearest_scaled good_double k (by rw [hL]; omega) hv hna
  refine ⟨double.nearest (s ^^ t') (2 * (m * 2 ^ (mr - p))) (i - j - mr - 1), ?_, (s ^^ t'), kk, l, h5, ?_⟩
  · show ((double.read x).quotient (double.fractionBits + 2) (double.read y)).map double.write = _
    rw [hq]; rfl
  · have h7 := h6.up (2 - k)
    rw [show l + (k : Int) + ((2 - k : Nat) : Int) = l + ((2 : Nat) : Int) by omega] at h7
    exact h7

/-! ### Minus -/
theorem read_neg (f : Format) (x : Nat) : f.read (x ^^^ f.signWeight) = (f.read x).opposite := by
  have hm : (x ^^^ f.signWeight) % f.signWeight = x % f.signWeight := by
    unfold Format.signWeight
    rw [Nat.xor_mod_two_pow, Nat.mod_self, Nat.xor_zero]
  have hd : ((x ^^^ f.signWeight) / f.signWeight % 2 == 1) = !(x / f.signWeight % 2 == 1) := by
    unfold Format.signWeight
    rw [← Nat.shiftRight_eq_div_pow, ← Nat.shiftRight_eq_div_pow, Nat.shiftRight_xor_distrib]
    have e1 : 2 ^ (f.exponentBits + f.fractionBits) >>> (f.exponentBits + f.fractionBits) = 1 := by
      rw [Nat.shiftRight_eq_div_pow, Nat.div_self (Nat.two_pow_pos _)]
    rw [e1]
    generalize x >>> (f.exponentBits + f.fractionBits) = y
    have e2 : (y ^^^ 1) % 2 = (y % 2) ^^^ 1 := Nat.xor_mod_two_pow (a := y) (b := 1) (n := 1)
    rw [e2]
    have h2 : y % 2 = 0 ∨ y % 2 = 1 := by omega
    rcases h2 with h2 | h2 <;> rw [h2] <;> rfl
  unfold Format.read
  simp only [hm, hd]
  split
  · rfl
  · split
    · rfl
    · split <;> rfl

theorem w64_neg {x : Nat} {n : Int} (h : W64 x n) : W64 (Op.negFloat .f64 x) (-n) := by
  obtain ⟨s, m, e, h1, v⟩ := h
  refine ⟨!s, m, e, ?_, opposite_val v⟩
  have : Op.negFloat .f64 x = x ^^^ double.signWeight := rfl
  rw [this, read_neg, h1]; rfl

/-! ### Quarters: to an int, compared -/
theorem q64_toInt {x : Nat} {n : Int} (hx : Q64 x n) : (FloatKind.f64.decode x).toInt .zero = some (n.tdiv 4) := by
  obtain ⟨s, m, e, h1, v⟩ := hx
  show (double.read x).toInt .zero = _
  rw [h1]
  simp only [Datum.toInt, Datum.integral]
  congr 1
  rw [signed_eq, Int.pow_zero, Int.mul_one]
  have hs : sg s * (n.natAbs : Int) = n := by
    have h2 := v.at (-e).toNat (by omega)
    have h3 := v.abs (-e).toNat (by omega)
    have h4 : ((m : Int) * 2 ^ (e + ((2 : Nat) : Int) + ((-e).toNat : Int)).toNat) = (n.natAbs : Int) * 2 ^ (-e).toNat := by exact_mod_cast h3
    rw [h4, ← Int.mul_assoc] at h2
    exact Int.eq_of_mul_eq_mul_right (Int.ne_of_gt (pow_pos2 _)) h2
  have hk : Toward.zero.cut s (m <<< e.toNat) (-e).toNat = n.natAbs / 4 := by
    have h3 := v.abs (-e).toNat (by omega)
    rw [show (e + ((2 : Nat) : Int) + ((-e).toNat : Int)).toNat = e.toNat + 2 by omega, Nat.pow_add, ← Nat.mul_assoc] at h3
    rw [Nat.shiftLeft_eq]
    generalize m * 2 ^ e.toNat = M at *
    generalize (-e).toNat = D at *
    -- cut towards zero is division
    have hcut : Toward.zero.cut s M D = M / 2 ^ D := by
      unfold Toward.cut
      simp only [Nat.shiftLeft_eq, Nat.one_mul, Bool.toNat_false, Nat.add_zero]
      rcases Nat.lt_or_ge (M.log2 + 2) D with h | h
      · rw [Nat.min_eq_right (by omega)]
        have h5 : M < 2 ^ (M.log2 + 1) := Nat.lt_log2_self
        have h6 : 2 ^ (M.log2 + 1) ≤ 2 ^ (M.log2 + 2) := Nat.pow_le_pow_right (by omega) (by omega)
        have h7 : 2 ^ (M.log2 + 2) ≤ 2 ^ D := Nat.pow_le_pow_right (by omega) (by omega)
        rw [Nat.div_eq_of_lt (by omega), Nat.div_eq_of_lt (by omega)]
      · rw [Nat.min_eq_left (by omega)]
    rw [hcut]
    have h8 : M * 4 / (2 ^ D * 4) = M / 2 ^ D := Nat.mul_div_mul_right _ _ (by omega)
    have h9 : M * 4 = n.natAbs * 2 ^ D := h3
    rw [← h8, h9, Nat.mul_comm (2 ^ D) 4, Nat.mul_div_mul_right _ _ (Nat.two_pow_pos D)]
  rw [hk]
  have h10 : (n.natAbs : Int).tdiv 4 = ((n.natAbs / 4 : Nat) : Int) := by
    rw [Int.tdiv_eq_ediv_of_nonneg (by omega)]; omega
  conv => rhs; rw [← hs]
  unfold sg
  cases s
  · simp [← h10]
  · simp [← h10, Int.neg_tdiv]

theorem q64_order {x y : Nat} {a b : Int} (hx : Q64 x a) (hy : Q64 y b) : FloatKind.f64.format.order x y = some (compare a b) := by
  obtain ⟨s, m, i, h1, va⟩ := hx
  obtain ⟨t, k, j, h2, vb⟩ := hy
  show double.order x y = _
  unfold Format.order
  rw [h1, h2]
  simp only [Datum.order]
  congr 1
  rw [signed_eq, signed_eq]
  have e1 : (sg s * ((m : Int) * 2 ^ (i - min i j).toNat)) * 2 ^ (min i j + 2 + (((-i).toNat + (-j).toNat : Nat) : Int)).toNat = a * 2 ^ ((-i).toNat + (-j).toNat) := by
    rw [← va.at ((-i).toNat + (-j).toNat) (by omega), show (i + ((2 : Nat) : Int) + (((-i).toNat + (-j).toNat : Nat) : Int)).toNat = (i - min i j).toNat + (min i j + 2 + (((-i).toNat + (-j).toNat : Nat) : Int)).toNat by omega, Int.pow_add]
    ac_rfl
  have e2 : (sg t * ((k : Int) * 2 ^ (j - min i j).toNat)) * 2 ^ (min i j + 2 + (((-i).toNat + (-j).toNat : Nat) : Int)).toNat = b * 2 ^ ((-i).toNat + (-j).toNat) := by
    rw [← vb.at ((-i).toNat + (-j).toNat) (by omega), show (j + ((2 : Nat) : Int) + (((-i).toNat + (-j).toNat : Nat) : Int)).toNat = (j - min i j).toNat + (min i j + 2 + (((-i).toNat + (-j).toNat : Nat) : Int)).toNat by omega, Int.pow_add]
    ac_rfl
  generalize sg s * ((m : Int) * 2 ^ (i - min i j).toNat) = X at *
  generalize sg t * ((k : Int) * 2 ^ (j - min i j).toNat) = Y at *
  have p1 := pow_pos2 (min i j + 2 + (((-i).toNat + (-j).toNat : Nat) : Int)).toNat
  have p2 := pow_pos2 ((-i).toNat + (-j).toNat)
  generalize (2 : Int) ^ (min i j + 2 + (((-i).toNat + (-j).toNat : Nat) : Int)).toNat = P at *
  generalize (2 : Int) ^ ((-i).toNat + (-j).toNat) = Q at *
  have hlt : X < Y ↔ a < b := by
    rw [← Int.mul_lt_mul_right p1, e1, e2, Int.mul_lt_mul_right p2]
  have hlt2 : Y < X ↔ b < a := by
    rw [← Int.mul_lt_mul_right p1, e2, e1, Int.mul_lt_mul_right p2]
  simp only [compare, compareOfLessAndEq]
  by_cases h : X < Y
  · rw [if_pos h, if_pos (hlt.1 h)]
  · have h' : ¬ a < b := fun q => h (hlt.2 q)
    rw [if_neg h, if_neg h']
    by_cases h3 : X = Y
    · have : a = b := by
        have : ¬ b < a := fun q => by have := hlt2.2 q; omega
        omega
      rw [if_pos h3, if_pos this]
    · have : ¬ a = b := fun q => by
        have h4 : ¬ Y < X := fun q2 => by have := hlt2.1 q2; omega
        omega
      rw [if_neg h3, if_neg this]

theorem cmp_eq (a b : Int) : (some (compare a b) == some Ordering.eq) = decide (a = b) := by
  rw [Bool.eq_iff_iff]
  simp
theorem cmp_lt (a b : Int) : (some (compare a b) == some Ordering.lt) = decide (a < b) := by
  rw [Bool.eq_iff_iff]
  simp [Int.compare_eq_lt]
theorem cmp_gt (a b : Int) : (some (compare a b) == some Ordering.gt) = decide (b < a) := by
  rw [Bool.eq_iff_iff]
  simp [Int.compare_eq_gt]

/-! ### float32 -/
abbrev W32 (x : Nat) (n : Int) : Prop := Whole single x n

theorem two_binades32 : 2 * single.binade = 16777216 := by decide

/-- A word that stands for a number is no infinity. -/
theorem Whole.finite {f : Format} {x : Nat} {n : Int} (h : Whole f x n) : (f.read x).isInfinity = false := by
  obtain ⟨s, m, e, h1, _⟩ := h
  rw [h1]; rfl

theorem narrow_whole {x : Nat} {n : Int} (h : W64 x n) (hn : n.natAbs ≤ 16777216) {P : Program} (w : World) : ∃ z, (Conv.floatToFloat .f64 x .f32).run P w = .ok (.float .f32 z) w ∧ W32 z n := by
  obtain ⟨s, m, e, h1, v⟩ := h
  have hw : W32 (single.write (.number s m e)) n := write_whole good_single v (by rw [two_binades32]; exact hn)
  refine ⟨single.write (.number s m e), ?_, hw⟩
  unfold Conv.floatToFloat
  rw [if_neg (by decide)]
  have h2 : FloatKind.f64.decode x = .number s m e := h1
  rw [h2]
  simp only
  rw [if_neg]
  · rfl
  · have := hw.finite
    show ¬ (single.read (single.write (.number s m e))).isInfinity = true
    rw [this]; simp

theorem widen_whole {x : Nat} {n : Int} (h : W32 x n) (hn : n.natAbs ≤ 9007199254740992) {P : Program} (w : World) : ∃ z, (Conv.floatToFloat .f32 x .f64).run P w = .ok (.float .f64 z) w ∧ W64 z n := by
  obtain ⟨s, m, e, h1, v⟩ := h
  have hw : W64 (double.write (.number s m e)) n := write_whole good_double v (by rw [two_binades]; exact hn)
  refine ⟨double.write (.number s m e), ?_, hw⟩
  unfold Conv.floatToFloat
  rw [if_neg (by decide)]
  have h2 : FloatKind.f32.decode x = .number s m e := h1
  rw [h2]
  simp only
  rw [if_neg]
  · rfl
  · have := hw.finite
    show ¬ (double.read (double.write (.number s m e))).isInfinity = true
    rw [this]; simp

/-! ### complex128 over whole numbers -/
theorem w64_abs {x : Nat} {n : Int} (h : W64 x n) : W64 (Op.Complex.abs x) (n.natAbs : Int) := by
  obtain ⟨s, m, e, h1, v⟩ := h
  refine ⟨false, m, e, ?_, ?_⟩
  · have hb : 0 < double.signWeight := Nat.two_pow_pos _
    have e0 : Op.Complex.abs x = x % double.signWeight := rfl
    rw [e0]
    unfold Format.read at h1 ⊢
    simp only [Nat.mod_mod, Nat.div_eq_of_lt (Nat.mod_lt x hb)] at h1 ⊢
    split at h1
    · rename_i h2
      cases h1
      rw [if_pos h2]; rfl
    · rename_i h2
      rw [if_neg h2]
      split at h1
      · rename_i h3
        cases h1
        rw [if_pos h3]; rfl
      · split at h1 <;> cases h1
  · refine ⟨(-e).toNat, by omega, ?_⟩
    have h3 := v.abs (-e).toNat (by omega)
    have h4 : ((m : Int) * 2 ^ (e + ((-e).toNat : Int)).toNat) = (n.natAbs : Int) * 2 ^ (-e).toNat := by exact_mod_cast h3
    rw [h4]
    simp [sg]

theorem W64.notNaN {x : Nat} {n : Int} (h : Q64 x n) : Op.Complex.isNaN x = false := by
  obtain ⟨s, m, e, h1, v⟩ := h
  show (double.read x).isNaN = false
  rw [h1]; rfl

theorem absGe_of {c d : Nat} {n m : Int} (hc : W64 c n) (hd : W64 d m) : absGe c d = decide (m.natAbs ≤ n.natAbs) := by
  unfold absGe
  rw [w64_order (w64_abs hc) (w64_abs hd), cmp_gt, cmp_eq, Bool.eq_iff_iff]
  simp
  omega

section
variable {a b c d : Nat} {n m n' m' : Int}

theorem cadd_whole (ha : W64 a n) (hb : W64 b m) (hc : W64 c n') (hd : W64 d m') (h1 : (n + n').natAbs ≤ 9007199254740992) (h2 : (m + m').natAbs ≤ 9007199254740992) :
    ∃ e f, (∀ (P : Program) (t : TypeId) (W : World), (binOp .add t (.complex .f64 a b) (.complex .f64 c d)).run P W = .ok (.complex .f64 e f) W) ∧ W64 e (n + n') ∧ W64 f (m + m') := by
  obtain ⟨e, he, we⟩ := w64_add ha hc h1
  obtain ⟨f, hf, wf⟩ := w64_add hb hd h2
  refine ⟨e, f, ?_, we, wf⟩
  intro P t W
  exact run_complex_sum W .add (.inl rfl) t .f64 a b c d e f (by simp [cSumBits, he, hf])

theorem csub_whole (ha : W64 a n) (hb : W64 b m) (hc : W64 c n') (hd : W64 d m') (h1 : (n - n').natAbs ≤ 9007199254740992) (h2 : (m - m').natAbs ≤ 9007199254740992) :
    ∃ e f, (∀ (P : Program) (t : TypeId) (W : World), (binOp .sub t (.complex .f64 a b) (.complex .f64 c d)).run P W = .ok (.complex .f64 e f) W) ∧ W64 e (n - n') ∧ W64 f (m - m') := by
  obtain ⟨e, he, we⟩ := w64_sub ha hc h1
  obtain ⟨f, hf, wf⟩ := w64_sub hb hd h2
  refine ⟨e, f, ?_, we, wf⟩
  intro P t W
  exact run_complex_sum W .sub (.inr rfl) t .f64 a b c d e f (by simp [cSumBits, he, hf])

theorem cmul_bits (ha : W64 a n) (hb : W64 b m) (hc : W64 c n') (hd : W64 d m') (h1 : (n * n').natAbs ≤ 9007199254740992) (h2 : (m * m').natAbs ≤ 9007199254740992) (h3 : (n * m').natAbs ≤ 9007199254740992) (h4 : (m * n').natAbs ≤ 9007199254740992)
    (h5 : (n * n' - m * m').natAbs ≤ 9007199254740992) (h6 : (n * m' + m * n').natAbs ≤ 9007199254740992) :
    ∃ e f, cMulBits a b c d = some (e, f) ∧ W64 e (n * n' - m * m') ∧ W64 f (n * m' + m * n') := by
  obtain ⟨x1, e1, w1⟩ := w64_mul ha hc h1
  obtain ⟨x2, e2, w2⟩ := w64_mul hb hd h2
  obtain ⟨x3, e3, w3⟩ := w64_mul ha hd h3
  obtain ⟨x4, e4, w4⟩ := w64_mul hb hc h4
  obtain ⟨e, e5, w5⟩ := w64_sub w1 w2 h5
  obtain ⟨f, e6, w6⟩ := w64_add w3 w4 h6
  exact ⟨e, f, by simp [cMulBits, e1, e2, e3, e4, e5, e6], w5, w6⟩

theorem cmul_whole (ha : W64 a n) (hb : W64 b m) (hc : W64 c n') (hd : W64 d m') (h1 : (n * n').natAbs ≤ 9007199254740992) (h2 : (m * m').natAbs ≤ 9007199254740992) (h3 : (n * m').natAbs ≤ 9007199254740992) (h4 : (m * n').natAbs ≤ 9007199254740992)
    (h5 : (n * n' - m * m').natAbs ≤ 9007199254740992) (h6 : (n * m' + m * n').natAbs ≤ 9007199254740992) :
    ∃ e f, (∀ (P : Program) (t : TypeId) (W : World), (binOp .mul t (.complex .f64 a b) (.complex .f64 c d)).run P W = .ok (.complex .f64 e f) W) ∧ W64 e (n * n' - m * m') ∧ W64 f (n * m' + m * n') := by
  obtain ⟨e, f, h, we, wf⟩ := cmul_bits ha hb hc hd h1 h2 h3 h4 h5 h6
  exact ⟨e, f, fun P t W => run_complex_mul W t a b c d e f h, we, wf⟩

/-- Divided by a real power of two. -/
theorem cquo_re {t : Bool} {k : Nat} (hk : k ≤ 2) (ha : W64 a n) (hb : W64 b m) (hc : W64 c (sg t * 2 ^ k)) (hd : W64 d 0) (h1 : n.natAbs ≤ 9007199254740992) (h2 : m.natAbs ≤ 9007199254740992) :
    ∃ e f, (∀ (P : Program) (ty : TypeId) (W : World), (binOp .quo ty (.complex .f64 a b) (.complex .f64 c d)).run P W = .ok (.complex .f64 e f) W) ∧ Q64 e (sg t * n * 2 ^ (2 - k)) ∧ Q64 f (sg t * m * 2 ^ (2 - k)) := by
  have hge : absGe c d = true := by rw [absGe_of hc hd]; simp
  have hcn : (sg t * 2 ^ k : Int).natAbs ≤ 9007199254740992 := by
    rw [sg_natAbs, Int.natAbs_pow]
    have : (2 : Int).natAbs ^ k ≤ 2 ^ 2 := Nat.pow_le_pow_right (by decide) hk
    omega
  obtain ⟨ratio, e1, q1⟩ := div_pow2 hk rfl hd hc (by decide)
  have w1 : W64 ratio 0 := Q64.whole (by simpa using q1)
  obtain ⟨rd, e2, w2⟩ := w64_mul w1 hd (by decide)
  obtain ⟨denom, e3, w3⟩ := w64_add hc w2 (by simpa using hcn)
  have w3' : W64 denom (sg t * 2 ^ k) := by simpa using w3
  obtain ⟨br, e4, w4⟩ := w64_mul hb w1 (by simp)
  obtain ⟨n1, e5, w5⟩ := w64_add ha w4 (by simpa using h1)
  have w5' : W64 n1 n := by simpa using w5
  obtain ⟨e, e6, q6⟩ := div_pow2 hk rfl w5' w3' h1
  obtain ⟨ar, e7, w7⟩ := w64_mul ha w1 (by simp)
  obtain ⟨n2, e8, w8⟩ := w64_sub hb w7 (by simpa using h2)
  have w8' : W64 n2 m := by simpa using w8
  obtain ⟨f, e9, q9⟩ := div_pow2 hk rfl w8' w3' h2
  refine ⟨e, f, ?_, q6, q9⟩
  intro P ty W
  exact run_complex_quo_of W ty (run_quotient_ge W hge e1 e2 e3 e4 e5 e6 e7 e8 e9 (by rw [W64.notNaN q6]; rfl))

/-- Divided by i or -i. -/
theorem cquo_im {t : Bool} (ha : W64 a n) (hb : W64 b m) (hc : W64 c 0) (hd : W64 d (sg t)) (h1 : n.natAbs ≤ 9007199254740992) (h2 : m.natAbs ≤ 9007199254740992) :
    ∃ e f, (∀ (P : Program) (ty : TypeId) (W : World), (binOp .quo ty (.complex .f64 a b) (.complex .f64 c d)).run P W = .ok (.complex .f64 e f) W) ∧ Q64 e (sg t * m * 4) ∧ Q64 f (sg t * (-n) * 4) := by
  have hs : (sg t).natAbs = 1 := by cases t <;> rfl
  have hge : absGe c d = false := by rw [absGe_of hc hd]; simp [hs]
  have hd' : sg t = sg t * 2 ^ 0 := by simp
  obtain ⟨ratio, e1, q1⟩ := div_pow2 (k := 0) (by decide) hd' hc hd (by decide)
  have w1 : W64 ratio 0 := Q64.whole (by simpa using q1)
  obtain ⟨rc, e2, w2⟩ := w64_mul w1 hc (by decide)
  obtain ⟨denom, e3, w3⟩ := w64_add hd w2 (by simp [hs])
  have w3' : W64 denom (sg t) := by simpa using w3
  obtain ⟨ar, e4, w4⟩ := w64_mul ha w1 (by simp)
  obtain ⟨n1, e5, w5⟩ := w64_add w4 hb (by simpa using h2)
  have w5' : W64 n1 m := by simpa using w5
  obtain ⟨e, e6, q6⟩ := div_pow2 (k := 0) (by decide) hd' w5' w3' h2
  obtain ⟨br, e7, w7⟩ := w64_mul hb w1 (by simp)
  obtain ⟨n2, e8, w8⟩ := w64_sub w7 ha (by simpa using h1)
  have w8' : W64 n2 (-n) := by simpa using w8
  obtain ⟨f, e9, q9⟩ := div_pow2 (k := 0) (by decide) hd' w8' w3' (by simpa using h1)
  refine ⟨e, f, ?_, by simpa using q6, by simpa using q9⟩
  intro P ty W
  exact run_complex_quo_of W ty (run_quotient_lt W hge e1 e2 e3 e4 e5 e6 e7 e8 e9 (by rw [W64.notNaN q6]; rfl))

/-- Two complex numbers, compared. -/
theorem ceq_whole (ha : Q64 a n) (hb : Q64 b m) (hc : Q64 c n') (hd : Q64 d m') (P : Program) (t : TypeId) (W : World) : (binOp .eql t (.complex .f64 a b) (.complex .f64 c d)).run P W = .ok (.bool (decide (n = n' ∧ m = m'))) W := by
  rw [run_eql_complex, q64_order ha hc, q64_order hb hd, cmp_eq, cmp_eq]
  simp

theorem cne_whole (ha : Q64 a n) (hb : Q64 b m) (hc : Q64 c n') (hd : Q64 d m') (P : Program) (t : TypeId) (W : World) : (binOp .neq t (.complex .f64 a b) (.complex .f64 c d)).run P W = .ok (.bool (!decide (n = n' ∧ m = m'))) W := by
  rw [run_neq_complex, q64_order ha hc, q64_order hb hd, cmp_eq, cmp_eq]
  simp
end
end Go.Qx
