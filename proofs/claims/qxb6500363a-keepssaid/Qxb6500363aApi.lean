/-
  api: Bit, Fit, Norm, Head, Cell; the real ring's touch and mend.
-/
import Derived.Test.Qxb6500363aPlain
import Derived.Deep.RegionLaw
import Derived.OwnWalk
namespace Go.Proofs.Qxb6500363a
open Go.RowKit Go.Qx
set_option linter.unusedSimpArgs false
set_option linter.unusedVariables false

theorem bit_any (w : World) (b : Bool) : Calls Try.prog 24 #[.bool b] w fun e w' => e = .returned (.int .i64 (bit b)) ∧ w' = w := by
  cases b
  all_goals
    go_enter Try.func24, Try.ntmps24
    go_wp2
    go_ret
    exact ⟨rfl, rfl⟩

theorem fit_any (w : World) (n k : Int) : Calls Try.prog 37 #[.int .i64 n, .int .i64 k] w fun e w' => e = .returned (.int .i64 (fitP n k)) ∧ w' = w := by
  by_cases h1 : n < 2 ∨ 6 < n
  · have hE : Hid (fitP n k = 1) := by show _ = _; unfold fitP; rw [if_pos h1]
    have h2 : n < 2 ∨ (2 ≤ n ∧ 6 < n) := by omega
    clear h1
    rcases h2 with h | ⟨h, h'⟩
    all_goals
      go_enter Try.func37, Try.ntmps37
      go_wp2
      go_ret
      rw [unhide hE]
      exact ⟨rfl, rfl⟩
  · by_cases h3 : k < n ∨ 8 < k
    · have hE : Hid (fitP n k = 2) := by show _ = _; unfold fitP; rw [if_neg h1, if_pos h3]
      have g1 : 2 ≤ n := by omega
      have g2 : n ≤ 6 := by omega
      have h2 : k < n ∨ (n ≤ k ∧ 8 < k) := by omega
      clear h1 h3
      rcases h2 with h | ⟨h, h'⟩
      all_goals
        go_enter Try.func37, Try.ntmps37
        go_wp2
        go_ret
        rw [unhide hE]
        exact ⟨rfl, rfl⟩
    · have hE : Hid (fitP n k = 0) := by show _ = _; unfold fitP; rw [if_neg h1, if_neg h3]
      have g1 : 2 ≤ n := by omega
      have g2 : n ≤ 6 := by omega
      have g3 : n ≤ k := by omega
      have g4 : k ≤ 8 := by omega
      clear h1 h3
      go_enter Try.func37, Try.ntmps37
      go_wp2
      go_ret
      rw [unhide hE]
      exact ⟨rfl, rfl⟩

theorem norm_any (w : World) (v k : Int) (hk : k ≤ 100) (h1 : -9223372036854775808 ≤ v) (h2 : v ≤ 9223372036854775807) : Calls Try.prog 50 #[.int .i64 v, .int .i64 k] w fun e w' => e = .returned (.int .i64 (normP v k)) ∧ w' = w := by
  by_cases h : k < 1
  · have hE : Hid (normP v k = 0) := by show _ = _; unfold normP; rw [if_pos h]
    go_enter Try.func50, Try.ntmps50
    go_wp2
    go_ret
    rw [unhide hE]
    exact ⟨rfl, rfl⟩
  · have g1 : 1 ≤ k := by omega
    have g0 : (k == 0) = false := by rw [beq_eq_false_iff_ne]; omega
    have g9 : (k == -1) = false := by rw [beq_eq_false_iff_ne]; omega
    have hE : Hid (normP v k = if v.tmod k < 0 then v.tmod k + k else v.tmod k) := by show _ = _; unfold normP; rw [if_neg h]
    have b1 : -k < v.tmod k ∧ v.tmod k < k := by
      have a1 := Int.tmod_lt_of_pos v (show 0 < k by omega)
      have a2 := Int.tmod_lt_of_pos (-v) (show 0 < k by omega)
      rw [Int.neg_tmod] at a2
      omega
    clear h
    by_cases hm : v.tmod k < 0
    · have hE2 := unhide hE
      rw [if_pos hm] at hE2
      have hE3 := hide hE2
      clear hE2 hE
      obtain ⟨b1, b2⟩ := b1
      go_enter Try.func50, Try.ntmps50
      go_wp2
      go_ret
      rw [unhide hE3]
      exact ⟨rfl, rfl⟩
    · have hE2 := unhide hE
      rw [if_neg hm] at hE2
      have hE3 := hide hE2
      clear hE2 hE
      have hm' : 0 ≤ v.tmod k := by omega
      clear hm
      obtain ⟨b1, b2⟩ := b1
      go_enter Try.func50, Try.ntmps50
      go_wp2
      go_ret
      rw [unhide hE3]
      exact ⟨rfl, rfl⟩

def In64 (v : Int) : Prop := -9223372036854775808 ≤ v ∧ v ≤ 9223372036854775807

theorem head_any (w : World) (k t p : Int) (hk : In64 k) (ht : In64 t) (hp : In64 p) : Calls Try.prog 28 #[.int .i64 k, .int .i64 t, .int .i64 p] w fun e w' => e = .returned (.string (str (headP k t p))) ∧ Quiet w w' := by
  have l1 := itoa_length k
  have l2 := itoa_length t
  have l3 := itoa_length p
  go_enter Try.func28, Try.ntmps28
  go_wp2_with fail
  refine (itoa_any k _ hk.1 hk.2).mono ?_
  rintro e w1 ⟨rfl, q1⟩
  go_wp2_with fail
  refine (itoa_any t _ ht.1 ht.2).mono ?_
  rintro e w2 ⟨rfl, q2⟩
  go_wp2_with fail
  refine (itoa_any p _ hp.1 hp.2).mono ?_
  rintro e w3 ⟨rfl, q3⟩
  have z1 : ¬ 9223372036854775807 < (str (itoa k)).size + 1 := by rw [str_size]; omega
  have z2 : ¬ 9223372036854775807 < (str (itoa k)).size + 1 + (str (itoa t)).size := by rw [str_size, str_size]; omega
  have z3 : ¬ 9223372036854775807 < (str (itoa k)).size + 1 + (str (itoa t)).size + 1 := by rw [str_size, str_size]; omega
  have z4 : ¬ 9223372036854775807 < (str (itoa k)).size + 1 + (str (itoa t)).size + 1 + (str (itoa p)).size := by rw [str_size, str_size, str_size]; omega
  have z5 : ¬ 9223372036854775807 < (str (itoa k)).size + 1 + (str (itoa t)).size + 1 + (str (itoa p)).size + 1 := by rw [str_size, str_size, str_size]; omega
  go_wp2
  go_ret
  refine ⟨?_, Quiet.trans (Quiet.trans q1 q2) q3⟩
  unfold headP
  rw [← str_append, ← str_append, ← str_append, ← str_append, ← str_append]
  rfl

theorem cell_any (w : World) (s : List UInt8) (v : Int) (h : Bool) (hs : s.length ≤ 1000) (hv : In64 v) : Calls Try.prog 29 #[.string (str s), .int .i64 v, .int .i64 (bit h)] w fun e w' => e = .returned (.string (str (cellP s v h))) ∧ Quiet w w' := by
  have l1 := itoa_length v
  have z0 : ¬ 9223372036854775807 < (str s).size + 1 := by rw [str_size]; omega
  have z1 : ¬ 9223372036854775807 < (str s).size + 1 + (str (itoa v)).size := by rw [str_size, str_size]; omega
  have z2 : ¬ 9223372036854775807 < (str s).size + 1 + (str (itoa v)).size + 1 := by rw [str_size, str_size]; omega
  have z3 : ¬ 9223372036854775807 < (str s).size + (str (itoa v)).size := by rw [str_size, str_size]; omega
  have z4 : ¬ 9223372036854775807 < (str s).size + (str (itoa v)).size + 1 := by rw [str_size, str_size]; omega
  cases h
  · have e1 : bit false = 0 := rfl
    rw [e1]
    clear e1
    go_enter Try.func29, Try.ntmps29
    go_wp2_with fail
    refine (itoa_any v _ hv.1 hv.2).mono ?_
    rintro e w1 ⟨rfl, q1⟩
    go_wp2
    go_ret
    refine ⟨?_, q1⟩
    simp only [cellP, Bool.false_eq_true, if_false]
    rw [← str_append, ← str_append]
    rfl
  · have e1 : bit true = 1 := rfl
    rw [e1]
    clear e1
    go_enter Try.func29, Try.ntmps29
    go_wp2_with fail
    refine (itoa_any v _ hv.1 hv.2).mono ?_
    rintro e w1 ⟨rfl, q1⟩
    go_wp2
    go_ret
    refine ⟨?_, q1⟩
    simp only [cellP, if_true]
    rw [← str_append, ← str_append, ← str_append]
    rfl

theorem RepR.touch {w : World} {r a b : Nat} {k : Int} {xs : List Int} {hs : List Bool} (R : RepR w r a b k xs hs) (i : Nat) (hi : i < xs.length) (h : Bool) (d1 d2 : Int)
    (e1 : d1 = cnt hs + (bit h - bit (hs.getD i false))) (e2 : d2 = wsum xs.length hs 0 + (bit h - bit (hs.getD i false)) * wt xs.length i) :
    RepR (((w.setCell ⟨b, i, none⟩ (.bool h)).setCell ⟨r, 3, none⟩ (.int .i64 d1)).setCell ⟨r, 4, none⟩ (.int .i64 d2)) r a b k xs (hs.set i h) := by
  have hil : i < hs.length := by rw [R.hl]; exact hi
  have eg : hs.getD i false = hs[i] := by simp [List.getD_eq_getElem?_getD, hil]
  refine ⟨?_, ((R.xb.set_other R.ab _).set_other R.ra _).set_other R.ra _, ?_, R.ra, R.rb, R.ab, by rw [List.length_set]; exact R.hl⟩
  · have := ((R.blk.set_other (a := ⟨b, i, none⟩) (Ne.symm R.rb) (.bool h)).set 3 (.int .i64 d1)).set 4 (.int .i64 d2)
    rw [cnt_set hs i h hil, wsum_set xs.length hs 0 i h hil, ← eg, Nat.zero_add, ← e1, ← e2]
    exact this
  · have := ((R.hb.set i (.bool h)).set_other (a := ⟨r, 3, none⟩) R.rb (.int .i64 d1)).set_other (a := ⟨r, 4, none⟩) R.rb (.int .i64 d2)
    unfold bools at *
    rw [List.map_set]; exact this

theorem mul_small (p q u : Int) (h1 : 0 ≤ p) (h2 : p ≤ 1) (h3 : 0 ≤ q) (h4 : q ≤ 1) (h5 : 0 ≤ u) (h6 : u ≤ 6) : -6 ≤ (p - q) * u ∧ (p - q) * u ≤ 6 := by
  have : p - q = -1 ∨ p - q = 0 ∨ p - q = 1 := by omega
  rcases this with h | h | h <;> rw [h] <;> omega

set_option maxRecDepth 100000 in
set_option maxHeartbeats 2000000 in
theorem touch_any (w : World) (r a b : Nat) (k : Int) (xs : List Int) (hs : List Bool) (R : RepR w r a b k xs hs) (n6 : xs.length ≤ 6) (i : Nat) (hi : i < xs.length) :
    Calls Try.prog 38 #[ptr r, .int .i64 i] w fun e w' => e = .returned (.tuple #[]) ∧ Chg (ownR r a b) w w' ∧ RepR w' r a b k xs (hs.set i (priv xs i)) := by
  obtain ⟨c0, c1, c2, c3, c4⟩ := R.cells
  have f3 := R.blk.frozen 3
  have f4 := R.blk.frozen 4
  have fb := R.hb.frozen i
  have hx0 := R.x 0 (by omega)
  have hxl := R.x (xs.length - 1) (by omega)
  have hh := R.h i hi
  have hxi := R.x i hi
  have hxp := R.x (i - 1) (by omega)
  obtain ⟨bc1, bc2⟩ := cnt_bound hs
  obtain ⟨bw1, bw2⟩ := wsum_bound xs.length hs 0 (by rw [R.hl]; omega)
  have nrb := R.rb
  have nbr := Ne.symm R.rb
  have bwn : wsum xs.length hs 0 ≤ 36 := by
    rw [R.hl] at bw2
    have h1 : xs.length * xs.length ≤ 6 * 6 := Nat.mul_le_mul n6 n6
    have e : ((xs.length * xs.length : Nat) : Int) = (xs.length : Int) * xs.length := by simp
    omega
  rw [R.hl] at bc2
  clear bw2
  have hfin := fun N h d1 d2 => (R.quiet ((Chg.refl _ w).drewN N)).touch i hi h d1 d2
  have hfinH := hide hfin
  clear hfin R
  obtain ⟨bq1, bq2⟩ := bit_bound (hs.getD i false)
  have n0 : (0 : Int) < (xs.length : Int) := by omega
  have nl0 : (0 : Int) ≤ (xs.length : Int) - 1 := by omega
  have nl1 : (xs.length : Int) - 1 < (xs.length : Int) := by omega
  have nlw : IntKind.i64.wrap ((xs.length : Int) - 1) = (xs.length : Int) - 1 := by rw [IntKind.wrap_i64]; omega
  have nlt : ((xs.length : Int) - 1).toNat = xs.length - 1 := by omega
  have hbt := fun W h => bit_any W h
  unfold ptr
  cases i with
  | zero =>
    clear hxi hxp
    have hpv : Hid (priv xs 0 = (xs.getD 0 0 == xs.getD (xs.length - 1) 0)) := by show _ = _; unfold priv; rw [if_pos rfl, Bool.eq_iff_iff]; simp
    have hwt : Hid (wt xs.length 0 = 0) := rfl
    generalize xs.getD 0 0 = x0 at *
    generalize xs.getD (xs.length - 1) 0 = xl at *
    generalize hs.getD 0 false = hv at *
    obtain ⟨bp1, bp2⟩ := bit_bound (x0 == xl)
    go_enter Try.func38, Try.ntmps38
    go_wp2
    go_big_quiet (fail)
    go_wp2_with fail
    refine (bit_any _ (x0 == xl)).mono ?_
    rintro e w1 ⟨rfl, rfl⟩
    generalize hp : bit (x0 == xl) = p at *
    have hpH := hide hp
    clear hp
    go_wp2_with fail
    refine (bit_any _ hv).mono ?_
    rintro e w1 ⟨rfl, rfl⟩
    generalize hq : bit hv = q at *
    have hqH := hide hq
    clear hq
    go_wp2
    go_end0
    refine ⟨rfl, ((((Chg.refl _ w).drewN _).setCell (.inl (.inr (.inr rfl))) _).setCell (.inl (.inl rfl)) _).setCell (.inl (.inl rfl)) _, ?_⟩
    rw [unhide hpv]
    exact unhide hfinH _ _ _ _ (by rw [unhide hpH]) (by rw [unhide hwt]; first | omega | rw [unhide hpH])
  | succ m =>
    rw [Nat.add_sub_cancel] at hxp
    have hpv : Hid (priv xs (m + 1) = (xs.getD (m + 1) 0 != xs.getD m 0)) := by show _ = _; unfold priv; rw [if_neg (by omega), Nat.add_sub_cancel, Bool.eq_iff_iff]; simp
    have hwt : Hid (wt xs.length (m + 1) = (xs.length : Int) - ((m : Int) + 1)) := by show _ = _; unfold wt; rw [if_neg (by omega)]; omega
    have e1 : ((m + 1 : Nat) : Int) = (m : Int) + 1 := by omega
    have i0 : (0 : Int) < (m : Int) + 1 := by omega
    have i1 : (0 : Int) ≤ (m : Int) + 1 := by omega
    have i2 : (m : Int) + 1 < (xs.length : Int) := by omega
    have i3 : (0 : Int) ≤ (m : Int) := by omega
    have i4 : (m : Int) < (xs.length : Int) := by omega
    have i5 : IntKind.i64.wrap ((m : Int) + 1 - 1) = (m : Int) := by rw [IntKind.wrap_i64]; omega
    have i6 : IntKind.i64.wrap (m : Int) = (m : Int) := by rw [IntKind.wrap_i64]; omega
    generalize xs.getD 0 0 = x0 at *
    generalize xs.getD (xs.length - 1) 0 = xl at *
    generalize xs.getD (m + 1) 0 = xi at *
    generalize xs.getD m 0 = xp at *
    generalize hs.getD (m + 1) false = hv at *
    obtain ⟨bp1, bp2⟩ := bit_bound (xi != xp)
    obtain ⟨mu1, mu2⟩ := mul_small (bit (xi != xp)) (bit hv) ((xs.length : Int) - ((m : Int) + 1)) bp1 bp2 bq1 bq2 (by omega) (by omega)
    go_enter Try.func38, Try.ntmps38
    go_wp2
    go_big_quiet (fail)
    go_wp2
    go_big_quiet (fail)
    go_wp2_with fail
    refine (bit_any _ (xi != xp)).mono ?_
    rintro e w1 ⟨rfl, rfl⟩
    generalize hp : bit (xi != xp) = p at *
    have hpH := hide hp
    clear hp
    go_wp2_with fail
    refine (bit_any _ hv).mono ?_
    rintro e w1 ⟨rfl, rfl⟩
    generalize hq : bit hv = q at *
    have hqH := hide hq
    clear hq
    go_wp2
    go_end0
    refine ⟨rfl, ((((Chg.refl _ w).drewN _).setCell (.inl (.inr (.inr rfl))) _).setCell (.inl (.inl rfl)) _).setCell (.inl (.inl rfl)) _, ?_⟩
    rw [unhide hpv]
    exact unhide hfinH _ _ _ _ (by rw [unhide hpH]) (by rw [unhide hwt]; first | omega | rw [unhide hpH])

set_option maxRecDepth 100000 in
theorem mend_any (w : World) (r a b : Nat) (k : Int) (xs : List Int) (hs : List Bool) (R : RepR w r a b k xs hs) (n6 : xs.length ≤ 6) (i : Nat) (hi : i < xs.length) :
    Calls Try.prog 40 #[ptr r, .int .i64 i] w fun e w' => e = .returned (.tuple #[]) ∧ Chg (ownR r a b) w w' ∧ RepR w' r a b k xs ((hs.set i (priv xs i)).set ((i + 1) % xs.length) (priv xs ((i + 1) % xs.length))) := by
  have hlt : (i + 1) % xs.length < xs.length := Nat.mod_lt _ (by omega)
  have ht := touch_any w r a b k xs hs R n6 i hi
  have em : ((i : Int) + 1).tmod (xs.length : Int) = (((i + 1) % xs.length : Nat) : Int) := by
    rw [Int.tmod_eq_emod_of_nonneg (by omega)]; simp
  have g0 : ((xs.length : Int) == 0) = false := by rw [beq_eq_false_iff_ne]; omega
  have g9 : ((xs.length : Int) == -1) = false := by rw [beq_eq_false_iff_ne]; omega
  unfold ptr at *
  go_enter Try.func40, Try.ntmps40
  go_wp2_with fail
  refine ht.mono ?_
  rintro e w1 ⟨rfl, ch1, R1⟩
  obtain ⟨_, c1, _, _, _⟩ := R1.cells
  have ht2 := touch_any w1 r a b k xs _ R1 n6 _ hlt
  unfold ptr at ht2
  go_wp2_with fail
  refine ht2.mono ?_
  rintro e w2 ⟨rfl, ch2, R2⟩
  go_wp2
  go_end0
  exact ⟨rfl, ch1.trans ch2, R2⟩
end Go.Proofs.Qxb6500363a
