/-
  The model ring: Priv, Tokens, Pot, Show, Poke, Move.
-/
import Derived.Test.Qxb6500363aReal
namespace Go.Proofs.Qxb6500363a
open Go.RowKit Go.Qx
set_option linter.unusedSimpArgs false
set_option linter.unusedVariables false

set_option maxRecDepth 100000 in
set_option maxHeartbeats 1000000 in
theorem privM_any (w : World) (m c : Nat) (k : Int) (xs : List Int) (R : RepM w m c k xs) (n6 : xs.length ≤ 6) (i : Int) :
    Calls Try.prog 46 #[ptr m, .int .i64 i] w fun e w' => e = .returned (.int .i64 (privI xs i)) ∧ Quiet w w' := by
  obtain ⟨c0, c1⟩ := R.cells
  unfold ptr
  by_cases h1 : 0 ≤ i ∧ i < xs.length
  · obtain ⟨j, rfl⟩ : ∃ j : Nat, i = j := ⟨i.toNat, by omega⟩
    have hj : j < xs.length := by omega
    have hE : Hid (privI xs j = bit (priv xs j)) := by show _ = _; unfold privI; rw [if_pos h1]; rfl
    obtain ⟨i0, i1⟩ := h1
    have hx0 := R.x 0 (by omega)
    have hxl := R.x (xs.length - 1) (by omega)
    have hxi := R.x j hj
    have hxp := R.x (j - 1) (by omega)
    have n0 : (0 : Int) < (xs.length : Int) := by omega
    have nl0 : (0 : Int) ≤ (xs.length : Int) - 1 := by omega
    have nl1 : (xs.length : Int) - 1 < (xs.length : Int) := by omega
    have nlw : IntKind.i64.wrap ((xs.length : Int) - 1) = (xs.length : Int) - 1 := by rw [IntKind.wrap_i64]; omega
    have nlt : ((xs.length : Int) - 1).toNat = xs.length - 1 := by omega
    have hnil : ¬ xs = [] := by intro h; rw [h] at hj; simp at hj
    have nl2 : (1 : Int) ≤ (xs.length : Int) := by omega
    have nl3 : 1 ≤ xs.length := by omega
    have nl4 : 0 < xs.length := by omega
    cases j with
    | zero =>
      have hpv : Hid (priv xs 0 = (xs.getD 0 0 == xs.getD (xs.length - 1) 0)) := by show _ = _; unfold priv; rw [if_pos rfl, Bool.eq_iff_iff]; simp
      clear hxi hxp
      generalize xs.getD 0 0 = x0 at *
      generalize xs.getD (xs.length - 1) 0 = xl at *
      go_enter Try.func46, Try.ntmps46
      go_wp2
      go_region_held3 (fun w' => w'.cell? ⟨m, 1, none⟩ = some (.slice (some ⟨c, 0, none⟩) xs.length xs.length) ∧ w'.cell? ⟨c, 0, none⟩ = some (.int .i64 x0) ∧ w'.cell? ⟨c, xs.length - 1, none⟩ = some (.int .i64 xl)) (first | exact ⟨Quiet.cell hq2 c1, Quiet.cell hq2 hx0, Quiet.cell hq2 hxl⟩ | go_keep) (first | (go_at_call 24; refine (bit_any _ (x0 == xl)).mono ?_; rintro e w2 ⟨rfl, he2⟩; have hq2 : Quiet w w2 := he2 ▸ (Chg.refl _ _).drew; clear he2))
      go_wp2
      go_ret
      rw [unhide hE, unhide hpv]
      exact ⟨rfl, hq2⟩
    | succ p =>
      have hpv : Hid (priv xs (p + 1) = (xs.getD (p + 1) 0 != xs.getD p 0)) := by show _ = _; unfold priv; rw [if_neg (by omega), Nat.add_sub_cancel, Bool.eq_iff_iff]; simp
      rw [Nat.add_sub_cancel] at hxp
      clear hx0 hxl
      generalize xs.getD (p + 1) 0 = xi at *
      generalize xs.getD p 0 = xp at *
      have e1 : ((p + 1 : Nat) : Int) = (p : Int) + 1 := by omega
      rw [e1] at i0 i1
      have i3 : (0 : Int) ≤ (p : Int) := by omega
      have i4 : (p : Int) < (xs.length : Int) := by omega
      have i5 : IntKind.i64.wrap ((p : Int) + 1 - 1) = (p : Int) := by rw [IntKind.wrap_i64]; omega
      have i6 : IntKind.i64.wrap (p : Int) = (p : Int) := by rw [IntKind.wrap_i64]; omega
      have i7 : ((p : Int) + 1 == 0) = false := by rw [beq_eq_false_iff_ne]; omega
      go_enter Try.func46, Try.ntmps46
      go_wp2
      go_region_held3 (fun w' => w'.cell? ⟨m, 1, none⟩ = some (.slice (some ⟨c, 0, none⟩) xs.length xs.length) ∧ w'.cell? ⟨c, p + 1, none⟩ = some (.int .i64 xi) ∧ w'.cell? ⟨c, p, none⟩ = some (.int .i64 xp)) (first | exact ⟨Quiet.cell hq2 c1, Quiet.cell hq2 hxi, Quiet.cell hq2 hxp⟩ | go_keep) (first | (go_at_call 24; refine (bit_any _ (xi != xp)).mono ?_; rintro e w2 ⟨rfl, he2⟩; have hq2 : Quiet w w2 := he2 ▸ (Chg.refl _ _).drew; clear he2))
      go_wp2
      go_ret
      rw [unhide hE, unhide hpv]
      exact ⟨rfl, hq2⟩
  · have hE : Hid (privI xs i = 0) := by show _ = _; unfold privI; rw [if_neg h1]
    have h2 : i < 0 ∨ (0 ≤ i ∧ (xs.length : Int) ≤ i) := by omega
    clear h1
    rcases h2 with h | ⟨h, h'⟩
    all_goals
      go_enter Try.func46, Try.ntmps46
      go_wp2
      go_ret
      rw [unhide hE]
      exact ⟨rfl, Chg.refl _ _⟩

theorem privI_nat (xs : List Int) (j : Nat) (hj : j < xs.length) : privI xs j = bit (priv xs j) := by
  unfold privI; rw [if_pos ⟨by omega, by omega⟩]; rfl

theorem cnt_append : ∀ (a b : List Bool), cnt (a ++ b) = cnt a + cnt b
  | [], b => by simp [cnt]
  | x :: a, b => by simp [cnt, cnt_append a b]; omega

theorem wsum_append (n : Nat) : ∀ (a b : List Bool) (o : Nat), wsum n (a ++ b) o = wsum n a o + wsum n b (o + a.length)
  | [], b, o => by simp [wsum]
  | x :: a, b, o => by
    simp only [List.cons_append, wsum, wsum_append n a b (o + 1), List.length_cons]
    rw [show o + 1 + a.length = o + (a.length + 1) by omega]; omega

theorem hots_take (xs : List Int) (j : Nat) (hj : j < xs.length) : (hots xs).take (j + 1) = (hots xs).take j ++ [priv xs j] := by
  have hl : j < (hots xs).length := by rw [hots_length]; exact hj
  rw [List.take_succ_eq_append_getElem hl]
  congr 2
  have := hots_get xs j hj
  rw [List.getElem?_eq_getElem hl] at this
  exact Option.some.inj this

set_option maxHeartbeats 1000000 in
theorem tokM_any (w : World) (m c : Nat) (k : Int) (xs : List Int) (R : RepM w m c k xs) (n6 : xs.length ≤ 6) :
    Calls Try.prog 47 #[ptr m] w fun e w' => e = .returned (.int .i64 (cnt (hots xs))) ∧ Quiet w w' := by
  obtain ⟨c0, c1⟩ := R.cells
  have hpm := fun W (q : Quiet w W) i => privM_any W m c k xs (R.quiet q) n6 i
  have hpmH := hide hpm
  have hln := hide (hots_length xs)
  clear hpm
  unfold ptr at *
  go_enter Try.func47, Try.ntmps47
  go_wp2
  go_loopw [3, 4] (fun t i wr => ∃ j : Nat, j ≤ xs.length ∧ i = .int .i64 j ∧ t = .int .i64 (cnt ((hots xs).take j)) ∧ Quiet w wr) (fun _ i _ => 7 - (intOf i).toNat)
  case atStart => exact ⟨0, Nat.zero_le _, rfl, rfl, Chg.refl _ _⟩
  case round =>
    obtain ⟨j, hj, rfl, rfl, qj⟩ := hrel
    have i0 : (0 : Int) ≤ (j : Int) := by omega
    have d1 := Quiet.cell qj c1
    by_cases hlt : j < xs.length
    · have i1 : (j : Int) < (xs.length : Int) := by omega
      have hp := unhide hpmH wr qj j
      rw [privI_nat xs j hlt] at hp
      have hpH := hide hp
      clear hp
      have hct : Hid (cnt ((hots xs).take (j + 1)) = cnt ((hots xs).take j) + bit (priv xs j)) := by show _ = _; rw [hots_take xs j hlt, cnt_append]; simp [cnt]
      have b1 := cnt_bound ((hots xs).take j)
      have b2 := bit_bound (priv xs j)
      have bl : ((hots xs).take j).length ≤ 6 := by rw [List.length_take, unhide hln]; omega
      generalize bit (priv xs j) = pv at *
      generalize cnt ((hots xs).take j) = ct at *
      go_wp2_with fail
      refine (unhide hpH).mono ?_
      rintro e w2 ⟨rfl, q2⟩
      go_wp2
      go_roundw
      case rel => exact ⟨j + 1, by omega, by go_num, by rw [unhide hct], Quiet.trans qj q2⟩
      case measure => simp [intOf]; omega
    · have i1 : ¬ (j : Int) < (xs.length : Int) := by omega
      have e1 : Hid ((hots xs).take j = hots xs) := List.take_of_length_le (by rw [unhide hln]; omega)
      go_wp2
      go_ret
      refine ⟨?_, qj⟩
      rw [unhide e1]
      rfl

set_option maxRecDepth 100000 in
set_option maxHeartbeats 1000000 in
theorem potM_any (w : World) (m c : Nat) (k : Int) (xs : List Int) (R : RepM w m c k xs) (n6 : xs.length ≤ 6) (n2 : 2 ≤ xs.length) :
    Calls Try.prog 48 #[ptr m] w fun e w' => e = .returned (.int .i64 (wsum xs.length (hots xs) 0)) ∧ Quiet w w' := by
  obtain ⟨c0, c1⟩ := R.cells
  have hpm := fun W (q : Quiet w W) i => privM_any W m c k xs (R.quiet q) n6 i
  have hpmH := hide hpm
  have hln := hide (hots_length xs)
  clear hpm
  unfold ptr at *
  have h1 : Hid (wsum xs.length ((hots xs).take 1) 0 = 0) := by
    show _ = _
    rw [hots_take xs 0 (by omega)]; simp [wsum, wt]
  go_enter Try.func48, Try.ntmps48
  go_wp2
  go_loopw [3, 4] (fun t i wr => ∃ j : Nat, 1 ≤ j ∧ j ≤ xs.length ∧ i = .int .i64 j ∧ t = .int .i64 (wsum xs.length ((hots xs).take j) 0) ∧ Quiet w wr) (fun _ i _ => 7 - (intOf i).toNat)
  case atStart => exact ⟨1, by omega, by omega, rfl, by rw [unhide h1], Chg.refl _ _⟩
  case round =>
    obtain ⟨j, hj1, hj, rfl, rfl, qj⟩ := hrel
    have i0 : (0 : Int) ≤ (j : Int) := by omega
    have d1 := Quiet.cell qj c1
    by_cases hlt : j < xs.length
    · have i1 : (j : Int) < (xs.length : Int) := by omega
      have hp := fun W q => unhide hpmH W q j
      rw [privI_nat xs j hlt] at hp
      have hct : Hid (wsum xs.length ((hots xs).take (j + 1)) 0 = wsum xs.length ((hots xs).take j) 0 + bit (priv xs j) * ((xs.length : Int) - j)) := by
        show _ = _
        rw [hots_take xs j hlt, wsum_append, List.length_take, unhide hln, Nat.min_eq_left (by omega)]
        simp [wsum, wt]
        rw [if_neg (by omega)]
      have b1 := wsum_bound xs.length ((hots xs).take j) 0 (by rw [List.length_take, unhide hln]; omega)
      have b3 : wsum xs.length ((hots xs).take j) 0 ≤ 36 := by
        have hle : ((hots xs).take j).length * xs.length ≤ 6 * 6 := Nat.mul_le_mul (by rw [List.length_take, unhide hln]; omega) n6
        have e : ((((hots xs).take j).length * xs.length : Nat) : Int) = (((hots xs).take j).length : Int) * xs.length := by simp
        omega
      have b2 := bit_bound (priv xs j)
      have hpH := hide hp
      clear hp
      generalize bit (priv xs j) = pv at *
      generalize wsum xs.length ((hots xs).take j) 0 = ct at *
      have mu : 0 ≤ pv * ((xs.length : Int) - j) ∧ pv * ((xs.length : Int) - j) ≤ 6 := by
        have : pv = 0 ∨ pv = 1 := by omega
        rcases this with h | h <;> rw [h] <;> omega
      obtain ⟨mu1, mu2⟩ := mu
      obtain ⟨b1, _⟩ := b1
      have wl : IntKind.i64.wrap ((xs.length : Int) - j) = (xs.length : Int) - j := by rw [IntKind.wrap_i64]; omega
      have wm : IntKind.i64.wrap (pv * ((xs.length : Int) - j)) = pv * ((xs.length : Int) - j) := by rw [IntKind.wrap_i64]; omega
      have wa : IntKind.i64.wrap (ct + pv * ((xs.length : Int) - j)) = ct + pv * ((xs.length : Int) - j) := by rw [IntKind.wrap_i64]; omega
      go_wp2
      go_region_held3 (fun w' => w'.cell? ⟨m, 1, none⟩ = some (.slice (some ⟨c, 0, none⟩) xs.length xs.length)) (first | exact Quiet.cell hq2 c1 | go_keep) (first | (go_at_call 46; refine (unhide hpH _ (qj.drew)).mono ?_; rintro e w2 ⟨rfl, q2⟩; have hq2 : Quiet w w2 := Quiet.trans (qj.drew) q2))
      go_wp2
      go_roundw
      case rel => exact ⟨j + 1, by omega, by omega, by go_num, by rw [unhide hct], hq2⟩
      case measure => simp [intOf]; omega
    · have i1 : ¬ (j : Int) < (xs.length : Int) := by omega
      have e1 : Hid ((hots xs).take j = hots xs) := List.take_of_length_le (by rw [unhide hln]; omega)
      go_wp2
      go_ret
      refine ⟨?_, qj⟩
      rw [unhide e1]
      rfl
end Go.Proofs.Qxb6500363a
