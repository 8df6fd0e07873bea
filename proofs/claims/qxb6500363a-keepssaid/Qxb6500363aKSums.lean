/-
  sums, mask, hold, Settle.
-/
import Derived.Test.Qxb6500363aKBits
import Derived.Test.Qxb6500363aReal
import Derived.BigQuiet
namespace Go.Proofs.Qxb6500363a
open Go.RowKit Go.Qx
set_option linter.unusedVariables false
set_option linter.unusedSimpArgs false

theorem cnt_snoc : ∀ (l : List Bool) (h : Bool), cnt (l ++ [h]) = cnt l + bit h
  | [], h => by simp [cnt]
  | b :: r, h => by simp [cnt, cnt_snoc r h]; omega
theorem wsum_snoc (n : Nat) : ∀ (l : List Bool) (h : Bool) (o : Nat), wsum n (l ++ [h]) o = wsum n l o + bit h * wt n (o + l.length)
  | [], h, o => by simp [wsum]
  | b :: r, h, o => by
    simp only [List.cons_append, wsum, wsum_snoc n r h (o + 1), List.length_cons]
    rw [show o + 1 + r.length = o + (r.length + 1) by omega]; omega
theorem take_snoc (hs : List Bool) (j : Nat) (hj : j < hs.length) : hs.take (j + 1) = hs.take j ++ [hs.getD j false] := by
  rw [List.take_add_one, List.getD_eq_getElem?_getD, List.getElem?_eq_getElem hj]; rfl
theorem mkI_shr (hs : List Bool) (h6 : hs.length ≤ 6) (i : Nat) : bits BinOp.and IntKind.i64 ((mk hs : Int) / 2 ^ i) 1 = bit (hs.getD i false) := by
  have := mk_shr hs h6 i
  rw [show ((mk hs / 2 ^ i : Nat) : Int) = (mk hs : Int) / 2 ^ i by rw [Int.natCast_ediv, Int.natCast_pow]; rfl] at this
  exact this
theorem mkI_0 (hs : List Bool) (h6 : hs.length ≤ 6) : bits BinOp.and IntKind.i64 (mk hs : Int) 1 = bit (hs.getD 0 false) := by
  have := mkI_shr hs h6 0
  simpa using this

set_option maxHeartbeats 1000000 in
theorem sums_any (w : World) (hs : List Bool) (h2 : 2 ≤ hs.length) (h6 : hs.length ≤ 6) : Calls Try.prog 11 #[.int .i64 (mk hs), .int .i64 hs.length] w fun e w' => e = .returned (.tuple #[.int .i64 (cnt hs), .int .i64 (wsum hs.length hs 0)]) ∧ w' = w := by
  obtain ⟨n, hn⟩ : ∃ n, hs.length = n := ⟨_, rfl⟩
  have e0 := mkI_0 hs h6
  have c1 : Hid (cnt (hs.take 1) = bit (hs.getD 0 false)) := by
    show _ = _
    rw [take_snoc hs 0 (by omega), List.take_zero, cnt_snoc]; simp [cnt]
  have p1 : Hid (wsum n (hs.take 1) 0 = 0) := by
    show _ = _
    rw [take_snoc hs 0 (by omega), List.take_zero, wsum_snoc]; simp [wsum, wt]
  have b0 := bit_bound (hs.getD 0 false)
  generalize bit (hs.getD 0 false) = B0 at *
  rw [hn]
  go_enter Try.func11, Try.ntmps11
  go_wp2
  go_loopw [6, 7, 8] (fun t p i wr => ∃ j : Nat, 1 ≤ j ∧ j ≤ n ∧ i = .int .i64 j ∧ t = .int .i64 (cnt (hs.take j)) ∧ p = .int .i64 (wsum n (hs.take j) 0) ∧ wr = w) (fun _ _ i _ => 7 - (intOf i).toNat)
  case atStart => exact ⟨1, by omega, by omega, rfl, by rw [unhide c1], by rw [unhide p1], by trivial⟩
  case round =>
    obtain ⟨j, hj1, hj, rfl, rfl, rfl, rfl⟩ := hrel
    have i0 : (0 : Int) ≤ (j : Int) := by omega
    by_cases hlt : j < n
    · have i1 : (j : Int) < (n : Int) := by omega
      have eb := mkI_shr hs h6 j
      have cs := cnt_snoc (hs.take j) (hs.getD j false)
      rw [← take_snoc hs j (by omega)] at cs
      have ps := wsum_snoc n (hs.take j) (hs.getD j false) 0
      rw [← take_snoc hs j (by omega), List.length_take, Nat.min_eq_left (by omega)] at ps
      have ew : wt n (0 + j) = (n : Int) - j := by unfold wt; rw [if_neg (by omega)]; omega
      rw [ew] at ps
      have b1 := bit_bound (hs.getD j false)
      have bc := cnt_bound (hs.take j)
      have bp := wsum_bound n (hs.take j) 0 (by rw [List.length_take]; omega)
      have hl : (hs.take j).length = j := by rw [List.length_take]; omega
      rw [hl] at bc bp
      have bq : (j : Int) * n ≤ 36 := by
        have : (j : Int) * n ≤ 6 * 6 := Int.mul_le_mul (by omega) (by omega) (by omega) (by omega)
        omega
      have bb : 0 ≤ bit (hs.getD j false) * ((n : Int) - j) ∧ bit (hs.getD j false) * ((n : Int) - j) ≤ 6 := by
        cases hs.getD j false
        · simp [bit]
        · simp [bit]; omega
      have csH := hide cs
      have psH := hide ps
      clear cs ps
      generalize bit (hs.getD j false) = B at *
      go_wp2
      go_roundw
      case rel => exact ⟨j + 1, by omega, by omega, by go_num, by rw [unhide csH], by rw [unhide psH], by trivial⟩
      case measure => simp [intOf]; omega
    · have i1 : ¬ (j : Int) < (n : Int) := by omega
      have hjn : Hid (j = hs.length) := by show _ = _; omega
      go_wp2
      go_ret2
      have e := unhide hjn
      subst e
      rw [List.take_length]
      exact ⟨rfl, rfl⟩

theorem or_step (l : List Bool) (hl : l.length ≤ 5) (h : Bool) : bits BinOp.or IntKind.i64 (mk l : Int) (bit h * 2 ^ l.length) = (mk (l ++ [h]) : Nat) := by
  have h1 := mk_lt64 l (by omega)
  have h2 : 2 ^ l.length ≤ 32 := by
    have : 2 ^ l.length ≤ 2 ^ 5 := Nat.pow_le_pow_right (by decide) hl
    omega
  have h3 : h.toNat * 2 ^ l.length ≤ 32 := by cases h <;> simp <;> omega
  rw [← mk_snoc, ← bits_or_nat _ _ (by omega) (by omega), bit_toNat, Int.natCast_mul, Int.natCast_pow]
  rfl
theorem pow_small (j : Nat) (hj : j ≤ 6) : (0 : Int) < 2 ^ j ∧ (2 : Int) ^ j ≤ 64 := by
  have h1 : 2 ^ j ≤ 2 ^ 6 := Nat.pow_le_pow_right (by decide) hj
  have h2 : 0 < 2 ^ j := Nat.pow_pos (by decide)
  have e : ((2 ^ j : Nat) : Int) = 2 ^ j := by rw [Int.natCast_pow]; rfl
  omega
theorem pow_wrap (pv : Bool) (j : Nat) (hj : j ≤ 6) : IntKind.i64.wrap (bit pv * 2 ^ j) = bit pv * 2 ^ j := by
  have ps := pow_small j hj
  have : 0 ≤ bit pv * 2 ^ j ∧ bit pv * 2 ^ j ≤ 64 := by
    cases pv
    · simp [bit]
    · simp only [bit, if_true, Int.one_mul]; omega
  rw [IntKind.wrap_i64]; omega

set_option maxHeartbeats 1000000 in
theorem mask_any (w : World) (r a b : Nat) (k : Int) (xs : List Int) (R : RepR w r a b k xs (hots xs)) (h6 : xs.length ≤ 6) : Calls Try.prog 10 #[ptr r, .int .i64 xs.length] w fun e w' => e = .returned (.int .i64 (mk (hots xs))) ∧ w' = w := by
  have hP := hide (privR_any w r a b k xs R)
  obtain ⟨n, hn⟩ : ∃ n, xs.length = n := ⟨_, rfl⟩
  have hl : (hots xs).length = n := by rw [hots_length, hn]
  unfold ptr at *
  rw [hn]
  go_enter Try.func10, Try.ntmps10
  go_wp2
  go_loopw [5, 6] (fun t i wr => ∃ j : Nat, j ≤ n ∧ i = .int .i64 j ∧ t = .int .i64 (mk ((hots xs).take j)) ∧ wr = w) (fun _ i _ => 7 - (intOf i).toNat)
  case atStart => exact ⟨0, by omega, rfl, rfl, rfl⟩
  case round =>
    obtain ⟨j, hj, rfl, rfl, rfl⟩ := hrel
    have i0 : (0 : Int) ≤ (j : Int) := by omega
    by_cases hlt : j < n
    · have i1 : (j : Int) < (n : Int) := by omega
      have hp := unhide hP j
      have eP : privI xs j = bit (priv xs j) := by unfold privI; rw [if_pos ⟨by omega, by omega⟩, Int.toNat_natCast]
      rw [eP] at hp
      have os := or_step ((hots xs).take j) (by rw [List.length_take]; omega) (priv xs j)
      have eg : (hots xs).getD j false = priv xs j := by rw [List.getD_eq_getElem?_getD, hots_get _ _ (by omega)]; rfl
      rw [← eg, ← take_snoc _ _ (by omega), List.length_take, Nat.min_eq_left (by omega), eg] at os
      have ps := pow_small j (by omega)
      have osH := hide os
      clear os eP eg
      generalize mk ((hots xs).take j) = M at *
      obtain ⟨M', hM'⟩ : ∃ M', mk ((hots xs).take (j + 1)) = M' := ⟨_, rfl⟩
      rw [hM'] at osH
      replace hM' := hide hM'
      generalize priv xs j = pv at *
      have hpH := hide hp
      clear hp
      go_wp2_with fail
      refine (unhide hpH).mono ?_
      rintro e w1 ⟨rfl, rfl⟩
      have eb : (bit pv == 1) = pv := by cases pv <;> rfl
      have bb := bit_bound pv
      go_wp2_with fail
      refine (bit_any _ pv).mono ?_
      rintro e w2 ⟨rfl, rfl⟩
      have pb := pow_wrap pv j (by omega)
      have os := unhide osH
      go_wp2
      go_roundw
      case rel => exact ⟨j + 1, by omega, by go_num, by rw [unhide hM'], by trivial⟩
      case measure => simp [intOf]; omega
    · have i1 : ¬ (j : Int) < (n : Int) := by omega
      have hjn : Hid (j = n) := by show _ = _; omega
      go_wp2
      go_ret
      have e := unhide hjn
      subst e
      rw [List.take_of_length_le (by omega)]
      exact ⟨rfl, rfl⟩

/-! ### The ghost's values. -/
structure Gv (w : World) (g n cap : Nat) (xs : List Int) : Prop where
  b : Blk w g 3 (ints xs)
  n : n = xs.length
  c : cap = xs.length
theorem Gv.of_chg {S : Nat → Prop} {w w' : World} {g n cap : Nat} {xs : List Int} (h : Gv w g n cap xs) (c : Chg S w w') (hS : ¬ S g) : Gv w' g n cap xs := ⟨c.blk h.b hS, h.n, h.c⟩
theorem Gv.quiet {w w' : World} {g n cap : Nat} {xs : List Int} (h : Gv w g n cap xs) (c : Quiet w w') : Gv w' g n cap xs := h.of_chg c id
theorem Gv.x {w : World} {g n cap : Nat} {xs : List Int} (h : Gv w g n cap xs) (i : Nat) (hi : i < xs.length) : w.cell? ⟨g, i, none⟩ = some (.int .i64 (xs.getD i 0)) := (h.b.cell i).trans (ints_get xs i hi)

set_option maxHeartbeats 1000000 in
set_option maxRecDepth 100000 in
theorem hold_any (w : World) (g n cap : Nat) (xs : List Int) (G : Gv w g n cap xs) (h2 : 2 ≤ xs.length) (h6 : xs.length ≤ 6) : Calls Try.prog 20 #[.slice (some ⟨g, 0, none⟩) n cap] w fun e w' => e = .returned (.int .i64 (mk (hots xs))) ∧ Quiet w w' := by
  have hn := G.n.symm
  have x0 := G.x 0 (by omega)
  have xl := G.x (n - 1) (by omega)
  have hl : (hots xs).length = n := by rw [hots_length, hn]
  have p0 : Hid (priv xs 0 = (xs.getD 0 0 == xs.getD (n - 1) 0)) := by
    show _ = _
    unfold priv; rw [if_pos rfl, hn, Bool.eq_iff_iff]; simp
  have m1 : Hid ((mk ((hots xs).take 1) : Int) = bit (priv xs 0)) := by
    show _ = _
    rw [take_snoc _ 0 (by omega), List.take_zero]
    rw [List.getD_eq_getElem?_getD, hots_get _ _ (by omega)]
    simp only [List.nil_append, Option.getD_some]
    cases priv xs 0 <;> rfl
  have i1 : (0 : Int) < (n : Int) := by omega
  have i2 : (0 : Int) ≤ (n : Int) - 1 := by omega
  have i3 : (n : Int) - 1 < (n : Int) := by omega
  have e1 : ((n : Int) - 1).toNat = n - 1 := by omega
  have i4 : (1 : Int) ≤ (n : Int) := by omega
  have hB := hide bit_any
  rw [unhide p0] at m1
  generalize xs.getD 0 0 = X0 at *
  generalize xs.getD (n - 1) 0 = XL at *
  have GH := hide G
  have hlH := hide hl
  have hnH := hide hn
  clear G hl hn
  rw [unhide hnH] at h2 h6
  go_enter Try.func20, Try.ntmps20
  go_wp2
  go_quiet ((go_at_call 24; exact Calls.quiet_of_same (unhide hB _ _)))
  have q1 : Quiet w (w.drewN nq) := (Chg.refl _ _).drewN _
  go_wp2
  go_loopw [4, 5] (fun t i wr => ∃ j : Nat, 1 ≤ j ∧ j ≤ n ∧ i = .int .i64 j ∧ t = .int .i64 (mk ((hots xs).take j)) ∧ Quiet w wr) (fun _ i _ => 7 - (intOf i).toNat)
  case atStart => exact ⟨1, by omega, by omega, rfl, by rw [unhide m1], q1⟩
  case round =>
    obtain ⟨j, hj1, hj, rfl, rfl, qj⟩ := hrel
    clear x0 xl q1
    have j0 : (0 : Int) ≤ (j : Int) := by omega
    by_cases hlt : j < n
    · have j1 : (j : Int) < (n : Int) := by omega
      have hn := unhide hnH
      have hl := unhide hlH
      have G := (unhide GH).quiet qj
      have y1 := G.x j (by omega)
      have y0 := G.x (j - 1) (by omega)
      have k1 : (0 : Int) ≤ (j : Int) - 1 := by omega
      have k2 : (j : Int) - 1 < (n : Int) := by omega
      have k3 : ((j : Int) - 1).toNat = j - 1 := by omega
      have k4 : (1 : Int) ≤ (j : Int) := by omega
      have pp : Hid (priv xs j = !(xs.getD j 0 == xs.getD (j - 1) 0)) := by
        show _ = _
        unfold priv; rw [if_neg (by omega), Bool.eq_iff_iff]; simp
      have os := or_step ((hots xs).take j) (by rw [List.length_take]; omega) (priv xs j)
      have eg : (hots xs).getD j false = priv xs j := by rw [List.getD_eq_getElem?_getD, hots_get _ _ (by omega)]; rfl
      rw [← eg, ← take_snoc _ _ (by omega), List.length_take, Nat.min_eq_left (by omega), eg] at os
      have pb := pow_wrap (priv xs j) j (by omega)
      rw [unhide pp] at os pb
      generalize xs.getD j 0 = X1 at *
      generalize xs.getD (j - 1) 0 = X0 at *
      have osH := hide os
      have pbH := hide pb
      clear os eg pb hn hl G
      generalize mk ((hots xs).take j) = M at *
      obtain ⟨M', hM'⟩ : ∃ M', mk ((hots xs).take (j + 1)) = M' := ⟨_, rfl⟩
      rw [hM'] at osH
      replace hM' := hide hM'
      have ex : (X1 != X0) = !(X1 == X0) := rfl
      rw [← ex] at osH pbH pp
      clear ex
      go_wp2
      go_quiet ((go_at_call 24; exact Calls.quiet_of_same (unhide hB _ _)))
      have q2 : Quiet w (wr.drewN nq) := qj.drewN _
      clear y1 y0 qj
      generalize wr.drewN nq = w3 at *
      have os := unhide osH
      have pb := unhide pbH
      generalize bit (X1 != X0) = BB at *
      go_wp2
      go_roundw
      case rel => exact ⟨j + 1, by omega, by omega, by go_num, by rw [unhide hM'], q2⟩
      case measure => simp [intOf]; omega
    · have i1 : ¬ (j : Int) < (n : Int) := by omega
      have hjn : Hid (j = n) := by show _ = _; omega
      go_wp2
      go_ret
      have e := unhide hjn
      subst e
      have hl := unhide hlH
      rw [List.take_of_length_le (by omega)]
      exact ⟨rfl, qj⟩

theorem settle_any (w : World) (n : Nat) (h6 : n ≤ 6) (h2 : 2 ≤ n) : Calls Try.prog 18 #[.int .i64 n] w fun e w' => e = .returned (.int .i64 ((3 * n * (n - 1) / 2 : Nat))) ∧ w' = w := by
  obtain rfl | rfl | rfl | rfl | rfl : n = 2 ∨ n = 3 ∨ n = 4 ∨ n = 5 ∨ n = 6 := by omega
  all_goals
    go_enter Try.func18, Try.ntmps18
    go_wp2
    go_ret
    exact ⟨rfl, rfl⟩
end Go.Proofs.Qxb6500363a
