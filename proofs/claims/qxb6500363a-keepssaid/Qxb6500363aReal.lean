/-
  The real ring: Priv, Tokens, Pot, Show, Poke, Move, Kick.
-/
import Derived.Test.Qxb6500363aApi
namespace Go.Proofs.Qxb6500363a
open Go.RowKit Go.Qx
set_option linter.unusedSimpArgs false
set_option linter.unusedVariables false

theorem getD_set_ne (xs : List Int) (i j : Nat) (v : Int) (h : i ≠ j) : (xs.set i v).getD j 0 = xs.getD j 0 := by
  simp [List.getD_eq_getElem?_getD, List.getElem?_set_ne h]

theorem hots_mend (xs : List Int) (i : Nat) (v : Int) (h2 : 2 ≤ xs.length) (hi : i < xs.length) :
    ((hots xs).set i (priv (xs.set i v) i)).set ((i + 1) % xs.length) (priv (xs.set i v) ((i + 1) % xs.length)) = hots (xs.set i v) := by
  have hlt : (i + 1) % xs.length < xs.length := Nat.mod_lt _ (by omega)
  apply List.ext_getElem?
  intro j
  by_cases hj : j < xs.length
  · rw [hots_get _ _ (by rw [List.length_set]; exact hj)]
    by_cases h1 : (i + 1) % xs.length = j
    · rw [← h1, List.getElem?_set_self (by rw [List.length_set, hots_length]; exact hlt)]
    · rw [List.getElem?_set_ne h1]
      by_cases h3 : i = j
      · subst h3; rw [List.getElem?_set_self (by rw [hots_length]; exact hi)]
      · rw [List.getElem?_set_ne h3, hots_get _ _ hj]
        congr 1
        unfold priv
        rw [List.length_set]
        by_cases hj0 : j = 0
        · subst hj0
          rw [if_pos rfl, if_pos rfl]
          have : i ≠ xs.length - 1 := by
            intro h; subst h
            apply h1
            rw [show xs.length - 1 + 1 = xs.length by omega, Nat.mod_self]
          rw [getD_set_ne _ _ _ _ h3, getD_set_ne _ _ _ _ this]
        · rw [if_neg hj0, if_neg hj0]
          have : i ≠ j - 1 := by
            intro h; subst h
            apply h1
            rw [show j - 1 + 1 = j by omega, Nat.mod_eq_of_lt hj]
          rw [getD_set_ne _ _ _ _ h3, getD_set_ne _ _ _ _ this]
  · rw [List.getElem?_eq_none (by simp [hots_length]; omega), List.getElem?_eq_none (by simp [hots_length]; omega)]

/-- Priv's answer for any int. -/
def privI (xs : List Int) (i : Int) : Int := if 0 ≤ i ∧ i < xs.length then bit (priv xs i.toNat) else 0

theorem privR_any (w : World) (r a b : Nat) (k : Int) (xs : List Int) (R : RepR w r a b k xs (hots xs)) (i : Int) :
    Calls Try.prog 23 #[ptr r, .int .i64 i] w fun e w' => e = .returned (.int .i64 (privI xs i)) ∧ w' = w := by
  obtain ⟨c0, c1, c2, c3, c4⟩ := R.cells
  unfold ptr
  by_cases h1 : i < 0
  · have hE : Hid (privI xs i = 0) := by show _ = _; unfold privI; rw [if_neg (by omega)]
    go_enter Try.func23, Try.ntmps23
    go_wp2
    go_ret
    rw [unhide hE]
    exact ⟨rfl, rfl⟩
  · obtain ⟨j, rfl⟩ : ∃ j : Nat, i = j := ⟨i.toNat, by omega⟩
    have i0 : (0 : Int) ≤ (j : Int) := by omega
    by_cases h2 : j < xs.length
    · have hE : Hid (privI xs j = bit (priv xs j)) := by show _ = _; unfold privI; rw [if_pos ⟨by omega, by omega⟩]; rfl
      have i1 : (j : Int) < (xs.length : Int) := by omega
      have hh := R.h j h2
      have eh : (hots xs).getD j false = priv xs j := by rw [List.getD_eq_getElem?_getD, hots_get _ _ h2]; rfl
      rw [eh] at hh
      clear h1 eh
      go_enter Try.func23, Try.ntmps23
      go_wp2_with fail
      refine (bit_any _ (priv xs j)).mono ?_
      rintro e w1 ⟨rfl, rfl⟩
      go_wp2
      go_ret
      rw [unhide hE]
      exact ⟨rfl, rfl⟩
    · have hE : Hid (privI xs j = 0) := by show _ = _; unfold privI; rw [if_neg (by omega)]
      have i1 : (xs.length : Int) ≤ (j : Int) := by omega
      clear h1
      go_enter Try.func23, Try.ntmps23
      go_wp2
      go_ret
      rw [unhide hE]
      exact ⟨rfl, rfl⟩

theorem tokR_any (w : World) (r a b : Nat) (k : Int) (xs : List Int) (hs : List Bool) (R : RepR w r a b k xs hs) : Calls Try.prog 25 #[ptr r] w fun e w' => e = .returned (.int .i64 (cnt hs)) ∧ w' = w := by
  obtain ⟨c0, c1, c2, c3, c4⟩ := R.cells
  unfold ptr
  go_enter Try.func25, Try.ntmps25
  go_wp2
  go_ret
  exact ⟨rfl, rfl⟩

theorem potR_any (w : World) (r a b : Nat) (k : Int) (xs : List Int) (hs : List Bool) (R : RepR w r a b k xs hs) : Calls Try.prog 26 #[ptr r] w fun e w' => e = .returned (.int .i64 (wsum xs.length hs 0)) ∧ w' = w := by
  obtain ⟨c0, c1, c2, c3, c4⟩ := R.cells
  unfold ptr
  go_enter Try.func26, Try.ntmps26
  go_wp2
  go_ret
  exact ⟨rfl, rfl⟩

theorem headP_length (k t p : Int) : (headP k t p).length ≤ 63 := by
  have h1 := itoa_length k
  have h2 := itoa_length t
  have h3 := itoa_length p
  simp [headP]; omega

theorem cellP_length (s : List UInt8) (v : Int) (h : Bool) : (cellP s v h).length ≤ s.length + 22 := by
  have := itoa_length v
  unfold cellP
  split <;> simp <;> omega

theorem showTo_length (k : Int) (xs : List Int) : ∀ n, (showTo k xs n).length ≤ 63 + n * 22
  | 0 => by have := headP_length k (cnt (hots xs)) (wsum xs.length (hots xs) 0); simpa [showTo] using this
  | n + 1 => by
    have := showTo_length k xs n
    rw [showTo_succ]
    have := cellP_length (showTo k xs n) (xs.getD n 0) (priv xs n)
    omega

theorem wsum36 (xs : List Int) (hs : List Bool) (hl : hs.length = xs.length) (n6 : xs.length ≤ 6) : 0 ≤ wsum xs.length hs 0 ∧ wsum xs.length hs 0 ≤ 36 := by
  have h := wsum_bound xs.length hs 0 (by omega)
  rw [hl] at h
  have h1 : xs.length * xs.length ≤ 6 * 6 := Nat.mul_le_mul n6 n6
  have e : ((xs.length * xs.length : Nat) : Int) = (xs.length : Int) * xs.length := by simp
  omega

theorem Ok.get {k : Int} {xs : List Int} (o : Ok k xs) (i : Nat) (hi : i < xs.length) : 0 ≤ xs.getD i 0 ∧ xs.getD i 0 < k := by
  have := o.v xs[i] (List.getElem_mem hi)
  simpa [List.getD_eq_getElem?_getD, hi] using this

set_option maxRecDepth 100000 in
set_option maxHeartbeats 1000000 in
theorem showR_any (w : World) (r a b : Nat) (k : Int) (xs : List Int) (R : RepR w r a b k xs (hots xs)) (o : Ok k xs) : Calls Try.prog 13 #[ptr r] w fun e w' => e = .returned (.string (str (showP k xs))) ∧ Quiet w w' := by
  obtain ⟨c0, c1, c2, c3, c4⟩ := R.cells
  have n6 := o.n6
  have k8 := o.k8
  have k1 := o.k1
  have bc := cnt_bound (hots xs)
  rw [hots_length] at bc
  have bw := wsum36 xs (hots xs) (hots_length xs) n6
  have hsh : Hid (showTo k xs 0 = headP k (cnt (hots xs)) (wsum xs.length (hots xs) 0)) := rfl
  have hhd := fun W => head_any W k (cnt (hots xs)) (wsum xs.length (hots xs) 0) ⟨by omega, by omega⟩ ⟨by omega, by omega⟩ ⟨by omega, by omega⟩
  rw [← unhide hsh] at hhd
  clear hsh
  unfold ptr
  go_enter Try.func13, Try.ntmps13
  go_wp2
  go_region_held3 (fun w' => w'.cell? ⟨r, 0, none⟩ = some (.int .i64 k) ∧ w'.cell? ⟨r, 3, none⟩ = some (.int .i64 (cnt (hots xs))) ∧ w'.cell? ⟨r, 4, none⟩ = some (.int .i64 (wsum xs.length (hots xs) 0))) (first | exact ⟨Quiet.cell hq2 c0, Quiet.cell hq2 c3, Quiet.cell hq2 c4⟩ | go_keep) (first | (go_at_call 28; refine (hhd _).mono ?_; rintro e w2 ⟨rfl, hq2⟩))
  have q2 : Quiet w w2 := Quiet.trans ((Chg.refl _ _).drew) hq2
  rename_i hHeld
  clear hHeld
  have d1 := Quiet.cell q2 c1
  go_wp2
  go_loopw [3, 26] (fun v i wr => ∃ j : Nat, j ≤ xs.length ∧ i = .int .i64 j ∧ v = .string (str (showTo k xs j)) ∧ Quiet w wr) (fun _ i _ => 7 - (intOf i).toNat)
  case atStart => exact ⟨0, Nat.zero_le _, rfl, rfl, q2⟩
  case round =>
    obtain ⟨j, hj, rfl, rfl, qj⟩ := hrel
    have i0 : (0 : Int) ≤ (j : Int) := by omega
    have Rj := R.quiet qj
    obtain ⟨_, j1, j2, _, _⟩ := Rj.cells
    by_cases hlt : j < xs.length
    · have i1 : (j : Int) < (xs.length : Int) := by omega
      have hh := Rj.h j hlt
      have hx := Rj.x j hlt
      have eh : (hots xs).getD j false = priv xs j := by rw [List.getD_eq_getElem?_getD, hots_get _ _ hlt]; rfl
      rw [eh] at hh
      clear eh
      have hv := o.get j hlt
      have hsl := showTo_length k xs j
      have hss := hide (showTo_succ k xs j)
      generalize xs.getD j 0 = xv at *
      generalize priv xs j = pv at *
      have hcl := fun W => cell_any W (showTo k xs j) xv pv (by omega) ⟨by omega, by omega⟩
      generalize showTo k xs j = S at *
      go_wp2_with fail
      refine (bit_any _ pv).mono ?_
      rintro e w3 ⟨rfl, rfl⟩
      go_wp2_with fail
      refine (hcl _).mono ?_
      rintro e w4 ⟨rfl, q4⟩
      go_wp2
      go_roundw
      case rel => exact ⟨j + 1, by omega, by go_num, by rw [unhide hss], Quiet.trans qj q4⟩
      case measure => simp [intOf]; omega
    · have i1 : ¬ (j : Int) < (xs.length : Int) := by omega
      have hjn : Hid (j = xs.length) := by show _ = _; omega
      go_wp2
      go_ret
      refine ⟨?_, qj⟩
      unfold showP
      rw [← unhide hjn]
      rfl

/-- A step turned the ring: k' and xs' behind it, on the same blocks. -/
def pokeX (k : Int) (xs : List Int) (i v : Int) : Int × List Int := if 0 ≤ i ∧ i < xs.length then (0, xs.set i.toNat (normP v k)) else (3, xs)

set_option maxRecDepth 100000 in
set_option maxHeartbeats 1000000 in
theorem pokeR_any (w : World) (r a b : Nat) (k : Int) (xs : List Int) (R : RepR w r a b k xs (hots xs)) (o : Ok k xs) (i v : Int) (hv1 : -9223372036854775808 ≤ v) (hv2 : v ≤ 9223372036854775807) :
    Calls Try.prog 31 #[ptr r, .int .i64 i, .int .i64 v] w fun e w' => e = .returned (.int .i64 (pokeX k xs i v).1) ∧ Chg (ownR r a b) w w' ∧ RepR w' r a b k (pokeX k xs i v).2 (hots (pokeX k xs i v).2) := by
  obtain ⟨c0, c1, c2, c3, c4⟩ := R.cells
  have n6 := o.n6
  have n2 := o.n2
  have k8 := o.k8
  have k1 := o.k1
  unfold ptr
  by_cases h1 : 0 ≤ i ∧ i < xs.length
  · obtain ⟨j, rfl⟩ : ∃ j : Nat, i = j := ⟨i.toNat, by omega⟩
    have hj : j < xs.length := by omega
    have hE : Hid (pokeX k xs j v = (0, xs.set j (normP v k))) := by show _ = _; unfold pokeX; rw [if_pos h1]; rfl
    obtain ⟨i0, i1⟩ := h1
    have fa := R.xb.frozen j
    have hx := R.x j hj
    have hset := fun u => R.setX j u
    have hm := fun u => mend_any _ r a b k (xs.set j u) (hots xs) (hset u) (by rw [List.length_set]; exact n6) j (by rw [List.length_set]; exact hj)
    simp only [List.length_set, hots_mend xs j _ n2 hj] at hm
    unfold ptr at hm
    have g1 : 1 ≤ k := by omega
    have g0 : (k == 0) = false := by rw [beq_eq_false_iff_ne]; omega
    have g9 : (k == -1) = false := by rw [beq_eq_false_iff_ne]; omega
    have b1 : -k < v.tmod k ∧ v.tmod k < k := by
      have a1 := Int.tmod_lt_of_pos v (show 0 < k by omega)
      have a2 := Int.tmod_lt_of_pos (-v) (show 0 < k by omega)
      rw [Int.neg_tmod] at a2
      omega
    obtain ⟨b1, b2⟩ := b1
    have hmH := hide hm
    clear hm hset
    by_cases hneg : v.tmod k < 0
    · have hnp : Hid (normP v k = v.tmod k + k) := by show _ = _; unfold normP; rw [if_neg (by omega), if_pos hneg]
      go_enter Try.func31, Try.ntmps31
      go_wp2_with fail
      refine (unhide hmH (v.tmod k + k)).mono ?_
      rintro e w2 ⟨rfl, ch2, R2⟩
      go_wp2
      go_ret
      rw [unhide hE, unhide hnp]
      exact ⟨rfl, ((Chg.refl (ownR r a b) w).setCell (.inl (.inr (.inl rfl))) _).trans ch2, R2⟩
    · have hnp : Hid (normP v k = v.tmod k) := by show _ = _; unfold normP; rw [if_neg (by omega), if_neg hneg]
      have hneg' : 0 ≤ v.tmod k := by omega
      clear hneg
      go_enter Try.func31, Try.ntmps31
      go_wp2_with fail
      refine (unhide hmH (v.tmod k)).mono ?_
      rintro e w2 ⟨rfl, ch2, R2⟩
      go_wp2
      go_ret
      rw [unhide hE, unhide hnp]
      exact ⟨rfl, ((Chg.refl (ownR r a b) w).setCell (.inl (.inr (.inl rfl))) _).trans ch2, R2⟩
  · have hE : Hid (pokeX k xs i v = (3, xs)) := by show _ = _; unfold pokeX; rw [if_neg h1]
    have h2 : i < 0 ∨ (0 ≤ i ∧ (xs.length : Int) ≤ i) := by omega
    clear h1
    rcases h2 with h | ⟨h, h'⟩
    all_goals
      go_enter Try.func31, Try.ntmps31
      go_wp2
      go_ret
      rw [unhide hE]
      exact ⟨rfl, Chg.refl _ _, R⟩
end Go.Proofs.Qxb6500363a
