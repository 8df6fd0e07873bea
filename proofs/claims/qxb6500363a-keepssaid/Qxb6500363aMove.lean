/-
  The real ring: Move, Kick.
-/
import Derived.Test.Qxb6500363aReal
namespace Go.Proofs.Qxb6500363a
open Go.RowKit Go.Qx
set_option linter.unusedSimpArgs false
set_option linter.unusedVariables false

def moveE (k : Int) (xs : List Int) (i : Int) : Int × List Int := if 0 ≤ i ∧ i < xs.length then (if priv xs i.toNat then (0, moveX k xs i.toNat) else (4, xs)) else (3, xs)

set_option maxRecDepth 100000 in
set_option maxHeartbeats 1000000 in
theorem moveR_any (w : World) (r a b : Nat) (k : Int) (xs : List Int) (R : RepR w r a b k xs (hots xs)) (o : Ok k xs) (i : Int) :
    Calls Try.prog 32 #[ptr r, .int .i64 i] w fun e w' => e = .returned (.int .i64 (moveE k xs i).1) ∧ Chg (ownR r a b) w w' ∧ RepR w' r a b k (moveE k xs i).2 (hots (moveE k xs i).2) := by
  obtain ⟨c0, c1, c2, c3, c4⟩ := R.cells
  have n6 := o.n6
  have n2 := o.n2
  have k8 := o.k8
  have k1 := o.k1
  unfold ptr
  by_cases h1 : 0 ≤ i ∧ i < xs.length
  · obtain ⟨j, rfl⟩ : ∃ j : Nat, i = j := ⟨i.toNat, by omega⟩
    have hj : j < xs.length := by omega
    have hh := R.h j hj
    have eh : (hots xs).getD j false = priv xs j := by rw [List.getD_eq_getElem?_getD, hots_get _ _ hj]; rfl
    rw [eh] at hh
    clear eh
    cases hp : priv xs j with
    | false =>
      have hE : Hid (moveE k xs j = (4, xs)) := by show _ = _; unfold moveE; rw [if_pos h1]; simp [hp]
      obtain ⟨i0, i1⟩ := h1
      rw [hp] at hh
      clear hp
      go_enter Try.func32, Try.ntmps32
      go_wp2
      go_ret
      rw [unhide hE]
      exact ⟨rfl, Chg.refl _ _, R⟩
    | true =>
      have hE : Hid (moveE k xs j = (0, moveX k xs j)) := by show _ = _; unfold moveE; rw [if_pos h1]; simp [hp]
      obtain ⟨i0, i1⟩ := h1
      rw [hp] at hh
      clear hp
      have fa := R.xb.frozen j
      have hx := R.x j hj
      have hx0 := R.x 0 (by omega)
      have hxp := R.x (j - 1) (by omega)
      have hset := fun u => R.setX j u
      have nra := R.ra
      have nar := Ne.symm R.ra
      have g1 : 1 ≤ k := by omega
      have g0 : (k == 0) = false := by rw [beq_eq_false_iff_ne]; omega
      have g9 : (k == -1) = false := by rw [beq_eq_false_iff_ne]; omega
      cases j with
      | zero =>
        have hv := o.get 0 (by omega)
        have hX : Hid (moveX k xs 0 = xs.set 0 ((xs.getD 0 0 + 1) % k)) := by show _ = _; unfold moveX; rw [if_pos rfl, Int.tmod_eq_emod_of_nonneg (by omega)]
        generalize xs.getD 0 0 = x0 at *
        have R1 := R.setX 0 (x0 + 1)
        have R2 := (R1.setX 0 ((x0 + 1) % k)).quiet ((Chg.refl _ _).drew)
        have es : (xs.set 0 (x0 + 1)).set 0 ((x0 + 1) % k) = xs.set 0 ((x0 + 1) % k) := by simp
        rw [es] at R2
        clear es
        have hm := mend_any _ r a b k _ (hots xs) R2 (by rw [List.length_set]; exact n6) 0 (by rw [List.length_set]; exact hj)
        rw [List.length_set, hots_mend xs 0 _ n2 hj] at hm
        have f1 := R1.xb.frozen 0
        obtain ⟨d0, d1, _, _, _⟩ := R1.cells
        rw [List.length_set] at d1
        have hmH := hide hm
        clear hm R1 R2 hset hx hxp
        unfold ptr at hmH
        have n0 : (0 : Int) < (xs.length : Int) := by omega
        have gk0 : ¬ k = 0 := by omega
        have hnil : ¬ xs = [] := by intro h; rw [h] at hj; simp at hj
        go_enter Try.func32, Try.ntmps32
        go_wp2
        go_region_law (fail)
        all_goals
          go_wp2_with fail
          refine (unhide hmH).mono ?_
          rintro e w2 ⟨rfl, ch2, R2⟩
          go_wp2
          go_ret
          rw [unhide hE, unhide hX]
          exact ⟨rfl, ((((Chg.refl (ownR r a b) w).setCell (.inl (.inr (.inl rfl))) _).setCell (.inl (.inr (.inl rfl))) _).drew).trans ch2, R2⟩
      | succ m =>
        have hX : Hid (moveX k xs (m + 1) = xs.set (m + 1) (xs.getD m 0)) := by show _ = _; unfold moveX; rw [if_neg (by omega), Nat.add_sub_cancel]
        rw [Nat.add_sub_cancel] at hxp
        have hm := mend_any _ r a b k _ (hots xs) ((R.setX (m + 1) (xs.getD m 0)).quiet ((Chg.refl _ _).drew)) (by rw [List.length_set]; exact n6) (m + 1) (by rw [List.length_set]; exact hj)
        rw [List.length_set, hots_mend xs (m + 1) _ n2 hj] at hm
        unfold ptr at hm
        have hmH := hide hm
        clear hm hset hx0
        generalize xs.getD (m + 1) 0 = xi at *
        generalize xs.getD m 0 = xp at *
        have e1 : ((m + 1 : Nat) : Int) = (m : Int) + 1 := by omega
        rw [e1] at i0 i1
        have i3 : (0 : Int) ≤ (m : Int) := by omega
        have i4 : (m : Int) < (xs.length : Int) := by omega
        have i5 : IntKind.i64.wrap ((m : Int) + 1 - 1) = (m : Int) := by rw [IntKind.wrap_i64]; omega
        have i6 : IntKind.i64.wrap (m : Int) = (m : Int) := by rw [IntKind.wrap_i64]; omega
        have i7 : ((m : Int) + 1 == 0) = false := by rw [beq_eq_false_iff_ne]; omega
        go_enter Try.func32, Try.ntmps32
        go_wp2
        go_region_held3 (fun w' => w'.cell? ⟨r, 1, none⟩ = some (.slice (some ⟨a, 0, none⟩) xs.length xs.length) ∧ w'.cell? ⟨a, m, none⟩ = some (.int .i64 xp)) (first | exact ⟨cell_set_ne c1 (.inl nra), cell_set_ne hxp (.inr (by omega))⟩ | go_keep) (fail)
        rename_i hHeld
        clear hHeld
        go_wp2_with fail
        refine (unhide hmH).mono ?_
        rintro e w2 ⟨rfl, ch2, R2⟩
        go_wp2
        go_ret
        rw [unhide hE, unhide hX]
        exact ⟨rfl, ((((Chg.refl (ownR r a b) w).setCell (.inl (.inr (.inl rfl))) _)).drew).trans ch2, R2⟩
  · have hE : Hid (moveE k xs i = (3, xs)) := by show _ = _; unfold moveE; rw [if_neg h1]
    have h2 : i < 0 ∨ (0 ≤ i ∧ (xs.length : Int) ≤ i) := by omega
    clear h1
    rcases h2 with h | ⟨h, h'⟩
    all_goals
      go_enter Try.func32, Try.ntmps32
      go_wp2
      go_ret
      rw [unhide hE]
      exact ⟨rfl, Chg.refl _ _, R⟩

theorem kickAt_none : ∀ (hs : List Bool) (i : Nat) (j : Int), cnt hs < 1 → kickAt hs i j = -1
  | [], _, _, _ => rfl
  | h :: r, i, j, hc => by
    have hb := cnt_bound r
    cases h with
    | true => simp [cnt, bit] at hc; omega
    | false =>
      simp only [kickAt, Bool.false_eq_true, if_false]
      exact kickAt_none r (i + 1) j (by simp [cnt, bit] at hc; omega)

/-- Kick: whom, and the values behind. -/
def kickE (k : Int) (xs : List Int) (c : Int) : Int × List Int :=
  if kickAt (hots xs) 0 (normP c (cnt (hots xs))) < 0 then (-1, xs) else (kickAt (hots xs) 0 (normP c (cnt (hots xs))), moveX k xs (kickAt (hots xs) 0 (normP c (cnt (hots xs)))).toNat)

theorem hots_drop (xs : List Int) (j : Nat) (hj : j < xs.length) : (hots xs).drop j = priv xs j :: (hots xs).drop (j + 1) := by
  have hl : j < (hots xs).length := by rw [hots_length]; exact hj
  rw [List.drop_eq_getElem_cons hl]
  congr 1
  have := hots_get xs j hj
  rw [List.getElem?_eq_getElem hl] at this
  exact Option.some.inj this

theorem moveE_hot (k : Int) (xs : List Int) (j : Nat) (hj : j < xs.length) (hp : priv xs j = true) : moveE k xs j = (0, moveX k xs j) := by
  unfold moveE; rw [if_pos ⟨by omega, by omega⟩]; simp [hp]

set_option maxRecDepth 100000 in
set_option maxHeartbeats 1000000 in
theorem kickR_any (w : World) (r a b : Nat) (k : Int) (xs : List Int) (R : RepR w r a b k xs (hots xs)) (o : Ok k xs) (c : Int) (h1 : -9223372036854775808 ≤ c) (h2 : c ≤ 9223372036854775807) :
    Calls Try.prog 33 #[ptr r, .int .i64 c] w fun e w' => e = .returned (.int .i64 (kickE k xs c).1) ∧ Chg (ownR r a b) w w' ∧ RepR w' r a b k (kickE k xs c).2 (hots (kickE k xs c).2) := by
  obtain ⟨c0, c1, c2, c3, c4⟩ := R.cells
  have n6 := o.n6
  have bc := cnt_bound (hots xs)
  rw [hots_length] at bc
  have hln := hots_length xs
  by_cases ht : cnt (hots xs) < 1
  · have hE : Hid (kickE k xs c = (-1, xs)) := by show _ = _; unfold kickE; rw [kickAt_none _ _ _ ht]; rfl
    unfold ptr
    go_enter Try.func33, Try.ntmps33
    go_wp2
    go_ret
    rw [unhide hE]
    exact ⟨rfl, Chg.refl _ _, R⟩
  · have hmv := fun j (hj : j < xs.length) (hp : priv xs j = true) => by
      have := moveR_any w r a b k xs R o (j : Int)
      rw [moveE_hot k xs j hj hp] at this
      exact this
    have hE : Hid (kickE k xs c = if kickAt (hots xs) 0 (normP c (cnt (hots xs))) < 0 then (-1, xs) else (kickAt (hots xs) 0 (normP c (cnt (hots xs))), moveX k xs (kickAt (hots xs) 0 (normP c (cnt (hots xs)))).toNat)) := rfl
    have hhs := fun j (hj : j < xs.length) => R.h j hj
    have hg := fun j (hj : j < xs.length) => hots_get xs j hj
    have hdr := fun j (hj : j < xs.length) => hots_drop xs j hj
    have hnn : 0 ≤ normP c (cnt (hots xs)) ∧ normP c (cnt (hots xs)) < 7 := by
      unfold normP
      rw [if_neg ht]
      have a1 := Int.tmod_lt_of_pos c (show 0 < cnt (hots xs) by omega)
      have a2 := Int.tmod_lt_of_pos (-c) (show 0 < cnt (hots xs) by omega)
      rw [Int.neg_tmod] at a2
      split <;> omega
    have hnp : Hid (normP c (cnt (hots xs)) = if c.tmod (cnt (hots xs)) < 0 then c.tmod (cnt (hots xs)) + cnt (hots xs) else c.tmod (cnt (hots xs))) := by show _ = _; unfold normP; rw [if_neg ht]
    have g1 : 1 ≤ cnt (hots xs) := by omega
    have hRH := hide R
    have hhsH := hide hhs
    have hdrH := hide hdr
    have hmvH := hide hmv
    have hgH := hide hg
    clear R hhs hdr hmv hg hln
    generalize hNP : normP c (cnt (hots xs)) = np at *
    clear hNP
    generalize cnt (hots xs) = t at *
    have gt0 : ¬ t = 0 := by omega
    have g0 : (t == 0) = false := by rw [beq_eq_false_iff_ne]; omega
    have g9 : (t == -1) = false := by rw [beq_eq_false_iff_ne]; omega
    have a1 := Int.tmod_lt_of_pos c (show 0 < t by omega)
    have a2 : -t < c.tmod t := by
      have a2 := Int.tmod_lt_of_pos (-c) (show 0 < t by omega)
      rw [Int.neg_tmod] at a2
      omega
    have hcase : (c.tmod t < 0 ∧ Hid (np = c.tmod t + t)) ∨ (0 ≤ c.tmod t ∧ Hid (np = c.tmod t)) := by
      have := unhide hnp
      by_cases h : c.tmod t < 0
      · rw [if_pos h] at this; exact .inl ⟨h, this⟩
      · rw [if_neg h] at this; exact .inr ⟨by omega, this⟩
    clear hnp
    unfold ptr at *
    rcases hcase with ⟨hn, eH⟩ | ⟨hn, eH⟩
    all_goals
      go_enter Try.func33, Try.ntmps33
      go_wp2
      go_loopw [1, 32] (fun cv i wr => ∃ (j : Nat) (q : Int), j ≤ xs.length ∧ i = .int .i64 j ∧ cv = .int .i64 q ∧ 0 ≤ q ∧ q < 7 ∧ kickAt ((hots xs).drop j) j q = kickAt (hots xs) 0 np ∧ wr = w) (fun _ i _ => 7 - (intOf i).toNat)
      case atStart => exact ⟨0, np, Nat.zero_le _, rfl, by rw [unhide eH], hnn.1, hnn.2, rfl, rfl⟩
      case round =>
        obtain ⟨j, q, hj, rfl, rfl, q0, q7, hk, rfl⟩ := hrel
        have hkH := hide hk
        clear hk eH
        have i0 : (0 : Int) ≤ (j : Int) := by omega
        by_cases hlt : j < xs.length
        · have i1 : (j : Int) < (xs.length : Int) := by omega
          have hh := unhide hhsH j hlt
          have eh : (hots xs).getD j false = priv xs j := by rw [List.getD_eq_getElem?_getD, unhide hgH j hlt]; rfl
          rw [eh] at hh
          clear eh
          have hk := unhide hkH
          rw [unhide hdrH j hlt] at hk
          cases hp : priv xs j with
          | false =>
            rw [hp] at hh hk
            simp only [kickAt, Bool.false_eq_true, if_false] at hk
            have hkH2 := hide hk
            clear hk hp
            go_wp2
            go_roundw
            case rel => exact ⟨j + 1, q, by omega, by go_num, rfl, q0, q7, unhide hkH2, trivial⟩
            case measure => simp [intOf]; omega
          | true =>
            have hm := unhide hmvH j hlt hp
            rw [hp] at hh hk
            have hmH := hide hm
            clear hp hm
            by_cases hq : q = 0
            · subst hq
              simp only [kickAt, if_true] at hk
              have hkH2 := hide hk
              clear hk
              go_wp2_with fail
              refine (unhide hmH).mono ?_
              rintro e w2 ⟨rfl, ch2, R2⟩
              go_wp2
              go_ret
              rw [unhide hE, ← unhide hkH2, if_neg (by omega)]
              exact ⟨rfl, ch2, R2⟩
            · have bq : (q == 0) = false := by simpa using hq
              simp only [kickAt, if_true, hq, if_false] at hk
              have hkH2 := hide hk
              clear hk
              have q1 : 1 ≤ q := by omega
              clear hq
              go_wp2
              go_roundw
              case rel => exact ⟨j + 1, q - 1, by omega, by go_num, rfl, by omega, by omega, unhide hkH2, trivial⟩
              case measure => simp [intOf]; omega
        · have i1 : ¬ (j : Int) < (xs.length : Int) := by omega
          have hk := unhide hkH
          rw [List.drop_eq_nil_of_le (by have := (unhide hRH).hl; omega)] at hk
          simp only [kickAt] at hk
          have hkH2 := hide hk
          clear hk
          go_wp2
          go_ret
          rw [unhide hE, ← unhide hkH2, if_pos (by omega)]
          exact ⟨rfl, Chg.refl _ _, unhide hRH⟩
end Go.Proofs.Qxb6500363a
