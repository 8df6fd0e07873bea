/-
  P5: AFTER 3n(n-1)/2 MOVES SINCE THE LAST FAULT THE RING IS LEGITIMATE.
-/
import Derived.Test.Qxb6500363aKLaw
namespace Go.Proofs.Qxb6500363a
open Go.RowKit Go.Qx
set_option linter.unusedVariables false
set_option linter.unusedSimpArgs false

theorem sub_length {α : Type} [DecidableEq α] : ∀ (l m : List α), l.Nodup → (∀ x ∈ l, x ∈ m) → l.length ≤ m.length
  | [], m, _, _ => by simp
  | a :: t, m, hn, hs => by
    rw [List.nodup_cons] at hn
    have ha := hs a (by simp)
    have ih := sub_length t (m.erase a) hn.2 (fun x hx => by
      have hxa : x ≠ a := fun e => hn.1 (e ▸ hx)
      exact (List.mem_erase_of_ne hxa).2 (hs x (by simp [hx])))
    rw [List.length_erase_of_mem ha] at ih
    have : 0 < m.length := List.length_pos_of_mem ha
    simp only [List.length_cons]; omega

/-- The value that machine 0 comes to in d moves. -/
def val (k : Int) (xs : List Int) (d : Nat) : Int := (xs.getD 0 0 + d) % k
/-- d moves of machine 0 bring a value that no other holds; or (d = 0) its own value lies in a stretch from machine 0 on. -/
def Fr (k : Int) (xs : List Int) (d : Nat) : Prop :=
  if d = 0 then ∀ i, i + 1 < xs.length → xs.getD (i + 1) 0 = xs.getD 0 0 → xs.getD i 0 = xs.getD 0 0
  else ∀ i, 1 ≤ i → i < xs.length → xs.getD i 0 ≠ val k xs d

theorem val_ne {k : Int} (x : Int) (hx : 0 ≤ x ∧ x < k) (d e : Nat) (hd : (d : Int) < k) (he : (e : Int) < k) (h : (x + d) % k = (x + e) % k) : d = e := by
  by_cases h1 : x + d < k <;> by_cases h2 : x + e < k
  · rw [Int.emod_eq_of_lt (by omega) h1, Int.emod_eq_of_lt (by omega) h2] at h; omega
  · rw [Int.emod_eq_of_lt (by omega) h1, ← Int.sub_emod_right, Int.emod_eq_of_lt (by omega) (by omega)] at h; omega
  · rw [← Int.sub_emod_right (x + d), Int.emod_eq_of_lt (by omega) (by omega), Int.emod_eq_of_lt (by omega) h2] at h; omega
  · rw [← Int.sub_emod_right (x + d), ← Int.sub_emod_right (x + e), Int.emod_eq_of_lt (by omega) (by omega), Int.emod_eq_of_lt (by omega) (by omega)] at h; omega

/-- Behind a fault: some d < n. -/
theorem fresh {k : Int} {xs : List Int} (o : Ok k xs) : ∃ d, d < xs.length ∧ Fr k xs d := by
  have n2 := o.n2
  have k1 := o.k1
  have hx := o.get 0 (by omega)
  have key : ∃ d, d < xs.length ∧ val k xs d ∉ xs.tail := by
    apply Classical.byContradiction
    intro hno
    have hall : ∀ d, d < xs.length → val k xs d ∈ xs.tail := fun d hd => Classical.byContradiction fun h => hno ⟨d, hd, h⟩
    have hl := sub_length ((List.range xs.length).map (val k xs)) xs.tail (by
      rw [List.nodup_iff_pairwise_ne, List.pairwise_map]
      have := List.nodup_range (n := xs.length)
      rw [List.nodup_iff_pairwise_ne] at this
      refine List.Pairwise.imp_of_mem ?_ this
      intro a b ha hb hab h
      rw [List.mem_range] at ha hb
      exact hab (val_ne _ hx a b (by omega) (by omega) h)) (by
      intro x hm
      rw [List.mem_map] at hm
      obtain ⟨d, hd, rfl⟩ := hm
      exact hall d (List.mem_range.1 hd))
    rw [List.length_map, List.length_range, List.length_tail] at hl
    omega
  obtain ⟨d, hd, hn⟩ := key
  have hi : ∀ i, 1 ≤ i → i < xs.length → xs.getD i 0 ≠ val k xs d := by
    intro i h1 h2 e
    apply hn
    rw [← e]
    obtain ⟨j, rfl⟩ : ∃ j, i = j + 1 := ⟨i - 1, by omega⟩
    cases xs with
    | nil => simp at h2
    | cons a t =>
      simp only [List.tail_cons, List.getD_cons_succ]
      rw [List.getD_eq_getElem?_getD, List.getElem?_eq_getElem (by simpa using h2)]
      exact List.getElem_mem _
  refine ⟨d, hd, ?_⟩
  unfold Fr
  split
  · rename_i h0
    subst h0
    intro i h1 h2
    refine absurd h2 ?_
    have := hi (i + 1) (by omega) h1
    unfold val at this
    rwa [Int.natCast_zero, Int.add_zero, Int.emod_eq_of_lt hx.1 hx.2] at this
  · exact hi

theorem getB_set_eq (hs : List Bool) (i : Nat) : (hs.set i false).getD i false = false := by
  rw [List.getD_eq_getElem?_getD, List.getElem?_set_self']
  cases hs[i]? <;> rfl
/-- All alike: one privilege. -/
theorem alike_one (xs : List Int) (h2 : 2 ≤ xs.length) (h : ∀ i, i < xs.length → xs.getD i 0 = xs.getD 0 0) : cnt (hots xs) = 1 := by
  have e : ∀ i, i < xs.length → priv xs i = decide (i = 0) := by
    intro i hi
    unfold priv
    split
    · rename_i h0
      rw [decide_eq_true h0, decide_eq_true_eq]; exact (h _ (by omega)).symm
    · rename_i h0
      rw [decide_eq_false h0, decide_eq_false_iff_not, h i hi, h (i - 1) (by omega)]; simp
  have c : cnt (hots xs) = cnt ((hots xs).set 0 false) + 1 := by
    rw [cnt_set _ _ _ (by rw [hots_length]; omega), getD_of, hots_getD' _ _ (by omega), e 0 (by omega)]
    simp [bit]; omega
  have z : cnt ((hots xs).set 0 false) = 0 := by
    have nn := (cnt_bound ((hots xs).set 0 false)).1
    by_cases hz : cnt ((hots xs).set 0 false) = 0
    · exact hz
    · obtain ⟨i, hi, ht⟩ := cnt_some _ (show 1 ≤ cnt ((hots xs).set 0 false) by omega)
      rw [List.length_set, hots_length] at hi
      by_cases h0 : i = 0
      · subst h0
        rw [getB_set_eq] at ht; exact absurd ht (by simp)
      · rw [getB_set_ne _ _ _ _ (Ne.symm h0), hots_getD' _ _ hi, e i hi] at ht
        simp [h0] at ht
  omega

theorem Fr_right {k : Int} {xs : List Int} (o : Ok k xs) {v d : Nat} (hv : v < xs.length) (h0 : v ≠ 0) (hd : d < xs.length) (h : Fr k xs d) : Fr k (moveX k xs v) d := by
  obtain ⟨y, e, _, h1⟩ := move_set o hv
  have hy := h1 h0
  have hx := o.get 0 (by omega)
  have k1 := o.k1
  rw [e]
  unfold Fr at h ⊢
  rw [List.length_set]
  unfold val at *
  have z0 : (xs.set v y).getD 0 0 = xs.getD 0 0 := getD_set_ne _ _ _ _ h0
  rw [z0]
  split
  · rename_i hd0
    rw [if_pos hd0] at h
    intro i hi he
    by_cases a : i + 1 = v
    · rw [a, getD_set_eq _ _ _ hv, hy] at he
      rw [getD_set_ne _ _ _ _ (by omega)]
      rw [show i = v - 1 by omega]; exact he
    · by_cases b : i = v
      · subst b
        rw [getD_set_ne _ _ _ _ (by omega)] at he
        rw [getD_set_eq _ _ _ hv, hy]
        have g1 := h i hi he
        exact h (i - 1) (by omega) (by rw [show i - 1 + 1 = i by omega]; exact g1)
      · rw [getD_set_ne _ _ _ _ (by omega)] at he
        rw [getD_set_ne _ _ _ _ (by omega)]
        exact h i hi he
  · rename_i hd0
    rw [if_neg hd0] at h
    intro i hi1 hi
    by_cases b : i = v
    · subst b
      rw [getD_set_eq _ _ _ hv, hy]
      by_cases c : i - 1 = 0
      · rw [c]
        intro he
        have : d = 0 := (val_ne (xs.getD 0 0) hx 0 d (by omega) (by omega) (by rw [Int.natCast_zero, Int.add_zero, Int.emod_eq_of_lt hx.1 hx.2]; exact he)).symm
        exact hd0 this
      · exact h (i - 1) (by omega) (by omega)
    · rw [getD_set_ne _ _ _ _ (Ne.symm b)]
      exact h i hi1 hi

theorem Fr_zero {k : Int} {xs : List Int} (o : Ok k xs) {d : Nat} (hd : d < xs.length) (h0 : d ≠ 0) (h : Fr k xs d) : Fr k (moveX k xs 0) (d - 1) := by
  have n2 := o.n2
  obtain ⟨y, e, h1, _⟩ := move_set o (v := 0) (by omega)
  have hy := h1 rfl
  have hx := o.get 0 (by omega)
  have k1 := o.k1
  rw [e]
  unfold Fr at h ⊢
  rw [if_neg h0] at h
  rw [List.length_set]
  unfold val at *
  have z0 : (xs.set 0 y).getD 0 0 = y := getD_set_eq _ _ _ (by omega)
  rw [z0, hy]
  have ev : ((xs.getD 0 0 + 1) % k + ((d - 1 : Nat) : Int)) % k = (xs.getD 0 0 + d) % k := by
    rw [Int.emod_add_emod]; congr 1; omega
  split
  · rename_i hd0
    have hd1 : d = 1 := by omega
    subst hd1
    intro i hi he
    rw [getD_set_ne _ _ _ _ (by omega)] at he
    exact absurd he (by have := h (i + 1) (by omega) hi; simpa using this)
  · intro i hi1 hi
    rw [getD_set_ne _ _ _ _ (by omega), ev]
    exact h i hi1 hi

theorem wsum_tri (n : Nat) : ∀ (hs : List Bool) (o : Nat), 1 ≤ o → o + hs.length = n → hs.length ≤ 5 → 2 * wsum n hs o ≤ (hs.length * (hs.length + 1) : Nat)
  | [], o, _, _, _ => by simp [wsum]
  | b :: r, o, h1, h2, h3 => by
    simp only [List.length_cons] at h2 h3
    have ih := wsum_tri n r (o + 1) (by omega) (by omega) (by omega)
    have hw : wt n o = (r.length : Int) + 1 := by unfold wt; rw [if_neg (by omega)]; omega
    have hb : bit b * wt n o ≤ (r.length : Int) + 1 := by rw [hw]; cases b <;> simp [bit] <;> omega
    simp only [wsum, List.length_cons]
    have hm : ((r.length + 1) * (r.length + 1 + 1) : Nat) = r.length * (r.length + 1) + 2 * (r.length + 1) := by
      rw [Nat.add_mul, Nat.mul_add, Nat.mul_add]; omega
    rw [hm]; omega
theorem pot_tri (hs : List Bool) (h1 : 1 ≤ hs.length) (h6 : hs.length ≤ 6) : 2 * wsum hs.length hs 0 ≤ (hs.length * (hs.length - 1) : Nat) := by
  cases hs with
  | nil => simp at h1
  | cons b r =>
    simp only [List.length_cons] at h6 ⊢
    have := wsum_tri (r.length + 1) r 1 (by omega) (by omega) (by omega)
    have hw : wt (r.length + 1) 0 = 0 := rfl
    simp only [wsum, hw, Int.mul_zero, Int.zero_add, Nat.add_sub_cancel]
    rw [Nat.mul_comm]; exact this
theorem pot_pos (n : Nat) : ∀ (hs : List Bool) (o i : Nat), o + hs.length ≤ n → hs.getD i false = true → 1 ≤ o + i → 1 ≤ wsum n hs o
  | [], o, i, _, h, _ => by simp at h
  | b :: r, o, 0, hl, h, h1 => by
    have hb : b = true := by simpa using h
    simp only [List.length_cons] at hl
    have := (wsum_bound n r (o + 1) (by omega)).1
    subst hb
    have hw : wt n o = (n : Int) - o := by unfold wt; rw [if_neg (by omega)]
    simp only [wsum, bit, if_true, hw]; omega
  | b :: r, o, i + 1, hl, h, h1 => by
    simp only [List.length_cons] at hl
    have ih := pot_pos n r (o + 1) i (by omega) (by simpa using h) (by omega)
    have hw := wt_bound n o (by omega)
    have : 0 ≤ bit b * wt n o := by cases b <;> simp [bit]; exact hw.1
    simp only [wsum]; omega

/-- K9's invariant: S moves since the last fault. -/
def Jv (k : Int) (xs : List Int) (S : Nat) : Prop :=
  cnt (hots xs) = 1 ∨ ∃ d, d < xs.length ∧ Fr k xs d ∧ 2 * ((S : Int) + wsum xs.length (hots xs) 0) ≤ ((xs.length * (xs.length - 1) + 2 * ((xs.length - 1 - d) * xs.length) : Nat) : Int)
theorem Jv.start {k : Int} {xs : List Int} (o : Ok k xs) : Jv k xs 0 := by
  obtain ⟨d, hd, hf⟩ := fresh o
  have n2 := o.n2
  have t := pot_tri (hots xs) (by rw [hots_length]; omega) (by rw [hots_length]; exact o.n6)
  rw [hots_length] at t
  exact .inr ⟨d, hd, hf, by omega⟩
theorem Jv.less {k : Int} {xs : List Int} {S T : Nat} (h : Jv k xs T) (hS : S ≤ T) : Jv k xs S := by
  rcases h with h | ⟨d, hd, hf, hs⟩
  · exact .inl h
  · exact .inr ⟨d, hd, hf, by omega⟩
theorem Jv.move {k : Int} {xs : List Int} {S : Nat} (h : Jv k xs S) (o : Ok k xs) {v : Nat} (hv : v < xs.length) (hp : priv xs v = true) : Jv k (moveX k xs v) (S + 1) := by
  rcases h with h | ⟨d, hd, hf, hs⟩
  · exact .inl (move_one o hv hp h)
  · have hl := move_len o hv
    obtain ⟨p1, p2⟩ := move_pot o hv hp
    have n2 := o.n2
    by_cases h0 : v = 0
    · by_cases hd0 : d = 0
      · subst h0; subst hd0
        refine .inl (move_one o hv hp (alike_one xs n2 ?_))
        unfold Fr at hf
        rw [if_pos rfl] at hf
        unfold priv at hp
        rw [if_pos rfl, decide_eq_true_eq] at hp
        exact fun i hi => same_down xs (xs.getD 0 0) (xs.length - 1) (by omega) hp.symm hf i (by omega)
      · subst h0
        refine .inr ⟨d - 1, by rw [hl]; omega, Fr_zero o hd hd0 hf, ?_⟩
        rw [hl]
        have e : (xs.length - 1 - (d - 1)) * xs.length = (xs.length - 1 - d) * xs.length + xs.length := by
          rw [show xs.length - 1 - (d - 1) = xs.length - 1 - d + 1 by omega, Nat.add_mul, Nat.one_mul]
        rw [e]; omega
    · refine .inr ⟨d, by rw [hl]; exact hd, Fr_right o hv h0 hd hf, ?_⟩
      rw [hl]
      have := p1 h0
      omega
/-- P5 -/
theorem Jv.done {k : Int} {xs : List Int} {S : Nat} (h : Jv k xs S) (o : Ok k xs) (hS : 3 * xs.length * (xs.length - 1) / 2 ≤ S) : cnt (hots xs) = 1 := by
  rcases h with h | ⟨d, hd, hf, hs⟩
  · exact h
  · have n2 := o.n2
    have n6 := o.n6
    have hP := P1 xs n2
    by_cases h1 : cnt (hots xs) = 1
    · exact h1
    · exfalso
      have c : cnt ((hots xs).set 0 false) = cnt (hots xs) + (bit false - bit (priv xs 0)) := by
        rw [cnt_set _ _ _ (by rw [hots_length]; omega), getD_of, hots_getD' _ _ (by omega)]
      have b := bit_bound (priv xs 0)
      have b0 : bit false = 0 := rfl
      obtain ⟨i, hi, ht⟩ := cnt_some _ (show 1 ≤ cnt ((hots xs).set 0 false) by omega)
      rw [List.length_set, hots_length] at hi
      have hi0 : i ≠ 0 := by
        intro h0
        subst h0
        rw [getB_set_eq] at ht; exact absurd ht (by simp)
      rw [getB_set_ne _ _ _ _ (Ne.symm hi0)] at ht
      have pp := pot_pos xs.length (hots xs) 0 i (by rw [hots_length]; omega) ht (by omega)
      generalize wsum xs.length (hots xs) 0 = Q at *
      generalize xs.length = n at *
      obtain rfl | rfl | rfl | rfl | rfl : n = 2 ∨ n = 3 ∨ n = 4 ∨ n = 5 ∨ n = 6 := by omega
      all_goals omega
end Go.Proofs.Qxb6500363a
