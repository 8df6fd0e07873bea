/-
  WHAT THE RING IS FOR: P1 .. P5, plainly; the convergence in 3n(n-1)/2 moves.
-/
import Derived.Test.Qxb6500363aKSmall
namespace Go.Proofs.Qxb6500363a
open Go.RowKit Go.Qx
set_option linter.unusedVariables false
set_option linter.unusedSimpArgs false

theorem hots_getD' (xs : List Int) (i : Nat) (hi : i < xs.length) : (hots xs).getD i false = priv xs i := by rw [List.getD_eq_getElem?_getD, hots_get _ _ hi]; rfl
theorem cnt_pos : ∀ (hs : List Bool) (i : Nat), hs.getD i false = true → 1 ≤ cnt hs
  | [], i, h => by simp at h
  | b :: r, 0, h => by
    have hb : b = true := by simpa using h
    have := (cnt_bound r).1
    subst hb; simp [cnt, bit]; omega
  | b :: r, i + 1, h => by
    have := cnt_pos r i (by simpa using h)
    have := bit_bound b
    simp only [cnt]; omega
theorem cnt_zero (hs : List Bool) (h : cnt hs = 0) (i : Nat) : hs.getD i false = false := by
  cases hb : hs.getD i false
  · rfl
  · have := cnt_pos hs i hb; omega
theorem cnt_some : ∀ (hs : List Bool), 1 ≤ cnt hs → ∃ i, i < hs.length ∧ hs.getD i false = true
  | [], h => by simp [cnt] at h
  | b :: r, h => by
    cases b
    · obtain ⟨i, h1, h2⟩ := cnt_some r (by simpa [cnt, bit] using h)
      exact ⟨i + 1, by simpa using h1, by simpa using h2⟩
    · exact ⟨0, by simp, by simp⟩
theorem getD_of {hs : List Bool} {i : Nat} (hi : i < hs.length) : hs[i] = hs.getD i false := by simp [List.getD_eq_getElem?_getD, hi]
/-- One alone: the others are not. -/
theorem cnt_one (hs : List Bool) (v : Nat) (hv : v < hs.length) (hp : hs.getD v false = true) (h1 : cnt hs = 1) (i : Nat) (hi : i ≠ v) : hs.getD i false = false := by
  have e := cnt_set hs v false hv
  rw [getD_of hv, hp, h1] at e
  have z := cnt_zero (hs.set v false) (by rw [e]; rfl) i
  rwa [List.getD_eq_getElem?_getD, List.getElem?_set_ne (Ne.symm hi), ← List.getD_eq_getElem?_getD] at z

/-- All alike: machine 0 alone. -/
theorem same_down (xs : List Int) (c : Int) : ∀ i, i < xs.length → xs.getD i 0 = c → (∀ j, j + 1 < xs.length → xs.getD (j + 1) 0 = c → xs.getD j 0 = c) → ∀ j, j ≤ i → xs.getD j 0 = c
  | 0, hi, h, hd, j, hj => by
    have e : j = 0 := by omega
    rw [e]; exact h
  | i + 1, hi, h, hd, j, hj => by
    by_cases e : j = i + 1
    · subst e; exact h
    · exact same_down xs c i (by omega) (hd i hi h) hd j (by omega)
theorem P1 (xs : List Int) (h2 : 2 ≤ xs.length) : 1 ≤ cnt (hots xs) := by
  have nn := (cnt_bound (hots xs)).1
  by_cases h : cnt (hots xs) = 0
  · exfalso
    have hz : ∀ i, i < xs.length → priv xs i = false := fun i hi => by rw [← hots_getD' xs i hi]; exact cnt_zero _ h i
    have hs : ∀ i, i < xs.length → xs.getD i 0 = xs.getD 0 0 := by
      intro i
      induction i with
      | zero => intro _; rfl
      | succ i ih =>
        intro hi
        have := hz (i + 1) hi
        unfold priv at this
        rw [if_neg (by omega), Nat.add_sub_cancel] at this
        have : xs.getD (i + 1) 0 = xs.getD i 0 := by simpa using this
        rw [this]; exact ih (by omega)
    have h0 := hz 0 (by omega)
    unfold priv at h0
    rw [if_pos rfl] at h0
    have : xs.getD 0 0 = xs.getD (xs.length - 1) 0 := (hs _ (by omega)).symm
    simp only [decide_eq_false_iff_not] at h0
    exact h0 this
  · omega
theorem getB_set_ne (hs : List Bool) (i j : Nat) (b : Bool) (h : i ≠ j) : (hs.set i b).getD j false = hs.getD j false := by
  simp [List.getD_eq_getElem?_getD, List.getElem?_set_ne h]
/-- The right neighbour. -/
def nb (n v : Nat) : Nat := if v + 1 = n then 0 else v + 1
theorem nb_mod (n v : Nat) (hv : v < n) : (v + 1) % n = nb n v := by
  unfold nb
  split
  · rename_i h; rw [h, Nat.mod_self]
  · exact Nat.mod_eq_of_lt (by omega)
theorem nb_lt (n v : Nat) (hv : v < n) : nb n v < n := by unfold nb; split <;> omega
theorem nb_ne (n v : Nat) (h2 : 2 ≤ n) (hv : v < n) : nb n v ≠ v := by unfold nb; split <;> omega

section
variable (xs : List Int) (v : Nat) (y : Int) (h2 : 2 ≤ xs.length) (hv : v < xs.length)
include h2 hv
theorem turn_hots : hots (xs.set v y) = ((hots xs).set v (priv (xs.set v y) v)).set (nb xs.length v) (priv (xs.set v y) (nb xs.length v)) := by
  have := hots_mend xs v y h2 hv
  rw [nb_mod _ _ hv] at this
  exact this.symm
theorem turn_else (i : Nat) (h1 : i ≠ v) (h3 : i ≠ nb xs.length v) : (hots (xs.set v y)).getD i false = (hots xs).getD i false := by
  rw [turn_hots xs v y h2 hv, List.getD_eq_getElem?_getD, List.getElem?_set_ne (Ne.symm h3), List.getElem?_set_ne (Ne.symm h1), ← List.getD_eq_getElem?_getD]
theorem turn_cnt : cnt (hots (xs.set v y)) = cnt (hots xs) + (bit (priv (xs.set v y) v) - bit (priv xs v)) + (bit (priv (xs.set v y) (nb xs.length v)) - bit (priv xs (nb xs.length v))) := by
  have hl := hots_length xs
  have hr := nb_lt _ _ hv
  have hn := nb_ne _ _ h2 hv
  rw [turn_hots xs v y h2 hv, cnt_set _ _ _ (by rw [List.length_set, hl]; exact hr), cnt_set _ _ _ (by rw [hl]; exact hv), getD_of, getD_of, getB_set_ne _ _ _ _ (Ne.symm hn), hots_getD' _ _ hv, hots_getD' _ _ hr]
theorem turn_sum : wsum xs.length (hots (xs.set v y)) 0 = wsum xs.length (hots xs) 0 + (bit (priv (xs.set v y) v) - bit (priv xs v)) * wt xs.length v + (bit (priv (xs.set v y) (nb xs.length v)) - bit (priv xs (nb xs.length v))) * wt xs.length (nb xs.length v) := by
  have hl := hots_length xs
  have hr := nb_lt _ _ hv
  have hn := nb_ne _ _ h2 hv
  rw [turn_hots xs v y h2 hv, wsum_set _ _ _ _ _ (by rw [List.length_set, hl]; exact hr), wsum_set _ _ _ _ _ (by rw [hl]; exact hv), getD_of, getD_of, getB_set_ne _ _ _ _ (Ne.symm hn), hots_getD' _ _ hv, hots_getD' _ _ hr, Nat.zero_add, Nat.zero_add]
/-- P2 for a Poke and a Move. -/
theorem turn_may : (mk (hots xs) ^^^ mk (hots (xs.set v y))) ||| (2 ^ v ||| 2 ^ nb xs.length v) = 2 ^ v ||| 2 ^ nb xs.length v := by
  apply Nat.eq_of_testBit_eq
  intro i
  rw [Nat.testBit_or, Nat.testBit_xor, mk_bit, mk_bit, Nat.testBit_or, Nat.testBit_two_pow, Nat.testBit_two_pow]
  by_cases h1 : v = i
  · rw [decide_eq_true h1]; simp
  · by_cases h3 : nb xs.length v = i
    · rw [decide_eq_true h3]; simp
    · rw [turn_else xs v y h2 hv i (Ne.symm h1) (Ne.symm h3)]; simp
end

theorem getD_set_eq (xs : List Int) (i : Nat) (v : Int) (h : i < xs.length) : (xs.set i v).getD i 0 = v := by
  simp [List.getD_eq_getElem?_getD, h]
section
variable {k : Int} {xs : List Int} (o : Ok k xs) {v : Nat} (hv : v < xs.length) (hp : priv xs v = true)
include o hv
theorem move_set : ∃ y, moveX k xs v = xs.set v y ∧ (v = 0 → y = (xs.getD 0 0 + 1) % k) ∧ (v ≠ 0 → y = xs.getD (v - 1) 0) := by
  unfold moveX
  split
  · rename_i h
    have := o.get 0 (by omega)
    subst h
    exact ⟨_, rfl, fun _ => Int.tmod_eq_emod_of_nonneg (by omega), fun h => absurd rfl h⟩
  · rename_i h
    exact ⟨_, rfl, fun e => absurd e h, fun _ => rfl⟩
theorem move_len : (moveX k xs v).length = xs.length := by
  obtain ⟨y, e, _⟩ := move_set o hv
  rw [e, List.length_set]
include hp
/-- P2: the mover's privilege is taken away. -/
theorem move_off : priv (moveX k xs v) v = false := by
  obtain ⟨y, e, h0, h1⟩ := move_set o hv
  have n2 := o.n2
  have kp := o.kpos
  rw [e]
  by_cases hz : v = 0
  · subst hz
    have hy := h0 rfl
    have hx := o.get 0 hv
    unfold priv at hp ⊢
    rw [if_pos rfl, decide_eq_true_eq] at hp
    rw [if_pos rfl, List.length_set, getD_set_eq _ _ _ hv, getD_set_ne _ _ _ _ (by omega), ← hp, decide_eq_false_iff_not, hy]
    intro he
    by_cases hw : xs.getD 0 0 + 1 < k
    · rw [Int.emod_eq_of_lt (by omega) hw] at he; omega
    · rw [show xs.getD 0 0 + 1 = k by omega, Int.emod_self] at he; omega
  · have hy := h1 hz
    unfold priv
    rw [if_neg hz, getD_set_eq _ _ _ hv, getD_set_ne _ _ _ _ (by omega), hy]
    simp
/-- P3 -/
theorem move_cnt : cnt (hots (moveX k xs v)) ≤ cnt (hots xs) := by
  have ho := move_off o hv hp
  obtain ⟨y, e, _⟩ := move_set o hv
  rw [e] at ho ⊢
  rw [turn_cnt xs v y o.n2 hv, ho, hp]
  have a := bit_bound (priv (xs.set v y) (nb xs.length v))
  have b := bit_bound (priv xs (nb xs.length v))
  have c : bit false = 0 := rfl
  have d : bit true = 1 := rfl
  omega
theorem move_one (h1 : cnt (hots xs) = 1) : cnt (hots (moveX k xs v)) = 1 := by
  have a := move_cnt o hv hp
  have b := P1 (moveX k xs v) (by rw [move_len o hv]; exact o.n2)
  omega
theorem move_pass (h1 : cnt (hots xs) = 1) : mk (hots (moveX k xs v)) = 2 ^ nb xs.length v := by
  have ho := move_off o hv hp
  have hP := P1 (moveX k xs v) (by rw [move_len o hv]; exact o.n2)
  have hl := move_len o hv
  obtain ⟨y, e, _⟩ := move_set o hv
  rw [e] at ho hP hl ⊢
  have hf : ∀ i, i ≠ nb xs.length v → (hots (xs.set v y)).getD i false = false := by
    intro i hi
    by_cases hiv : i = v
    · subst hiv
      rw [hots_getD' _ _ (by rw [List.length_set]; exact hv)]; exact ho
    · rw [turn_else xs v y o.n2 hv i hiv hi]
      exact cnt_one (hots xs) v (by rw [hots_length]; exact hv) (by rw [hots_getD' _ _ hv]; exact hp) h1 i hiv
  obtain ⟨i, hi, ht⟩ := cnt_some _ hP
  have hin : i = nb xs.length v := by
    by_cases h : i = nb xs.length v
    · exact h
    · rw [hf i h] at ht; exact absurd ht (by simp)
  rw [hin] at ht
  apply Nat.eq_of_testBit_eq
  intro j
  rw [mk_bit, Nat.testBit_two_pow]
  by_cases hj : nb xs.length v = j
  · rw [decide_eq_true hj, ← hj]; exact ht
  · rw [decide_eq_false hj]; exact hf j (Ne.symm hj)
/-- P4 -/
theorem move_pot : (v ≠ 0 → wsum xs.length (hots (moveX k xs v)) 0 ≤ wsum xs.length (hots xs) 0 - 1) ∧ wsum xs.length (hots (moveX k xs v)) 0 ≤ wsum xs.length (hots xs) 0 + xs.length - 1 := by
  have ho := move_off o hv hp
  have n2 := o.n2
  obtain ⟨y, e, _⟩ := move_set o hv
  rw [e] at ho ⊢
  rw [turn_sum xs v y o.n2 hv, ho, hp]
  have b := bit_bound (priv xs (nb xs.length v))
  have c : bit false = 0 := rfl
  have d : bit true = 1 := rfl
  have wr := wt_bound xs.length (nb xs.length v) (Nat.le_of_lt (nb_lt _ _ hv))
  have hm : (bit (priv (xs.set v y) (nb xs.length v)) - bit (priv xs (nb xs.length v))) * wt xs.length (nb xs.length v) ≤ wt xs.length (nb xs.length v) := by
    cases priv (xs.set v y) (nb xs.length v) <;> cases priv xs (nb xs.length v) <;> simp [bit] <;> omega
  have hw : wt xs.length v = if v = 0 then 0 else (xs.length : Int) - v := rfl
  have hn : wt xs.length (nb xs.length v) = if nb xs.length v = 0 then 0 else (xs.length : Int) - (nb xs.length v : Nat) := rfl
  rw [c, d]
  have e1 : ((0 : Int) - 1) * wt xs.length v = - wt xs.length v := by omega
  rw [e1]
  unfold nb at *
  by_cases hz : v = 0
  · rw [if_pos hz] at hw
    refine ⟨fun h => absurd hz h, ?_⟩
    split at hn <;> split at hm <;> split <;> simp_all <;> omega
  · rw [if_neg hz] at hw
    split at hn <;> split at hm <;> split <;> simp_all <;> omega
end
end Go.Proofs.Qxb6500363a
