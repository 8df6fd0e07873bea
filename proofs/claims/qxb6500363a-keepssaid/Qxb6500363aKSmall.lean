/-
  state, owed, eyes, kicked, spelt.
-/
import Derived.Test.Qxb6500363aKSums
import Derived.Test.Qxb6500363aPlay
namespace Go.Proofs.Qxb6500363a
open Go.RowKit Go.Qx
set_option linter.unusedVariables false
set_option linter.unusedSimpArgs false

theorem state_any (w : World) (r a b : Nat) (k : Int) (xs : List Int) (R : RepR w r a b k xs (hots xs)) (o : Ok k xs) (h1 : 1 ≤ cnt (hots xs)) :
    Calls Try.prog 12 #[ptr r, .int .i64 xs.length, .int .i64 (cnt (hots xs)), .int .i64 (wsum xs.length (hots xs) 0)] w fun e w' => e = .returned (.bool true) ∧ Quiet w w' := by
  have ht := hide (tokR_any w r a b k xs _ R)
  have hp := hide (potR_any w r a b k xs _ R)
  have hl := privR_any w r a b k xs R (-1)
  have hh := privR_any w r a b k xs R (xs.length)
  have e1 : privI xs (-1) = 0 := by unfold privI; rw [if_neg (by omega)]
  have e2 : privI xs xs.length = 0 := by unfold privI; rw [if_neg (by omega)]
  rw [e1] at hl
  rw [e2] at hh
  have hc := hide (checkR_any w r a b k xs R o)
  replace hl := hide hl
  replace hh := hide hh
  clear e1 e2 R o
  unfold ptr at *
  generalize cnt (hots xs) = T at *
  generalize wsum xs.length (hots xs) 0 = Q at *
  generalize xs.length = n at *
  go_enter Try.func12, Try.ntmps12
  go_wp2_with fail
  refine (unhide ht).mono ?_
  rintro e w1 ⟨rfl, rfl⟩
  go_wp2_with fail
  refine (unhide hp).mono ?_
  rintro e w1 ⟨rfl, rfl⟩
  go_wp2_with fail
  refine (unhide hl).mono ?_
  rintro e w1 ⟨rfl, rfl⟩
  go_wp2_with fail
  refine (unhide hh).mono ?_
  rintro e w1 ⟨rfl, rfl⟩
  go_wp2_with fail
  refine (unhide hc).mono ?_
  rintro e w2 ⟨rfl, q2⟩
  go_wp2
  go_ret
  exact ⟨rfl, q2⟩

/-! ### spelt -/
set_option maxHeartbeats 1000000 in
theorem spelt_any (w : World) (g n cap : Nat) (k : Int) (xs : List Int) (G : Gv w g n cap xs) (o : Ok k xs) :
    Calls Try.prog 21 #[.int .i64 k, .int .i64 (cnt (hots xs)), .int .i64 (wsum xs.length (hots xs) 0), .slice (some ⟨g, 0, none⟩) n cap, .int .i64 (mk (hots xs))] w fun e w' => e = .returned (.string (str (showP k xs))) ∧ Quiet w w' := by
  have n6 := o.n6
  have k8 := o.k8
  have k1 := o.k1
  have bc := cnt_bound (hots xs)
  rw [hots_length] at bc
  have bw := wsum36 xs (hots xs) (hots_length xs) n6
  have hn := G.n.symm
  have hsh : Hid (showTo k xs 0 = headP k (cnt (hots xs)) (wsum xs.length (hots xs) 0)) := rfl
  have hhd := head_any w k (cnt (hots xs)) (wsum xs.length (hots xs) 0) ⟨by omega, by omega⟩ ⟨by omega, by omega⟩ ⟨by omega, by omega⟩
  rw [← unhide hsh] at hhd
  clear hsh
  replace hhd := hide hhd
  have hnH := hide hn
  clear hn
  go_enter Try.func21, Try.ntmps21
  go_wp2_with fail
  refine (unhide hhd).mono ?_
  rintro e w2 ⟨rfl, q2⟩
  clear hhd
  go_wp2
  go_loopw [11, 12] (fun v i wr => ∃ j : Nat, j ≤ n ∧ i = .int .i64 j ∧ v = .string (str (showTo k xs j)) ∧ Quiet w wr) (fun _ i _ => 7 - (intOf i).toNat)
  case atStart => exact ⟨0, Nat.zero_le _, rfl, rfl, q2⟩
  case round =>
    obtain ⟨j, hj, rfl, rfl, qj⟩ := hrel
    have hn := unhide hnH
    have i0 : (0 : Int) ≤ (j : Int) := by omega
    have Gj := G.quiet qj
    by_cases hlt : j < n
    · have i1 : (j : Int) < (n : Int) := by omega
      have hx := Gj.x j (by omega)
      have eh : (hots xs).getD j false = priv xs j := by rw [List.getD_eq_getElem?_getD, hots_get _ _ (by omega)]; rfl
      have eb := mkI_shr (hots xs) (by rw [hots_length]; omega) j
      rw [eh] at eb
      clear eh
      have hv := o.get j (by omega)
      have hsl := showTo_length k xs j
      have hss := hide (showTo_succ k xs j)
      have hjH : j ≤ 6 := by omega
      clear bw bc o hn
      generalize xs.getD j 0 = xv at *
      generalize priv xs j = pv at *
      have hcl := fun W => cell_any W (showTo k xs j) xv pv (by omega) ⟨by omega, by omega⟩
      generalize showTo k xs j = S at *
      generalize mk (hots xs) = M at *
      go_wp2_with fail
      refine (hcl _).mono ?_
      rintro e w4 ⟨rfl, q4⟩
      go_wp2
      go_roundw
      case rel => exact ⟨j + 1, by omega, by go_num, by rw [unhide hss], Quiet.trans qj q4⟩
      case measure => simp [intOf]; omega
    · have i1 : ¬ (j : Int) < (n : Int) := by omega
      have hjn : Hid (j = xs.length) := by show _ = _; omega
      clear hn
      go_wp2
      go_ret
      refine ⟨?_, qj⟩
      unfold showP
      rw [← unhide hjn]
      rfl

/-! ### kicked -/
theorem kick_law : ∀ (hs : List Bool) (i : Nat) (j : Int), 0 ≤ j → j < cnt hs → ∃ v : Nat, v < hs.length ∧ kickAt hs i j = ((i + v : Nat) : Int) ∧ hs.getD v false = true ∧ cnt (hs.take v) = j
  | [], i, j, h0, h1 => by simp [cnt] at h1; omega
  | h :: r, i, j, h0, h1 => by
    cases h
    · have e : cnt (false :: r) = cnt r := by simp [cnt, bit]
      rw [e] at h1
      obtain ⟨v, h2, h3, h4, h5⟩ := kick_law r (i + 1) j h0 h1
      refine ⟨v + 1, by simpa using h2, ?_, by simpa using h4, ?_⟩
      · show (if false = true then _ else kickAt r (i + 1) j) = _
        rw [if_neg (by simp), h3]; congr 1; omega
      · rw [List.take_succ_cons]; simpa [cnt, bit] using h5
    · have e : cnt (true :: r) = 1 + cnt r := by simp [cnt, bit]
      rw [e] at h1
      by_cases hj : j = 0
      · subst hj
        refine ⟨0, by simp, ?_, by simp, by simp [cnt]⟩
        simp [kickAt]
      · obtain ⟨v, h2, h3, h4, h5⟩ := kick_law r (i + 1) (j - 1) (by omega) (by omega)
        refine ⟨v + 1, by simpa using h2, ?_, by simpa using h4, ?_⟩
        · show (if true = true then (if j = 0 then (i : Int) else kickAt r (i + 1) (j - 1)) else _) = _
          rw [if_pos rfl, if_neg hj, h3]; congr 1; omega
        · rw [List.take_succ_cons]; simp only [cnt, h5, bit, if_true]; omega
theorem norm_in (c t : Int) (ht : 1 ≤ t) : 0 ≤ normP c t ∧ normP c t < t := by
  have h2 := Int.tmod_lt_of_pos c (show 0 < t by omega)
  have h3 := Int.lt_tmod_of_pos c (show 0 < t by omega)
  unfold normP
  rw [if_neg (by omega)]
  split <;> omega
theorem kickE_law (k : Int) (xs : List Int) (c : Int) (h1 : 1 ≤ cnt (hots xs)) : ∃ v : Nat, v < xs.length ∧ kickE k xs c = ((v : Int), moveX k xs v) ∧ priv xs v = true ∧ cnt ((hots xs).take v) = normP c (cnt (hots xs)) := by
  obtain ⟨n1, n2⟩ := norm_in c _ h1
  obtain ⟨v, g1, g2, g3, g4⟩ := kick_law (hots xs) 0 _ n1 n2
  rw [hots_length] at g1
  refine ⟨v, g1, ?_, ?_, g4⟩
  · unfold kickE
    rw [g2, if_neg (by omega), Nat.zero_add, Int.toNat_natCast]
  · rw [List.getD_eq_getElem?_getD, hots_get _ _ g1] at g3
    simpa using g3
theorem and_low (hs : List Bool) (h6 : hs.length ≤ 6) (v : Nat) (hv : v < hs.length) : bits BinOp.and IntKind.i64 (mk hs : Int) (2 ^ v - 1) = (mk (hs.take v ++ List.replicate (hs.length - v) false) : Nat) := by
  have h1 := mk_lt64 hs h6
  have h2 := pow_small v (by omega)
  have e : ((2 ^ v - 1 : Nat) : Int) = 2 ^ v - 1 := by
    have : 0 < 2 ^ v := Nat.pow_pos (by decide)
    rw [Int.ofNat_sub (by omega), Int.natCast_pow]; rfl
  rw [← e, bits_and_nat _ _ (by omega) (by omega)]
  congr 1
  apply Nat.eq_of_testBit_eq
  intro i
  rw [Nat.testBit_and, mk_bit, mk_bit, Nat.testBit_two_pow_sub_one, List.getD_eq_getElem?_getD, List.getD_eq_getElem?_getD]
  have hl : (hs.take v).length = v := by rw [List.length_take]; omega
  by_cases hi : i < v
  · rw [decide_eq_true hi, Bool.and_true, List.getElem?_append_left (by omega), List.getElem?_take_of_lt hi]
  · rw [decide_eq_false hi, Bool.and_false, List.getElem?_append_right (by omega), List.getElem?_replicate]
    split <;> rfl
theorem cnt_low (hs : List Bool) : ∀ m, cnt (hs ++ List.replicate m false) = cnt hs
  | 0 => by simp
  | m + 1 => by
    rw [List.replicate_succ', ← List.append_assoc, cnt_snoc, cnt_low hs m]; simp [bit]
theorem one_wrap (j : Nat) (hj : j ≤ 6) : IntKind.i64.wrap (2 ^ j) = 2 ^ j := by
  have ps := pow_small j hj
  rw [IntKind.wrap_i64]; omega

set_option maxHeartbeats 1000000 in
theorem kicked_any (w : World) (hs : List Bool) (h2 : 2 ≤ hs.length) (h6 : hs.length ≤ 6) (c : Int) (hc : In64 c) (v : Nat) (hv : v < hs.length) (hp : hs.getD v false = true) (ht : 1 ≤ cnt hs) (hj : cnt (hs.take v) = normP c (cnt hs)) :
    Calls Try.prog 17 #[.int .i64 c, .int .i64 v, .int .i64 hs.length, .int .i64 (mk hs), .int .i64 (cnt hs)] w fun e w' => e = .returned (.bool true) ∧ w' = w := by
  have eb := mkI_shr hs h6 v
  rw [hp] at eb
  have eb' : bit true = 1 := rfl
  rw [eb'] at eb
  clear eb'
  have el := and_low hs h6 v hv
  have ow := one_wrap v (by omega)
  have ps := pow_small v (by omega)
  have hl : (hs.take v ++ List.replicate (hs.length - v) false).length = hs.length := by simp; omega
  have hS := sums_any w (hs.take v ++ List.replicate (hs.length - v) false) (by rw [hl]; exact h2) (by rw [hl]; exact h6)
  rw [hl, cnt_low, hj] at hS
  generalize wsum hs.length (hs.take v ++ List.replicate (hs.length - v) false) 0 = Q at *
  generalize mk (hs.take v ++ List.replicate (hs.length - v) false) = M1 at *
  replace hS := hide hS
  have bc := cnt_bound hs
  obtain ⟨c1, c2⟩ := hc
  have i0 : (0 : Int) ≤ (v : Int) := by omega
  have i1 : (v : Int) < (hs.length : Int) := by omega
  have nm : Hid (normP c (cnt hs) = if c.tmod (cnt hs) < 0 then c.tmod (cnt hs) + cnt hs else c.tmod (cnt hs)) := by
    show _ = _
    unfold normP; rw [if_neg (by omega)]
  rw [unhide nm] at hS
  have h3 := Int.tmod_lt_of_pos c (show 0 < cnt hs by omega)
  have h4 := Int.lt_tmod_of_pos c (show 0 < cnt hs by omega)
  generalize cnt hs = T at *
  generalize mk hs = M at *
  have hT : T ≤ 6 := by omega
  clear hj hp nm hl
  generalize hs.length = n at *
  have t0 : T ≠ 0 := by omega
  have t1 : T ≠ -1 := by omega
  have tw : IntKind.i64.wrap (c.tmod T) = c.tmod T := by rw [IntKind.wrap_i64]; omega
  by_cases hneg : c.tmod T < 0
  · have tw2 : IntKind.i64.wrap (c.tmod T + T) = c.tmod T + T := by rw [IntKind.wrap_i64]; omega
    rw [if_pos hneg] at hS
    go_enter Try.func17, Try.ntmps17
    go_wp2_with fail
    refine (unhide hS).mono ?_
    rintro e w1 ⟨rfl, rfl⟩
    go_wp2
    go_ret
    exact ⟨rfl, rfl⟩
  · rw [if_neg hneg] at hS
    go_enter Try.func17, Try.ntmps17
    go_wp2_with fail
    refine (unhide hS).mono ?_
    rintro e w1 ⟨rfl, rfl⟩
    go_wp2
    go_ret
    exact ⟨rfl, rfl⟩
end Go.Proofs.Qxb6500363a
