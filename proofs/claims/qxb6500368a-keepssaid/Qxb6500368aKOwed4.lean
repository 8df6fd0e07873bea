/-
  KEEPS: Owed: the Errno and the Spent that are owed, kind by kind. (gen8kowed.py)
-/
import Derived.Test.Qxb6500368aKOwed3
namespace Go.Proofs.Qxb6500368a
open Go.RowKit Go.Qx
set_option linter.unusedVariables false
set_option linter.unusedSimpArgs false


set_option maxRecDepth 100000 in
set_option maxHeartbeats 8000000 in
theorem owed_conv (w : World) (R : Nat → ByteArray) (wk : Nat) (ka kb kc l lb lc : Nat) (s t : ByteArray) (ha : ka < 3) (hb : kb < 3) (hc3 : kc < 3) (hl : l ≤ 16) (hsize : (R ka).size = 4 * l) (hsb : (R kb).size = 4 * lb) (hsc : (R kc).size = 4 * lc) (hz : ¬ lb = 0) (hz2 : ¬ lc = 0) (L : Nat) (hLb : lb ≤ 16) (hLc : lc ≤ 16) (hL : lb + lc = L + 1) (h16 : ¬ 16 < L) :
    Calls Try.prog 25 #[.agg #[.string (R 0), .string (R 1), .string (R 2), .int .i64 (wk : Int)], .agg #[.int .i64 5, .int .i64 (ka : Int), .int .i64 (kb : Int), .int .i64 (kc : Int), .string s, .string t]] w (owedPost w 0 ((3 * (ceilP L * (2 ^ ceilP L / 2)) + 2 * 2 ^ ceilP L : Nat) : Int)) := by
  have hzb := str_ne hsb hz
  have hzc := str_ne hsc hz2
  have g16 : ¬ (16 : Int) < (L : Int) := by omega
  have hL16 : Hid (L ≤ 16) := by show _ ≤ _; omega
  have hrs : (regP (ka : Int) && regP (kb : Int) && regP (kc : Int)) = true := by unfold regP; simp; omega
  have hcs := hide (fun W => regs_any W (ka : Int) (kb : Int) (kc : Int))
  rw [hrs] at hcs
  clear hrs
  have b0 : (0 : Int) ≤ (kb : Int) := by omega
  have b3 : (kb : Int) < 3 := by omega
  have c0 : (0 : Int) ≤ (kc : Int) := by omega
  have c3 : (kc : Int) < 3 := by omega
  have eS : ((4 * lb : Nat) : Int) + ((4 * lc : Nat) : Int) = ((4 * (lb + lc) : Nat) : Int) := by omega
  have e4b : ((4 * (lb + lc) : Nat) : Int).tdiv 4 = ((lb + lc : Nat) : Int) := by rw [Int.tdiv_eq_ediv_of_nonneg (by omega)]; omega
  have eM : ((lb + lc : Nat) : Int) - 1 = (L : Int) := by omega
  have s1 : 4 * (lb + lc) < 1073741824 := by omega
  have s2 : lb + lc < 1073741824 := by omega
  have s3 : L < 1073741824 := by omega
  have hsz := hsize
  have a0 : (0 : Int) ≤ (ka : Int) := by omega
  have a3 : (ka : Int) < 3 := by omega
  have sl : l < 1073741824 := by omega
  have hreg : regP (ka : Int) = true := by unfold regP; simp; omega
  have e4 : ((4 * l : Nat) : Int).tdiv 4 = (l : Int) := by rw [Int.tdiv_eq_ediv_of_nonneg (by omega)]; omega
  have wl : wrap64 (l : Int) = (l : Int) := wrap_small l sl
  have hlog := hide (fun W => log_any W l hl)
  have hc := hide (fun W => reg_any W (ka : Int))
  rw [hreg] at hc
  clear sl
  have wS : wrap64 ((4 * (lb + lc) : Nat) : Int) = ((4 * (lb + lc) : Nat) : Int) := wrap_small _ s1
  have wD : wrap64 ((lb + lc : Nat) : Int) = ((lb + lc : Nat) : Int) := wrap_small _ s2
  have wM : wrap64 (L : Int) = (L : Int) := wrap_small _ s3
  have wS2 := i64_wrap wS
  have wD2 := i64_wrap wD
  have wM2 := i64_wrap wM
  clear s1 s2 s3
  obtain ⟨W0, hW0⟩ : ∃ W0, ((w.alloc (.cells #[.string (R 0), .string (R 1), .string (R 2), .int .i64 (wk : Int)] 29)).alloc (.cells #[.int .i64 5, .int .i64 (ka : Int), .int .i64 (kb : Int), .int .i64 (kc : Int), .string s, .string t] 31)) = W0 := ⟨_, rfl⟩
  obtain ⟨Q0, TB, OB⟩ := owed_w0 w R wk 5 (ka : Int) (kb : Int) (kc : Int) s t W0 hW0
  have QH := hide Q0
  have TBH := hide TB
  have OBH := hide OB
  clear Q0 TB OB
  have o0 := (unhide OBH).cell 0
  have o1 := (unhide OBH).cell 1
  have o2 := (unhide OBH).cell 2
  have o3 := (unhide OBH).cell 3
  have o4 := (unhide OBH).cell 4
  have t3 := (unhide TBH).cell 3
  simp [imgC] at o0 o1 o2 o3 o4 t3
  have ra := (unhide TBH).cell ka
  rw [imgC_get _ _ ka ha] at ra
  have rb := (unhide TBH).cell kb
  rw [imgC_get _ _ kb hb] at rb
  have rc := (unhide TBH).cell kc
  rw [imgC_get _ _ kc hc3] at rc
  clear ha hb hc3 hl hreg hsize
  generalize R ka = RK at *
  generalize R kb = RB at *
  generalize R kc = RC at *
  unfold owedPost
  go_enter Try.func25, Try.ntmps25
  generalize log2P l = LL at *
  generalize 4 * (lb + lc) = S4 at *
  generalize 4 * lb = B4 at *
  generalize 4 * lc = C4 at *
  generalize lb + lc = SS at *
  clear hz hz2 hLb hLc hL
  go_wp2_with fail
  refine (unhide hc _).mono ?_
  rintro e w' ⟨rfl, hw'⟩
  subst hw'
  go_wp2_with fail
  refine (unhide hlog _).mono ?_
  rintro e w' ⟨rfl, hw'⟩
  subst hw'
  by_cases hLL : LL < 0
  · go_wp2_with fail
    refine (unhide hcs _).mono ?_
    rintro e w' ⟨rfl, hw'⟩
    subst hw'
    have g16H := hide g16
    clear g16 h16
    go_wp2
    go_quiet (fail)
    have g16 := unhide g16H
    have QH2 : Hid (Quiet w (w'.drewN nq)) := (unhide QH).drewN nq
    clear hW0 QH TBH OBH o0 o1 o2 o3 o4 t3 ra rb rc hsz e4 wl e4b eM eS wS wD wM wS2 wD2 wM2 hzb hzc hcs hc hlog g16H a0 a3 b0 b3 c0 c3
    generalize w'.drewN nq = W5 at *
    go_wp2
    clear g16
    go_loopw [10, 8] (fun x y wr => ∃ k : Nat, k ≤ 4 ∧ k ≤ ceilP L ∧ x = .int .i64 ((2 ^ k : Nat) : Int) ∧ y = .int .i64 k ∧ wr = W5) (fun _ y _ => 5 - (intOf y).toNat)
    case atStart => exact ⟨0, by omega, by omega, rfl, rfl, rfl⟩
    case round =>
      obtain ⟨k, hk, hkc, rfl, rfl, hw⟩ := hrel
      subst hw
      have hcl := ceil_lt L k
      rcases (by omega : k = 0 ∨ k = 1 ∨ k = 2 ∨ k = 3 ∨ k = 4) with rfl | rfl | rfl | rfl | rfl
      · by_cases h1 : 1 < L
        · have h2 : 0 < ceilP L := hcl.2 ⟨by decide, h1⟩
          have a2 : (1 : Int) < (L : Int) := by omega
          clear hcl
          simp only [show ((2 ^ 0 : Nat) : Int) = 1 from rfl, show ((0 : Nat) : Int) = 0 from rfl]
          go_wp2
          go_roundw
          case rel => exact ⟨1, by omega, by omega, rfl, rfl, by trivial⟩
          case measure => simp [intOf]
        · have h2 : ¬ 0 < ceilP L := fun h => h1 (hcl.1 h).2
          have h3 : ceilP L = 0 := by omega
          have a2 : ¬ (1 : Int) < (L : Int) := by omega
          have h3H := hide h3
          clear hcl hkc h2 h3
          simp only [show ((2 ^ 0 : Nat) : Int) = 1 from rfl, show ((0 : Nat) : Int) = 0 from rfl]
          go_wp2
          go_ret2
          exact ⟨by rw [unhide h3H]; rfl, unhide QH2⟩
      · by_cases h1 : 2 < L
        · have h2 : 1 < ceilP L := hcl.2 ⟨by decide, h1⟩
          have a2 : (2 : Int) < (L : Int) := by omega
          clear hcl
          simp only [show ((2 ^ 1 : Nat) : Int) = 2 from rfl, show ((1 : Nat) : Int) = 1 from rfl]
          go_wp2
          go_roundw
          case rel => exact ⟨2, by omega, by omega, rfl, rfl, by trivial⟩
          case measure => simp [intOf]
        · have h2 : ¬ 1 < ceilP L := fun h => h1 (hcl.1 h).2
          have h3 : ceilP L = 1 := by omega
          have a2 : ¬ (2 : Int) < (L : Int) := by omega
          have h3H := hide h3
          clear hcl hkc h2 h3
          simp only [show ((2 ^ 1 : Nat) : Int) = 2 from rfl, show ((1 : Nat) : Int) = 1 from rfl]
          go_wp2
          go_ret2
          exact ⟨by rw [unhide h3H]; rfl, unhide QH2⟩
      · by_cases h1 : 4 < L
        · have h2 : 2 < ceilP L := hcl.2 ⟨by decide, h1⟩
          have a2 : (4 : Int) < (L : Int) := by omega
          clear hcl
          simp only [show ((2 ^ 2 : Nat) : Int) = 4 from rfl, show ((2 : Nat) : Int) = 2 from rfl]
          go_wp2
          go_roundw
          case rel => exact ⟨3, by omega, by omega, rfl, rfl, by trivial⟩
          case measure => simp [intOf]
        · have h2 : ¬ 2 < ceilP L := fun h => h1 (hcl.1 h).2
          have h3 : ceilP L = 2 := by omega
          have a2 : ¬ (4 : Int) < (L : Int) := by omega
          have h3H := hide h3
          clear hcl hkc h2 h3
          simp only [show ((2 ^ 2 : Nat) : Int) = 4 from rfl, show ((2 : Nat) : Int) = 2 from rfl]
          go_wp2
          go_ret2
          exact ⟨by rw [unhide h3H]; rfl, unhide QH2⟩
      · by_cases h1 : 8 < L
        · have h2 : 3 < ceilP L := hcl.2 ⟨by decide, h1⟩
          have a2 : (8 : Int) < (L : Int) := by omega
          clear hcl
          simp only [show ((2 ^ 3 : Nat) : Int) = 8 from rfl, show ((3 : Nat) : Int) = 3 from rfl]
          go_wp2
          go_roundw
          case rel => exact ⟨4, by omega, by omega, rfl, rfl, by trivial⟩
          case measure => simp [intOf]
        · have h2 : ¬ 3 < ceilP L := fun h => h1 (hcl.1 h).2
          have h3 : ceilP L = 3 := by omega
          have a2 : ¬ (8 : Int) < (L : Int) := by omega
          have h3H := hide h3
          clear hcl hkc h2 h3
          simp only [show ((2 ^ 3 : Nat) : Int) = 8 from rfl, show ((3 : Nat) : Int) = 3 from rfl]
          go_wp2
          go_ret2
          exact ⟨by rw [unhide h3H]; rfl, unhide QH2⟩
      · have h3 : ceilP L = 4 := by have := ceil_le L; omega
        have a2 : ¬ (16 : Int) < (L : Int) := by have := unhide hL16; omega
        have h3H := hide h3
        clear hcl hkc h3
        simp only [show ((2 ^ 4 : Nat) : Int) = 16 from rfl, show ((4 : Nat) : Int) = 4 from rfl]
        go_wp2
        go_ret2
        exact ⟨by rw [unhide h3H]; rfl, unhide QH2⟩
  · go_wp2_with fail
    refine (unhide hcs _).mono ?_
    rintro e w' ⟨rfl, hw'⟩
    subst hw'
    have g16H := hide g16
    clear g16 h16
    go_wp2
    go_quiet (fail)
    have g16 := unhide g16H
    have QH2 : Hid (Quiet w (w'.drewN nq)) := (unhide QH).drewN nq
    clear hW0 QH TBH OBH o0 o1 o2 o3 o4 t3 ra rb rc hsz e4 wl e4b eM eS wS wD wM wS2 wD2 wM2 hzb hzc hcs hc hlog g16H a0 a3 b0 b3 c0 c3
    generalize w'.drewN nq = W5 at *
    go_wp2
    clear g16
    go_loopw [10, 8] (fun x y wr => ∃ k : Nat, k ≤ 4 ∧ k ≤ ceilP L ∧ x = .int .i64 ((2 ^ k : Nat) : Int) ∧ y = .int .i64 k ∧ wr = W5) (fun _ y _ => 5 - (intOf y).toNat)
    case atStart => exact ⟨0, by omega, by omega, rfl, rfl, rfl⟩
    case round =>
      obtain ⟨k, hk, hkc, rfl, rfl, hw⟩ := hrel
      subst hw
      have hcl := ceil_lt L k
      rcases (by omega : k = 0 ∨ k = 1 ∨ k = 2 ∨ k = 3 ∨ k = 4) with rfl | rfl | rfl | rfl | rfl
      · by_cases h1 : 1 < L
        · have h2 : 0 < ceilP L := hcl.2 ⟨by decide, h1⟩
          have a2 : (1 : Int) < (L : Int) := by omega
          clear hcl
          simp only [show ((2 ^ 0 : Nat) : Int) = 1 from rfl, show ((0 : Nat) : Int) = 0 from rfl]
          go_wp2
          go_roundw
          case rel => exact ⟨1, by omega, by omega, rfl, rfl, by trivial⟩
          case measure => simp [intOf]
        · have h2 : ¬ 0 < ceilP L := fun h => h1 (hcl.1 h).2
          have h3 : ceilP L = 0 := by omega
          have a2 : ¬ (1 : Int) < (L : Int) := by omega
          have h3H := hide h3
          clear hcl hkc h2 h3
          simp only [show ((2 ^ 0 : Nat) : Int) = 1 from rfl, show ((0 : Nat) : Int) = 0 from rfl]
          go_wp2
          go_ret2
          exact ⟨by rw [unhide h3H]; rfl, unhide QH2⟩
      · by_cases h1 : 2 < L
        · have h2 : 1 < ceilP L := hcl.2 ⟨by decide, h1⟩
          have a2 : (2 : Int) < (L : Int) := by omega
          clear hcl
          simp only [show ((2 ^ 1 : Nat) : Int) = 2 from rfl, show ((1 : Nat) : Int) = 1 from rfl]
          go_wp2
          go_roundw
          case rel => exact ⟨2, by omega, by omega, rfl, rfl, by trivial⟩
          case measure => simp [intOf]
        · have h2 : ¬ 1 < ceilP L := fun h => h1 (hcl.1 h).2
          have h3 : ceilP L = 1 := by omega
          have a2 : ¬ (2 : Int) < (L : Int) := by omega
          have h3H := hide h3
          clear hcl hkc h2 h3
          simp only [show ((2 ^ 1 : Nat) : Int) = 2 from rfl, show ((1 : Nat) : Int) = 1 from rfl]
          go_wp2
          go_ret2
          exact ⟨by rw [unhide h3H]; rfl, unhide QH2⟩
      · by_cases h1 : 4 < L
        · have h2 : 2 < ceilP L := hcl.2 ⟨by decide, h1⟩
          have a2 : (4 : Int) < (L : Int) := by omega
          clear hcl
          simp only [show ((2 ^ 2 : Nat) : Int) = 4 from rfl, show ((2 : Nat) : Int) = 2 from rfl]
          go_wp2
          go_roundw
          case rel => exact ⟨3, by omega, by omega, rfl, rfl, by trivial⟩
          case measure => simp [intOf]
        · have h2 : ¬ 2 < ceilP L := fun h => h1 (hcl.1 h).2
          have h3 : ceilP L = 2 := by omega
          have a2 : ¬ (4 : Int) < (L : Int) := by omega
          have h3H := hide h3
          clear hcl hkc h2 h3
          simp only [show ((2 ^ 2 : Nat) : Int) = 4 from rfl, show ((2 : Nat) : Int) = 2 from rfl]
          go_wp2
          go_ret2
          exact ⟨by rw [unhide h3H]; rfl, unhide QH2⟩
      · by_cases h1 : 8 < L
        · have h2 : 3 < ceilP L := hcl.2 ⟨by decide, h1⟩
          have a2 : (8 : Int) < (L : Int) := by omega
          clear hcl
          simp only [show ((2 ^ 3 : Nat) : Int) = 8 from rfl, show ((3 : Nat) : Int) = 3 from rfl]
          go_wp2
          go_roundw
          case rel => exact ⟨4, by omega, by omega, rfl, rfl, by trivial⟩
          case measure => simp [intOf]
        · have h2 : ¬ 3 < ceilP L := fun h => h1 (hcl.1 h).2
          have h3 : ceilP L = 3 := by omega
          have a2 : ¬ (8 : Int) < (L : Int) := by omega
          have h3H := hide h3
          clear hcl hkc h2 h3
          simp only [show ((2 ^ 3 : Nat) : Int) = 8 from rfl, show ((3 : Nat) : Int) = 3 from rfl]
          go_wp2
          go_ret2
          exact ⟨by rw [unhide h3H]; rfl, unhide QH2⟩
      · have h3 : ceilP L = 4 := by have := ceil_le L; omega
        have a2 : ¬ (16 : Int) < (L : Int) := by have := unhide hL16; omega
        have h3H := hide h3
        clear hcl hkc h3
        simp only [show ((2 ^ 4 : Nat) : Int) = 16 from rfl, show ((4 : Nat) : Int) = 4 from rfl]
        go_wp2
        go_ret2
        exact ⟨by rw [unhide h3H]; rfl, unhide QH2⟩
end Go.Proofs.Qxb6500368a
