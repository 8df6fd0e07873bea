/-
  KEEPS: Owed: the Errno and the Spent that are owed, kind by kind. (gen8kowed.py)
-/
import Derived.Test.Qxb6500368aKOwed
namespace Go.Proofs.Qxb6500368a
open Go.RowKit Go.Qx
set_option linter.unusedVariables false
set_option linter.unusedSimpArgs false


theorem str_ne {s : ByteArray} {l : Nat} (h : s.size = 4 * l) (hl : ¬ l = 0) : (s.toList == ([] : List UInt8)) = false := by
  have h1 : s.toList = s.data.toList := by
    have := str_toList s.data.toList
    rw [← str_of s] at this
    exact this
  have h2 : s.data.toList.length = s.size := Array.length_toList
  rw [h1]
  cases e : s.data.toList with
  | nil =>
    rw [e] at h2
    simp at h2
    omega
  | cons a b => rfl

set_option maxRecDepth 100000 in
set_option maxHeartbeats 8000000 in
theorem owed_conv_regs (w : World) (R : Nat → ByteArray) (wk : Nat) (ka l : Nat) (b c : Int) (s t : ByteArray) (ha : ka < 3) (hl : l ≤ 16) (hsize : (R ka).size = 4 * l) (hrs : (regP (ka : Int) && regP b && regP c) = false) :
    Calls Try.prog 25 #[.agg #[.string (R 0), .string (R 1), .string (R 2), .int .i64 (wk : Int)], .agg #[.int .i64 5, .int .i64 (ka : Int), .int .i64 b, .int .i64 c, .string s, .string t]] w (owedPost w 4 wk) := by
  have hcs := hide (fun W => regs_any W (ka : Int) b c)
  rw [hrs] at hcs
  clear hrs
  have hsz := hsize
  have a0 : (0 : Int) ≤ (ka : Int) := by omega
  have a3 : (ka : Int) < 3 := by omega
  have sl : l < 1073741824 := by omega
  have hreg : regP (ka : Int) = true := by unfold regP; simp; omega
  have e4 : ((4 * l : Nat) : Int).tdiv 4 = (l : Int) := by rw [Int.tdiv_eq_ediv_of_nonneg (by omega)]; omega
  have wl : wrap64 (l : Int) = (l : Int) := wrap_small l sl
  have hlog := hide (fun W => log_any W l hl)
  have hc := hide (fun W => reg_any W (ka : Int))
  rw [hreg] at hc
  clear sl
  obtain ⟨W0, hW0⟩ : ∃ W0, ((w.alloc (.cells #[.string (R 0), .string (R 1), .string (R 2), .int .i64 (wk : Int)] 29)).alloc (.cells #[.int .i64 5, .int .i64 (ka : Int), .int .i64 b, .int .i64 c, .string s, .string t] 31)) = W0 := ⟨_, rfl⟩
  obtain ⟨Q0, TB, OB⟩ := owed_w0 w R wk 5 (ka : Int) b c s t W0 hW0
  have QH := hide Q0
  have TBH := hide TB
  have OBH := hide OB
  clear Q0 TB OB
  have o0 := (unhide OBH).cell 0
  have o1 := (unhide OBH).cell 1
  have o2 := (unhide OBH).cell 2
  have o3 := (unhide OBH).cell 3
  have o4 := (unhide OBH).cell 4
  have t3 := (unhide TBH).cell 3
  simp [imgC] at o0 o1 o2 o3 o4 t3
  have ra := (unhide TBH).cell ka
  rw [imgC_get _ _ ka ha] at ra
  clear ha hl hreg hsize
  generalize R ka = RK at *
  unfold owedPost
  go_enter Try.func25, Try.ntmps25
  generalize log2P l = LL at *
  go_wp2_with fail
  refine (unhide hc _).mono ?_
  rintro e w' ⟨rfl, hw'⟩
  subst hw'
  go_wp2_with fail
  refine (unhide hlog _).mono ?_
  rintro e w' ⟨rfl, hw'⟩
  subst hw'
  by_cases hLL : LL < 0
  · go_wp2_with fail
    refine (unhide hcs _).mono ?_
    rintro e w' ⟨rfl, hw'⟩
    subst hw'
    go_wp2
    go_quiet (fail)
    go_wp2
    go_ret2
    exact ⟨rfl, (unhide QH).drewN _⟩
  · go_wp2_with fail
    refine (unhide hcs _).mono ?_
    rintro e w' ⟨rfl, hw'⟩
    subst hw'
    go_wp2
    go_quiet (fail)
    go_wp2
    go_ret2
    exact ⟨rfl, (unhide QH).drewN _⟩

set_option maxRecDepth 100000 in
set_option maxHeartbeats 8000000 in
theorem owed_conv_zb (w : World) (R : Nat → ByteArray) (wk : Nat) (ka kb kc l lb lc : Nat) (s t : ByteArray) (ha : ka < 3) (hb : kb < 3) (hc3 : kc < 3) (hl : l ≤ 16) (hsize : (R ka).size = 4 * l) (hsb : (R kb).size = 4 * lb) (hsc : (R kc).size = 4 * lc) (hz : (R kb).toList = []) :
    Calls Try.prog 25 #[.agg #[.string (R 0), .string (R 1), .string (R 2), .int .i64 (wk : Int)], .agg #[.int .i64 5, .int .i64 (ka : Int), .int .i64 (kb : Int), .int .i64 (kc : Int), .string s, .string t]] w (owedPost w 0 0) := by
  have hrs : (regP (ka : Int) && regP (kb : Int) && regP (kc : Int)) = true := by unfold regP; simp; omega
  have hcs := hide (fun W => regs_any W (ka : Int) (kb : Int) (kc : Int))
  rw [hrs] at hcs
  clear hrs
  have b0 : (0 : Int) ≤ (kb : Int) := by omega
  have b3 : (kb : Int) < 3 := by omega
  have c0 : (0 : Int) ≤ (kc : Int) := by omega
  have c3 : (kc : Int) < 3 := by omega
  have hsz := hsize
  have a0 : (0 : Int) ≤ (ka : Int) := by omega
  have a3 : (ka : Int) < 3 := by omega
  have sl : l < 1073741824 := by omega
  have hreg : regP (ka : Int) = true := by unfold regP; simp; omega
  have e4 : ((4 * l : Nat) : Int).tdiv 4 = (l : Int) := by rw [Int.tdiv_eq_ediv_of_nonneg (by omega)]; omega
  have wl : wrap64 (l : Int) = (l : Int) := wrap_small l sl
  have hlog := hide (fun W => log_any W l hl)
  have hc := hide (fun W => reg_any W (ka : Int))
  rw [hreg] at hc
  clear sl
  obtain ⟨W0, hW0⟩ : ∃ W0, ((w.alloc (.cells #[.string (R 0), .string (R 1), .string (R 2), .int .i64 (wk : Int)] 29)).alloc (.cells #[.int .i64 5, .int .i64 (ka : Int), .int .i64 (kb : Int), .int .i64 (kc : Int), .string s, .string t] 31)) = W0 := ⟨_, rfl⟩
  obtain ⟨Q0, TB, OB⟩ := owed_w0 w R wk 5 (ka : Int) (kb : Int) (kc : Int) s t W0 hW0
  have QH := hide Q0
  have TBH := hide TB
  have OBH := hide OB
  clear Q0 TB OB
  have o0 := (unhide OBH).cell 0
  have o1 := (unhide OBH).cell 1
  have o2 := (unhide OBH).cell 2
  have o3 := (unhide OBH).cell 3
  have o4 := (unhide OBH).cell 4
  have t3 := (unhide TBH).cell 3
  simp [imgC] at o0 o1 o2 o3 o4 t3
  have ra := (unhide TBH).cell ka
  rw [imgC_get _ _ ka ha] at ra
  have rb := (unhide TBH).cell kb
  rw [imgC_get _ _ kb hb] at rb
  have rc := (unhide TBH).cell kc
  rw [imgC_get _ _ kc hc3] at rc
  clear ha hb hc3 hl hreg hsize
  generalize R ka = RK at *
  generalize R kb = RB at *
  generalize R kc = RC at *
  unfold owedPost
  go_enter Try.func25, Try.ntmps25
  generalize log2P l = LL at *
  go_wp2_with fail
  refine (unhide hc _).mono ?_
  rintro e w' ⟨rfl, hw'⟩
  subst hw'
  go_wp2_with fail
  refine (unhide hlog _).mono ?_
  rintro e w' ⟨rfl, hw'⟩
  subst hw'
  by_cases hLL : LL < 0
  · go_wp2_with fail
    refine (unhide hcs _).mono ?_
    rintro e w' ⟨rfl, hw'⟩
    subst hw'
    go_wp2
    go_ret2
    exact ⟨rfl, unhide QH⟩
  · go_wp2_with fail
    refine (unhide hcs _).mono ?_
    rintro e w' ⟨rfl, hw'⟩
    subst hw'
    go_wp2
    go_ret2
    exact ⟨rfl, unhide QH⟩

set_option maxRecDepth 100000 in
set_option maxHeartbeats 8000000 in
theorem owed_conv_zc (w : World) (R : Nat → ByteArray) (wk : Nat) (ka kb kc l lb lc : Nat) (s t : ByteArray) (ha : ka < 3) (hb : kb < 3) (hc3 : kc < 3) (hl : l ≤ 16) (hsize : (R ka).size = 4 * l) (hsb : (R kb).size = 4 * lb) (hsc : (R kc).size = 4 * lc) (hz : ¬ lb = 0) (hz2 : (R kc).toList = []) :
    Calls Try.prog 25 #[.agg #[.string (R 0), .string (R 1), .string (R 2), .int .i64 (wk : Int)], .agg #[.int .i64 5, .int .i64 (ka : Int), .int .i64 (kb : Int), .int .i64 (kc : Int), .string s, .string t]] w (owedPost w 0 0) := by
  have hzb := str_ne hsb hz
  have hrs : (regP (ka : Int) && regP (kb : Int) && regP (kc : Int)) = true := by unfold regP; simp; omega
  have hcs := hide (fun W => regs_any W (ka : Int) (kb : Int) (kc : Int))
  rw [hrs] at hcs
  clear hrs
  have b0 : (0 : Int) ≤ (kb : Int) := by omega
  have b3 : (kb : Int) < 3 := by omega
  have c0 : (0 : Int) ≤ (kc : Int) := by omega
  have c3 : (kc : Int) < 3 := by omega
  have hsz := hsize
  have a0 : (0 : Int) ≤ (ka : Int) := by omega
  have a3 : (ka : Int) < 3 := by omega
  have sl : l < 1073741824 := by omega
  have hreg : regP (ka : Int) = true := by unfold regP; simp; omega
  have e4 : ((4 * l : Nat) : Int).tdiv 4 = (l : Int) := by rw [Int.tdiv_eq_ediv_of_nonneg (by omega)]; omega
  have wl : wrap64 (l : Int) = (l : Int) := wrap_small l sl
  have hlog := hide (fun W => log_any W l hl)
  have hc := hide (fun W => reg_any W (ka : Int))
  rw [hreg] at hc
  clear sl
  obtain ⟨W0, hW0⟩ : ∃ W0, ((w.alloc (.cells #[.string (R 0), .string (R 1), .string (R 2), .int .i64 (wk : Int)] 29)).alloc (.cells #[.int .i64 5, .int .i64 (ka : Int), .int .i64 (kb : Int), .int .i64 (kc : Int), .string s, .string t] 31)) = W0 := ⟨_, rfl⟩
  obtain ⟨Q0, TB, OB⟩ := owed_w0 w R wk 5 (ka : Int) (kb : Int) (kc : Int) s t W0 hW0
  have QH := hide Q0
  have TBH := hide TB
  have OBH := hide OB
  clear Q0 TB OB
  have o0 := (unhide OBH).cell 0
  have o1 := (unhide OBH).cell 1
  have o2 := (unhide OBH).cell 2
  have o3 := (unhide OBH).cell 3
  have o4 := (unhide OBH).cell 4
  have t3 := (unhide TBH).cell 3
  simp [imgC] at o0 o1 o2 o3 o4 t3
  have ra := (unhide TBH).cell ka
  rw [imgC_get _ _ ka ha] at ra
  have rb := (unhide TBH).cell kb
  rw [imgC_get _ _ kb hb] at rb
  have rc := (unhide TBH).cell kc
  rw [imgC_get _ _ kc hc3] at rc
  clear ha hb hc3 hl hreg hsize
  generalize R ka = RK at *
  generalize R kb = RB at *
  generalize R kc = RC at *
  unfold owedPost
  go_enter Try.func25, Try.ntmps25
  generalize log2P l = LL at *
  clear hz
  go_wp2_with fail
  refine (unhide hc _).mono ?_
  rintro e w' ⟨rfl, hw'⟩
  subst hw'
  go_wp2_with fail
  refine (unhide hlog _).mono ?_
  rintro e w' ⟨rfl, hw'⟩
  subst hw'
  by_cases hLL : LL < 0
  · go_wp2_with fail
    refine (unhide hcs _).mono ?_
    rintro e w' ⟨rfl, hw'⟩
    subst hw'
    go_wp2
    go_ret2
    exact ⟨rfl, unhide QH⟩
  · go_wp2_with fail
    refine (unhide hcs _).mono ?_
    rintro e w' ⟨rfl, hw'⟩
    subst hw'
    go_wp2
    go_ret2
    exact ⟨rfl, unhide QH⟩

set_option maxRecDepth 100000 in
set_option maxHeartbeats 8000000 in
theorem owed_conv_len (w : World) (R : Nat → ByteArray) (wk : Nat) (ka kb kc l lb lc : Nat) (s t : ByteArray) (ha : ka < 3) (hb : kb < 3) (hc3 : kc < 3) (hl : l ≤ 16) (hsize : (R ka).size = 4 * l) (hsb : (R kb).size = 4 * lb) (hsc : (R kc).size = 4 * lc) (hz : ¬ lb = 0) (hz2 : ¬ lc = 0) (L : Nat) (hLb : lb ≤ 16) (hLc : lc ≤ 16) (hL : lb + lc = L + 1) (h16 : 16 < L) :
    Calls Try.prog 25 #[.agg #[.string (R 0), .string (R 1), .string (R 2), .int .i64 (wk : Int)], .agg #[.int .i64 5, .int .i64 (ka : Int), .int .i64 (kb : Int), .int .i64 (kc : Int), .string s, .string t]] w (owedPost w 2 wk) := by
  have hzb := str_ne hsb hz
  have hzc := str_ne hsc hz2
  have g16 : (16 : Int) < (L : Int) := by omega
  have hrs : (regP (ka : Int) && regP (kb : Int) && regP (kc : Int)) = true := by unfold regP; simp; omega
  have hcs := hide (fun W => regs_any W (ka : Int) (kb : Int) (kc : Int))
  rw [hrs] at hcs
  clear hrs
  have b0 : (0 : Int) ≤ (kb : Int) := by omega
  have b3 : (kb : Int) < 3 := by omega
  have c0 : (0 : Int) ≤ (kc : Int) := by omega
  have c3 : (kc : Int) < 3 := by omega
  have eS : ((4 * lb : Nat) : Int) + ((4 * lc : Nat) : Int) = ((4 * (lb + lc) : Nat) : Int) := by omega
  have e4b : ((4 * (lb + lc) : Nat) : Int).tdiv 4 = ((lb + lc : Nat) : Int) := by rw [Int.tdiv_eq_ediv_of_nonneg (by omega)]; omega
  have eM : ((lb + lc : Nat) : Int) - 1 = (L : Int) := by omega
  have s1 : 4 * (lb + lc) < 1073741824 := by omega
  have s2 : lb + lc < 1073741824 := by omega
  have s3 : L < 1073741824 := by omega
  have hsz := hsize
  have a0 : (0 : Int) ≤ (ka : Int) := by omega
  have a3 : (ka : Int) < 3 := by omega
  have sl : l < 1073741824 := by omega
  have hreg : regP (ka : Int) = true := by unfold regP; simp; omega
  have e4 : ((4 * l : Nat) : Int).tdiv 4 = (l : Int) := by rw [Int.tdiv_eq_ediv_of_nonneg (by omega)]; omega
  have wl : wrap64 (l : Int) = (l : Int) := wrap_small l sl
  have hlog := hide (fun W => log_any W l hl)
  have hc := hide (fun W => reg_any W (ka : Int))
  rw [hreg] at hc
  clear sl
  have wS : wrap64 ((4 * (lb + lc) : Nat) : Int) = ((4 * (lb + lc) : Nat) : Int) := wrap_small _ s1
  have wD : wrap64 ((lb + lc : Nat) : Int) = ((lb + lc : Nat) : Int) := wrap_small _ s2
  have wM : wrap64 (L : Int) = (L : Int) := wrap_small _ s3
  have wS2 := i64_wrap wS
  have wD2 := i64_wrap wD
  have wM2 := i64_wrap wM
  clear s1 s2 s3
  obtain ⟨W0, hW0⟩ : ∃ W0, ((w.alloc (.cells #[.string (R 0), .string (R 1), .string (R 2), .int .i64 (wk : Int)] 29)).alloc (.cells #[.int .i64 5, .int .i64 (ka : Int), .int .i64 (kb : Int), .int .i64 (kc : Int), .string s, .string t] 31)) = W0 := ⟨_, rfl⟩
  obtain ⟨Q0, TB, OB⟩ := owed_w0 w R wk 5 (ka : Int) (kb : Int) (kc : Int) s t W0 hW0
  have QH := hide Q0
  have TBH := hide TB
  have OBH := hide OB
  clear Q0 TB OB
  have o0 := (unhide OBH).cell 0
  have o1 := (unhide OBH).cell 1
  have o2 := (unhide OBH).cell 2
  have o3 := (unhide OBH).cell 3
  have o4 := (unhide OBH).cell 4
  have t3 := (unhide TBH).cell 3
  simp [imgC] at o0 o1 o2 o3 o4 t3
  have ra := (unhide TBH).cell ka
  rw [imgC_get _ _ ka ha] at ra
  have rb := (unhide TBH).cell kb
  rw [imgC_get _ _ kb hb] at rb
  have rc := (unhide TBH).cell kc
  rw [imgC_get _ _ kc hc3] at rc
  clear ha hb hc3 hl hreg hsize
  generalize R ka = RK at *
  generalize R kb = RB at *
  generalize R kc = RC at *
  unfold owedPost
  go_enter Try.func25, Try.ntmps25
  generalize log2P l = LL at *
  generalize 4 * (lb + lc) = S4 at *
  generalize 4 * lb = B4 at *
  generalize 4 * lc = C4 at *
  generalize lb + lc = SS at *
  clear hz hz2 hLb hLc hL
  go_wp2_with fail
  refine (unhide hc _).mono ?_
  rintro e w' ⟨rfl, hw'⟩
  subst hw'
  go_wp2_with fail
  refine (unhide hlog _).mono ?_
  rintro e w' ⟨rfl, hw'⟩
  subst hw'
  by_cases hLL : LL < 0
  · go_wp2_with fail
    refine (unhide hcs _).mono ?_
    rintro e w' ⟨rfl, hw'⟩
    subst hw'
    go_wp2
    go_quiet (fail)
    go_wp2
    go_quiet (fail)
    go_wp2
    go_ret2
    exact ⟨rfl, ((unhide QH).drewN _).drewN _⟩
  · go_wp2_with fail
    refine (unhide hcs _).mono ?_
    rintro e w' ⟨rfl, hw'⟩
    subst hw'
    go_wp2
    go_quiet (fail)
    go_wp2
    go_quiet (fail)
    go_wp2
    go_ret2
    exact ⟨rfl, ((unhide QH).drewN _).drewN _⟩
end Go.Proofs.Qxb6500368a
