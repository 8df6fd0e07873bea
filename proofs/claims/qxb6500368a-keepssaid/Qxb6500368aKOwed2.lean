/-
  KEEPS: Owed: the Errno and the Spent that are owed, kind by kind. (gen8kowed.py)
-/
import Derived.Test.Qxb6500368aKOwed
namespace Go.Proofs.Qxb6500368a
open Go.RowKit Go.Qx
set_option linter.unusedVariables false
set_option linter.unusedSimpArgs false


set_option maxRecDepth 100000 in
set_option maxHeartbeats 8000000 in
theorem owed_fw_len (w : World) (R : Nat → ByteArray) (wk : Nat) (ka l : Nat) (b c : Int) (s t : ByteArray) (ha : ka < 3) (hl : l ≤ 16) (hsize : (R ka).size = 4 * l) (hLL : log2P l < 0) :
    Calls Try.prog 25 #[.agg #[.string (R 0), .string (R 1), .string (R 2), .int .i64 (wk : Int)], .agg #[.int .i64 3, .int .i64 (ka : Int), .int .i64 b, .int .i64 c, .string s, .string t]] w (owedPost w 2 wk) := by
  have hsz := hsize
  have a0 : (0 : Int) ≤ (ka : Int) := by omega
  have a3 : (ka : Int) < 3 := by omega
  have sl : l < 1073741824 := by omega
  have hreg : regP (ka : Int) = true := by unfold regP; simp; omega
  have e4 : ((4 * l : Nat) : Int).tdiv 4 = (l : Int) := by rw [Int.tdiv_eq_ediv_of_nonneg (by omega)]; omega
  have wl : wrap64 (l : Int) = (l : Int) := wrap_small l sl
  have hlog := hide (fun W => log_any W l hl)
  have hc := hide (fun W => reg_any W (ka : Int))
  rw [hreg] at hc
  clear sl
  obtain ⟨W0, hW0⟩ : ∃ W0, ((w.alloc (.cells #[.string (R 0), .string (R 1), .string (R 2), .int .i64 (wk : Int)] 29)).alloc (.cells #[.int .i64 3, .int .i64 (ka : Int), .int .i64 b, .int .i64 c, .string s, .string t] 31)) = W0 := ⟨_, rfl⟩
  obtain ⟨Q0, TB, OB⟩ := owed_w0 w R wk 3 (ka : Int) b c s t W0 hW0
  have QH := hide Q0
  have TBH := hide TB
  have OBH := hide OB
  clear Q0 TB OB
  have o0 := (unhide OBH).cell 0
  have o1 := (unhide OBH).cell 1
  have o2 := (unhide OBH).cell 2
  have o3 := (unhide OBH).cell 3
  have o4 := (unhide OBH).cell 4
  have t3 := (unhide TBH).cell 3
  simp [imgC] at o0 o1 o2 o3 o4 t3
  have ra := (unhide TBH).cell ka
  rw [imgC_get _ _ ka ha] at ra
  clear ha hl hreg hsize
  generalize R ka = RK at *
  unfold owedPost
  go_enter Try.func25, Try.ntmps25
  generalize log2P l = LL at *
  go_wp2_with fail
  refine (unhide hc _).mono ?_
  rintro e w' ⟨rfl, hw'⟩
  subst hw'
  go_wp2_with fail
  refine (unhide hlog _).mono ?_
  rintro e w' ⟨rfl, hw'⟩
  subst hw'
  go_wp2
  go_quiet (fail)
  go_wp2
  go_ret2
  exact ⟨rfl, (unhide QH).drewN _⟩

set_option maxRecDepth 100000 in
set_option maxHeartbeats 8000000 in
theorem owed_iv_len (w : World) (R : Nat → ByteArray) (wk : Nat) (ka l : Nat) (b c : Int) (s t : ByteArray) (ha : ka < 3) (hl : l ≤ 16) (hsize : (R ka).size = 4 * l) (hLL : log2P l < 0) :
    Calls Try.prog 25 #[.agg #[.string (R 0), .string (R 1), .string (R 2), .int .i64 (wk : Int)], .agg #[.int .i64 4, .int .i64 (ka : Int), .int .i64 b, .int .i64 c, .string s, .string t]] w (owedPost w 2 wk) := by
  have hsz := hsize
  have a0 : (0 : Int) ≤ (ka : Int) := by omega
  have a3 : (ka : Int) < 3 := by omega
  have sl : l < 1073741824 := by omega
  have hreg : regP (ka : Int) = true := by unfold regP; simp; omega
  have e4 : ((4 * l : Nat) : Int).tdiv 4 = (l : Int) := by rw [Int.tdiv_eq_ediv_of_nonneg (by omega)]; omega
  have wl : wrap64 (l : Int) = (l : Int) := wrap_small l sl
  have hlog := hide (fun W => log_any W l hl)
  have hc := hide (fun W => reg_any W (ka : Int))
  rw [hreg] at hc
  clear sl
  obtain ⟨W0, hW0⟩ : ∃ W0, ((w.alloc (.cells #[.string (R 0), .string (R 1), .string (R 2), .int .i64 (wk : Int)] 29)).alloc (.cells #[.int .i64 4, .int .i64 (ka : Int), .int .i64 b, .int .i64 c, .string s, .string t] 31)) = W0 := ⟨_, rfl⟩
  obtain ⟨Q0, TB, OB⟩ := owed_w0 w R wk 4 (ka : Int) b c s t W0 hW0
  have QH := hide Q0
  have TBH := hide TB
  have OBH := hide OB
  clear Q0 TB OB
  have o0 := (unhide OBH).cell 0
  have o1 := (unhide OBH).cell 1
  have o2 := (unhide OBH).cell 2
  have o3 := (unhide OBH).cell 3
  have o4 := (unhide OBH).cell 4
  have t3 := (unhide TBH).cell 3
  simp [imgC] at o0 o1 o2 o3 o4 t3
  have ra := (unhide TBH).cell ka
  rw [imgC_get _ _ ka ha] at ra
  clear ha hl hreg hsize
  generalize R ka = RK at *
  unfold owedPost
  go_enter Try.func25, Try.ntmps25
  generalize log2P l = LL at *
  go_wp2_with fail
  refine (unhide hc _).mono ?_
  rintro e w' ⟨rfl, hw'⟩
  subst hw'
  go_wp2_with fail
  refine (unhide hlog _).mono ?_
  rintro e w' ⟨rfl, hw'⟩
  subst hw'
  go_wp2
  go_quiet (fail)
  go_wp2
  go_ret2
  exact ⟨rfl, (unhide QH).drewN _⟩

set_option maxRecDepth 100000 in
set_option maxHeartbeats 8000000 in
theorem owed_fw (w : World) (R : Nat → ByteArray) (wk : Nat) (ka l : Nat) (b c : Int) (s t : ByteArray) (ha : ka < 3) (hl : l ≤ 16) (hsize : (R ka).size = 4 * l) (K : Nat) (hK : K ≤ 4) (hLK : log2P l = (K : Int)) :
    Calls Try.prog 25 #[.agg #[.string (R 0), .string (R 1), .string (R 2), .int .i64 (wk : Int)], .agg #[.int .i64 3, .int .i64 (ka : Int), .int .i64 b, .int .i64 c, .string s, .string t]] w (owedPost w 0 ((K * (l / 2) : Nat) : Int)) := by
  have hwl := work_le K l hK hl
  have s2 : l / 2 < 1073741824 := by omega
  have s3 : K * (l / 2) < 1073741824 := by omega
  have s4 : K * (l / 2) + l < 1073741824 := by omega
  have hK0 : ¬ (K : Int) < 0 := by omega
  have h2 : (l : Int).tdiv 2 = ((l / 2 : Nat) : Int) := by rw [Int.tdiv_eq_ediv_of_nonneg (by omega)]; rfl
  have hsz := hsize
  have a0 : (0 : Int) ≤ (ka : Int) := by omega
  have a3 : (ka : Int) < 3 := by omega
  have sl : l < 1073741824 := by omega
  have hreg : regP (ka : Int) = true := by unfold regP; simp; omega
  have e4 : ((4 * l : Nat) : Int).tdiv 4 = (l : Int) := by rw [Int.tdiv_eq_ediv_of_nonneg (by omega)]; omega
  have wl : wrap64 (l : Int) = (l : Int) := wrap_small l sl
  have hlog := hide (fun W => log_any W l hl)
  have hc := hide (fun W => reg_any W (ka : Int))
  rw [hreg] at hc
  clear sl
  have h3 : ((l / 2 : Nat) : Int) * (K : Int) = ((K * (l / 2) : Nat) : Int) := by rw [Nat.mul_comm K]; rfl
  have h4 : ((K * (l / 2) : Nat) : Int) + (l : Int) = ((K * (l / 2) + l : Nat) : Int) := rfl
  have w2 : wrap64 ((l / 2 : Nat) : Int) = ((l / 2 : Nat) : Int) := wrap_small _ s2
  have w3 : wrap64 ((K * (l / 2) : Nat) : Int) = ((K * (l / 2) : Nat) : Int) := wrap_small _ s3
  have w4 : wrap64 ((K * (l / 2) + l : Nat) : Int) = ((K * (l / 2) + l : Nat) : Int) := wrap_small _ s4
  clear s2 s3 s4
  rw [hLK] at hlog
  generalize K * (l / 2) + l = WL at *
  generalize K * (l / 2) = WK at *
  generalize l / 2 = H2 at *
  clear hK hwl hLK
  obtain ⟨W0, hW0⟩ : ∃ W0, ((w.alloc (.cells #[.string (R 0), .string (R 1), .string (R 2), .int .i64 (wk : Int)] 29)).alloc (.cells #[.int .i64 3, .int .i64 (ka : Int), .int .i64 b, .int .i64 c, .string s, .string t] 31)) = W0 := ⟨_, rfl⟩
  obtain ⟨Q0, TB, OB⟩ := owed_w0 w R wk 3 (ka : Int) b c s t W0 hW0
  have QH := hide Q0
  have TBH := hide TB
  have OBH := hide OB
  clear Q0 TB OB
  have o0 := (unhide OBH).cell 0
  have o1 := (unhide OBH).cell 1
  have o2 := (unhide OBH).cell 2
  have o3 := (unhide OBH).cell 3
  have o4 := (unhide OBH).cell 4
  have t3 := (unhide TBH).cell 3
  simp [imgC] at o0 o1 o2 o3 o4 t3
  have ra := (unhide TBH).cell ka
  rw [imgC_get _ _ ka ha] at ra
  clear ha hl hreg hsize
  generalize R ka = RK at *
  unfold owedPost
  go_enter Try.func25, Try.ntmps25
  go_wp2_with fail
  refine (unhide hc _).mono ?_
  rintro e w' ⟨rfl, hw'⟩
  subst hw'
  go_wp2_with fail
  refine (unhide hlog _).mono ?_
  rintro e w' ⟨rfl, hw'⟩
  subst hw'
  go_wp2
  go_ret2
  exact ⟨rfl, unhide QH⟩

set_option maxRecDepth 100000 in
set_option maxHeartbeats 8000000 in
theorem owed_iv (w : World) (R : Nat → ByteArray) (wk : Nat) (ka l : Nat) (b c : Int) (s t : ByteArray) (ha : ka < 3) (hl : l ≤ 16) (hsize : (R ka).size = 4 * l) (K : Nat) (hK : K ≤ 4) (hLK : log2P l = (K : Int)) :
    Calls Try.prog 25 #[.agg #[.string (R 0), .string (R 1), .string (R 2), .int .i64 (wk : Int)], .agg #[.int .i64 4, .int .i64 (ka : Int), .int .i64 b, .int .i64 c, .string s, .string t]] w (owedPost w 0 ((K * (l / 2) + l : Nat) : Int)) := by
  have hwl := work_le K l hK hl
  have s2 : l / 2 < 1073741824 := by omega
  have s3 : K * (l / 2) < 1073741824 := by omega
  have s4 : K * (l / 2) + l < 1073741824 := by omega
  have hK0 : ¬ (K : Int) < 0 := by omega
  have h2 : (l : Int).tdiv 2 = ((l / 2 : Nat) : Int) := by rw [Int.tdiv_eq_ediv_of_nonneg (by omega)]; rfl
  have hsz := hsize
  have a0 : (0 : Int) ≤ (ka : Int) := by omega
  have a3 : (ka : Int) < 3 := by omega
  have sl : l < 1073741824 := by omega
  have hreg : regP (ka : Int) = true := by unfold regP; simp; omega
  have e4 : ((4 * l : Nat) : Int).tdiv 4 = (l : Int) := by rw [Int.tdiv_eq_ediv_of_nonneg (by omega)]; omega
  have wl : wrap64 (l : Int) = (l : Int) := wrap_small l sl
  have hlog := hide (fun W => log_any W l hl)
  have hc := hide (fun W => reg_any W (ka : Int))
  rw [hreg] at hc
  clear sl
  have h3 : ((l / 2 : Nat) : Int) * (K : Int) = ((K * (l / 2) : Nat) : Int) := by rw [Nat.mul_comm K]; rfl
  have h4 : ((K * (l / 2) : Nat) : Int) + (l : Int) = ((K * (l / 2) + l : Nat) : Int) := rfl
  have w2 : wrap64 ((l / 2 : Nat) : Int) = ((l / 2 : Nat) : Int) := wrap_small _ s2
  have w3 : wrap64 ((K * (l / 2) : Nat) : Int) = ((K * (l / 2) : Nat) : Int) := wrap_small _ s3
  have w4 : wrap64 ((K * (l / 2) + l : Nat) : Int) = ((K * (l / 2) + l : Nat) : Int) := wrap_small _ s4
  clear s2 s3 s4
  rw [hLK] at hlog
  generalize K * (l / 2) + l = WL at *
  generalize K * (l / 2) = WK at *
  generalize l / 2 = H2 at *
  clear hK hwl hLK
  obtain ⟨W0, hW0⟩ : ∃ W0, ((w.alloc (.cells #[.string (R 0), .string (R 1), .string (R 2), .int .i64 (wk : Int)] 29)).alloc (.cells #[.int .i64 4, .int .i64 (ka : Int), .int .i64 b, .int .i64 c, .string s, .string t] 31)) = W0 := ⟨_, rfl⟩
  obtain ⟨Q0, TB, OB⟩ := owed_w0 w R wk 4 (ka : Int) b c s t W0 hW0
  have QH := hide Q0
  have TBH := hide TB
  have OBH := hide OB
  clear Q0 TB OB
  have o0 := (unhide OBH).cell 0
  have o1 := (unhide OBH).cell 1
  have o2 := (unhide OBH).cell 2
  have o3 := (unhide OBH).cell 3
  have o4 := (unhide OBH).cell 4
  have t3 := (unhide TBH).cell 3
  simp [imgC] at o0 o1 o2 o3 o4 t3
  have ra := (unhide TBH).cell ka
  rw [imgC_get _ _ ka ha] at ra
  clear ha hl hreg hsize
  generalize R ka = RK at *
  unfold owedPost
  go_enter Try.func25, Try.ntmps25
  go_wp2_with fail
  refine (unhide hc _).mono ?_
  rintro e w' ⟨rfl, hw'⟩
  subst hw'
  go_wp2_with fail
  refine (unhide hlog _).mono ?_
  rintro e w' ⟨rfl, hw'⟩
  subst hw'
  go_wp2
  go_ret2
  exact ⟨rfl, unhide QH⟩
end Go.Proofs.Qxb6500368a
