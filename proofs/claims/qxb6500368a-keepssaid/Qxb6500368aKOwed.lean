/-
  KEEPS: Owed: the Errno and the Spent that are owed, kind by kind. (gen8kowed.py)
-/
import Derived.Test.Qxb6500368aKText
namespace Go.Proofs.Qxb6500368a
open Go.RowKit Go.Qx
set_option linter.unusedVariables false
set_option linter.unusedSimpArgs false

def owedPost (w : World) (E W : Int) (e : Ending) (w' : World) : Prop := e = .returned (.tuple #[.int .i64 E, .int .i64 W]) ∧ Quiet w w'

theorem owed_w0 (w : World) (R : Nat → ByteArray) (wk : Nat) (k a b c : Int) (s t : ByteArray) (W : World) (hW : ((w.alloc (.cells #[.string (R 0), .string (R 1), .string (R 2), .int .i64 (wk : Int)] 29)).alloc (.cells #[.int .i64 k, .int .i64 a, .int .i64 b, .int .i64 c, .string s, .string t] 31)) = W) :
    Quiet w W ∧ Blk W w.heap.size 29 (imgC R wk) ∧ Blk W (w.heap.size + 1) 31 [.int .i64 k, .int .i64 a, .int .i64 b, .int .i64 c, .string s, .string t] := by
  subst hW
  exact ⟨((Chg.refl _ _).alloc _).alloc _, (Blk.new w 29 (imgC R wk)).alloc _, Blk.at_new (by simp)⟩

set_option maxRecDepth 100000 in
set_option maxHeartbeats 8000000 in
theorem owed_none (w : World) (R : Nat → ByteArray) (wk : Nat) (k : Int) (a b c : Int) (s t : ByteArray) (h1 : ¬ k = 1) (hk : k < 1 ∨ 5 < k) :
    Calls Try.prog 25 #[.agg #[.string (R 0), .string (R 1), .string (R 2), .int .i64 (wk : Int)], .agg #[.int .i64 k, .int .i64 a, .int .i64 b, .int .i64 c, .string s, .string t]] w (owedPost w 0 wk) := by
  have hb : (k == 1) = false := by simpa using h1
  by_cases hlt : k < 1
  · clear h1 hk
    obtain ⟨W0, hW0⟩ : ∃ W0, ((w.alloc (.cells #[.string (R 0), .string (R 1), .string (R 2), .int .i64 (wk : Int)] 29)).alloc (.cells #[.int .i64 k, .int .i64 a, .int .i64 b, .int .i64 c, .string s, .string t] 31)) = W0 := ⟨_, rfl⟩
    obtain ⟨Q0, TB, OB⟩ := owed_w0 w R wk k a b c s t W0 hW0
    have QH := hide Q0
    have TBH := hide TB
    have OBH := hide OB
    clear Q0 TB OB
    have o0 := (unhide OBH).cell 0
    have o1 := (unhide OBH).cell 1
    have o2 := (unhide OBH).cell 2
    have o3 := (unhide OBH).cell 3
    have o4 := (unhide OBH).cell 4
    have t3 := (unhide TBH).cell 3
    simp [imgC] at o0 o1 o2 o3 o4 t3
    unfold owedPost
    go_enter Try.func25, Try.ntmps25
    go_wp2
    go_quiet (fail)
    go_wp2
    go_ret2
    exact ⟨rfl, (unhide QH).drewN _⟩
  · have h5 : 5 < k := by omega
    clear h1 hk
    obtain ⟨W0, hW0⟩ : ∃ W0, ((w.alloc (.cells #[.string (R 0), .string (R 1), .string (R 2), .int .i64 (wk : Int)] 29)).alloc (.cells #[.int .i64 k, .int .i64 a, .int .i64 b, .int .i64 c, .string s, .string t] 31)) = W0 := ⟨_, rfl⟩
    obtain ⟨Q0, TB, OB⟩ := owed_w0 w R wk k a b c s t W0 hW0
    have QH := hide Q0
    have TBH := hide TB
    have OBH := hide OB
    clear Q0 TB OB
    have o0 := (unhide OBH).cell 0
    have o1 := (unhide OBH).cell 1
    have o2 := (unhide OBH).cell 2
    have o3 := (unhide OBH).cell 3
    have o4 := (unhide OBH).cell 4
    have t3 := (unhide TBH).cell 3
    simp [imgC] at o0 o1 o2 o3 o4 t3
    unfold owedPost
    go_enter Try.func25, Try.ntmps25
    go_wp2
    go_quiet (fail)
    go_wp2
    go_ret2
    exact ⟨rfl, (unhide QH).drewN _⟩

set_option maxRecDepth 100000 in
set_option maxHeartbeats 8000000 in
theorem owed_reg2 (w : World) (R : Nat → ByteArray) (wk : Nat) (a b c : Int) (s t : ByteArray) (hreg : regP a = false) :
    Calls Try.prog 25 #[.agg #[.string (R 0), .string (R 1), .string (R 2), .int .i64 (wk : Int)], .agg #[.int .i64 2, .int .i64 a, .int .i64 b, .int .i64 c, .string s, .string t]] w (owedPost w 4 wk) := by
  have hc := hide (fun W => reg_any W a)
  rw [hreg] at hc
  clear hreg
  obtain ⟨W0, hW0⟩ : ∃ W0, ((w.alloc (.cells #[.string (R 0), .string (R 1), .string (R 2), .int .i64 (wk : Int)] 29)).alloc (.cells #[.int .i64 2, .int .i64 a, .int .i64 b, .int .i64 c, .string s, .string t] 31)) = W0 := ⟨_, rfl⟩
  obtain ⟨Q0, TB, OB⟩ := owed_w0 w R wk 2 a b c s t W0 hW0
  have QH := hide Q0
  have TBH := hide TB
  have OBH := hide OB
  clear Q0 TB OB
  have o0 := (unhide OBH).cell 0
  have o1 := (unhide OBH).cell 1
  have o2 := (unhide OBH).cell 2
  have o3 := (unhide OBH).cell 3
  have o4 := (unhide OBH).cell 4
  have t3 := (unhide TBH).cell 3
  simp [imgC] at o0 o1 o2 o3 o4 t3
  unfold owedPost
  go_enter Try.func25, Try.ntmps25
  go_wp2_with fail
  refine (unhide hc _).mono ?_
  rintro e w' ⟨rfl, hw'⟩
  subst hw'
  go_wp2
  go_quiet (fail)
  go_wp2
  go_ret2
  exact ⟨rfl, (unhide QH).drewN _⟩

set_option maxRecDepth 100000 in
set_option maxHeartbeats 8000000 in
theorem owed_reg3 (w : World) (R : Nat → ByteArray) (wk : Nat) (a b c : Int) (s t : ByteArray) (hreg : regP a = false) :
    Calls Try.prog 25 #[.agg #[.string (R 0), .string (R 1), .string (R 2), .int .i64 (wk : Int)], .agg #[.int .i64 3, .int .i64 a, .int .i64 b, .int .i64 c, .string s, .string t]] w (owedPost w 4 wk) := by
  have hc := hide (fun W => reg_any W a)
  rw [hreg] at hc
  clear hreg
  obtain ⟨W0, hW0⟩ : ∃ W0, ((w.alloc (.cells #[.string (R 0), .string (R 1), .string (R 2), .int .i64 (wk : Int)] 29)).alloc (.cells #[.int .i64 3, .int .i64 a, .int .i64 b, .int .i64 c, .string s, .string t] 31)) = W0 := ⟨_, rfl⟩
  obtain ⟨Q0, TB, OB⟩ := owed_w0 w R wk 3 a b c s t W0 hW0
  have QH := hide Q0
  have TBH := hide TB
  have OBH := hide OB
  clear Q0 TB OB
  have o0 := (unhide OBH).cell 0
  have o1 := (unhide OBH).cell 1
  have o2 := (unhide OBH).cell 2
  have o3 := (unhide OBH).cell 3
  have o4 := (unhide OBH).cell 4
  have t3 := (unhide TBH).cell 3
  simp [imgC] at o0 o1 o2 o3 o4 t3
  unfold owedPost
  go_enter Try.func25, Try.ntmps25
  go_wp2_with fail
  refine (unhide hc _).mono ?_
  rintro e w' ⟨rfl, hw'⟩
  subst hw'
  go_wp2
  go_quiet (fail)
  go_wp2
  go_ret2
  exact ⟨rfl, (unhide QH).drewN _⟩

set_option maxRecDepth 100000 in
set_option maxHeartbeats 8000000 in
theorem owed_reg4 (w : World) (R : Nat → ByteArray) (wk : Nat) (a b c : Int) (s t : ByteArray) (hreg : regP a = false) :
    Calls Try.prog 25 #[.agg #[.string (R 0), .string (R 1), .string (R 2), .int .i64 (wk : Int)], .agg #[.int .i64 4, .int .i64 a, .int .i64 b, .int .i64 c, .string s, .string t]] w (owedPost w 4 wk) := by
  have hc := hide (fun W => reg_any W a)
  rw [hreg] at hc
  clear hreg
  obtain ⟨W0, hW0⟩ : ∃ W0, ((w.alloc (.cells #[.string (R 0), .string (R 1), .string (R 2), .int .i64 (wk : Int)] 29)).alloc (.cells #[.int .i64 4, .int .i64 a, .int .i64 b, .int .i64 c, .string s, .string t] 31)) = W0 := ⟨_, rfl⟩
  obtain ⟨Q0, TB, OB⟩ := owed_w0 w R wk 4 a b c s t W0 hW0
  have QH := hide Q0
  have TBH := hide TB
  have OBH := hide OB
  clear Q0 TB OB
  have o0 := (unhide OBH).cell 0
  have o1 := (unhide OBH).cell 1
  have o2 := (unhide OBH).cell 2
  have o3 := (unhide OBH).cell 3
  have o4 := (unhide OBH).cell 4
  have t3 := (unhide TBH).cell 3
  simp [imgC] at o0 o1 o2 o3 o4 t3
  unfold owedPost
  go_enter Try.func25, Try.ntmps25
  go_wp2_with fail
  refine (unhide hc _).mono ?_
  rintro e w' ⟨rfl, hw'⟩
  subst hw'
  go_wp2
  go_quiet (fail)
  go_wp2
  go_ret2
  exact ⟨rfl, (unhide QH).drewN _⟩

set_option maxRecDepth 100000 in
set_option maxHeartbeats 8000000 in
theorem owed_reg5 (w : World) (R : Nat → ByteArray) (wk : Nat) (a b c : Int) (s t : ByteArray) (hreg : regP a = false) :
    Calls Try.prog 25 #[.agg #[.string (R 0), .string (R 1), .string (R 2), .int .i64 (wk : Int)], .agg #[.int .i64 5, .int .i64 a, .int .i64 b, .int .i64 c, .string s, .string t]] w (owedPost w 4 wk) := by
  have hc := hide (fun W => reg_any W a)
  rw [hreg] at hc
  clear hreg
  obtain ⟨W0, hW0⟩ : ∃ W0, ((w.alloc (.cells #[.string (R 0), .string (R 1), .string (R 2), .int .i64 (wk : Int)] 29)).alloc (.cells #[.int .i64 5, .int .i64 a, .int .i64 b, .int .i64 c, .string s, .string t] 31)) = W0 := ⟨_, rfl⟩
  obtain ⟨Q0, TB, OB⟩ := owed_w0 w R wk 5 a b c s t W0 hW0
  have QH := hide Q0
  have TBH := hide TB
  have OBH := hide OB
  clear Q0 TB OB
  have o0 := (unhide OBH).cell 0
  have o1 := (unhide OBH).cell 1
  have o2 := (unhide OBH).cell 2
  have o3 := (unhide OBH).cell 3
  have o4 := (unhide OBH).cell 4
  have t3 := (unhide TBH).cell 3
  simp [imgC] at o0 o1 o2 o3 o4 t3
  unfold owedPost
  go_enter Try.func25, Try.ntmps25
  go_wp2_with fail
  refine (unhide hc _).mono ?_
  rintro e w' ⟨rfl, hw'⟩
  subst hw'
  go_wp2
  go_quiet (fail)
  go_wp2
  go_ret2
  exact ⟨rfl, (unhide QH).drewN _⟩

set_option maxRecDepth 100000 in
set_option maxHeartbeats 8000000 in
theorem owed_load_bad (w : World) (R : Nat → ByteArray) (wk : Nat) (a b c : Int) (s t : ByteArray) (hE : ¬ quadsE s = 0) :
    Calls Try.prog 25 #[.agg #[.string (R 0), .string (R 1), .string (R 2), .int .i64 (wk : Int)], .agg #[.int .i64 1, .int .i64 a, .int .i64 b, .int .i64 c, .string s, .string t]] w (owedPost w (quadsE s) wk) := by
  have hqd := hide (fun W => quadsM_any W s)
  unfold quadsPost at hqd
  generalize quadsE s = E at *
  have hE2 : (E == 0) = false := by simpa using hE
  obtain ⟨W0, hW0⟩ : ∃ W0, ((w.alloc (.cells #[.string (R 0), .string (R 1), .string (R 2), .int .i64 (wk : Int)] 29)).alloc (.cells #[.int .i64 1, .int .i64 a, .int .i64 b, .int .i64 c, .string s, .string t] 31)) = W0 := ⟨_, rfl⟩
  obtain ⟨Q0, TB, OB⟩ := owed_w0 w R wk 1 a b c s t W0 hW0
  have QH := hide Q0
  have TBH := hide TB
  have OBH := hide OB
  clear Q0 TB OB
  have o0 := (unhide OBH).cell 0
  have o1 := (unhide OBH).cell 1
  have o2 := (unhide OBH).cell 2
  have o3 := (unhide OBH).cell 3
  have o4 := (unhide OBH).cell 4
  have t3 := (unhide TBH).cell 3
  simp [imgC] at o0 o1 o2 o3 o4 t3
  unfold owedPost
  go_enter Try.func25, Try.ntmps25
  go_wp2_with fail
  refine (unhide hqd W0).mono ?_
  clear hqd
  rintro e w1 ⟨V, rfl, q1, hV⟩
  have q1H : Hid (Quiet w w1) := (unhide QH).trans q1
  have TB1 := q1.blk (unhide TBH)
  have OB1 := q1.blk (unhide OBH)
  have p0 := OB1.cell 0
  have p1 := OB1.cell 1
  have p2 := OB1.cell 2
  have p3 := TB1.cell 3
  simp [imgC] at p0 p1 p2 p3
  clear hV q1 TB1 OB1
  go_wp2
  go_quiet (fail)
  go_wp2
  go_ret2
  exact ⟨rfl, (unhide q1H).drewN _⟩

set_option maxRecDepth 100000 in
set_option maxHeartbeats 8000000 in
theorem owed_load_reg (w : World) (R : Nat → ByteArray) (wk : Nat) (a b c : Int) (s t : ByteArray) (hE : quadsE s = 0) (hreg : regP a = false) :
    Calls Try.prog 25 #[.agg #[.string (R 0), .string (R 1), .string (R 2), .int .i64 (wk : Int)], .agg #[.int .i64 1, .int .i64 a, .int .i64 b, .int .i64 c, .string s, .string t]] w (owedPost w 4 wk) := by
  have hqd := hide (fun W => quadsM_any W s)
  unfold quadsPost at hqd
  rw [hE] at hqd
  have hc := hide (fun W => reg_any W a)
  rw [hreg] at hc
  clear hreg hE
  obtain ⟨W0, hW0⟩ : ∃ W0, ((w.alloc (.cells #[.string (R 0), .string (R 1), .string (R 2), .int .i64 (wk : Int)] 29)).alloc (.cells #[.int .i64 1, .int .i64 a, .int .i64 b, .int .i64 c, .string s, .string t] 31)) = W0 := ⟨_, rfl⟩
  obtain ⟨Q0, TB, OB⟩ := owed_w0 w R wk 1 a b c s t W0 hW0
  have QH := hide Q0
  have TBH := hide TB
  have OBH := hide OB
  clear Q0 TB OB
  have o0 := (unhide OBH).cell 0
  have o1 := (unhide OBH).cell 1
  have o2 := (unhide OBH).cell 2
  have o3 := (unhide OBH).cell 3
  have o4 := (unhide OBH).cell 4
  have t3 := (unhide TBH).cell 3
  simp [imgC] at o0 o1 o2 o3 o4 t3
  unfold owedPost
  go_enter Try.func25, Try.ntmps25
  go_wp2_with fail
  refine (unhide hqd W0).mono ?_
  clear hqd
  rintro e w1 ⟨V, rfl, q1, hV⟩
  have q1H : Hid (Quiet w w1) := (unhide QH).trans q1
  have TB1 := q1.blk (unhide TBH)
  have OB1 := q1.blk (unhide OBH)
  have p0 := OB1.cell 0
  have p1 := OB1.cell 1
  have p2 := OB1.cell 2
  have p3 := TB1.cell 3
  simp [imgC] at p0 p1 p2 p3
  clear hV q1 TB1 OB1
  go_wp2_with fail
  refine (unhide hc _).mono ?_
  rintro e w' ⟨rfl, hw'⟩
  subst hw'
  go_wp2
  go_quiet (fail)
  go_wp2
  go_ret2
  exact ⟨rfl, (unhide q1H).drewN _⟩

set_option maxRecDepth 100000 in
set_option maxHeartbeats 8000000 in
theorem owed_load (w : World) (R : Nat → ByteArray) (wk : Nat) (ka l : Nat) (b c : Int) (s t : ByteArray) (ha : ka < 3) (hl : l ≤ 16) (hsize : (R ka).size = 4 * l) (hE : quadsE s = 0) :
    Calls Try.prog 25 #[.agg #[.string (R 0), .string (R 1), .string (R 2), .int .i64 (wk : Int)], .agg #[.int .i64 1, .int .i64 (ka : Int), .int .i64 b, .int .i64 c, .string s, .string t]] w (owedPost w 0 wk) := by
  have hqd := hide (fun W => quadsM_any W s)
  unfold quadsPost at hqd
  rw [hE] at hqd
  have hsz := hsize
  have a0 : (0 : Int) ≤ (ka : Int) := by omega
  have a3 : (ka : Int) < 3 := by omega
  have sl : l < 1073741824 := by omega
  have hreg : regP (ka : Int) = true := by unfold regP; simp; omega
  have e4 : ((4 * l : Nat) : Int).tdiv 4 = (l : Int) := by rw [Int.tdiv_eq_ediv_of_nonneg (by omega)]; omega
  have wl : wrap64 (l : Int) = (l : Int) := wrap_small l sl
  have hlog := hide (fun W => log_any W l hl)
  have hc := hide (fun W => reg_any W (ka : Int))
  rw [hreg] at hc
  clear sl
  obtain ⟨W0, hW0⟩ : ∃ W0, ((w.alloc (.cells #[.string (R 0), .string (R 1), .string (R 2), .int .i64 (wk : Int)] 29)).alloc (.cells #[.int .i64 1, .int .i64 (ka : Int), .int .i64 b, .int .i64 c, .string s, .string t] 31)) = W0 := ⟨_, rfl⟩
  obtain ⟨Q0, TB, OB⟩ := owed_w0 w R wk 1 (ka : Int) b c s t W0 hW0
  have QH := hide Q0
  have TBH := hide TB
  have OBH := hide OB
  clear Q0 TB OB
  have o0 := (unhide OBH).cell 0
  have o1 := (unhide OBH).cell 1
  have o2 := (unhide OBH).cell 2
  have o3 := (unhide OBH).cell 3
  have o4 := (unhide OBH).cell 4
  have t3 := (unhide TBH).cell 3
  simp [imgC] at o0 o1 o2 o3 o4 t3
  have haH := hide ha
  clear hE ha hl hreg hsize
  unfold owedPost
  go_enter Try.func25, Try.ntmps25
  go_wp2_with fail
  refine (unhide hqd W0).mono ?_
  clear hqd
  rintro e w1 ⟨V, rfl, q1, hV⟩
  have q1H : Hid (Quiet w w1) := (unhide QH).trans q1
  have TB1 := q1.blk (unhide TBH)
  have OB1 := q1.blk (unhide OBH)
  have p0 := OB1.cell 0
  have p1 := OB1.cell 1
  have p2 := OB1.cell 2
  have p3 := TB1.cell 3
  simp [imgC] at p0 p1 p2 p3
  have ra := TB1.cell ka
  rw [imgC_get _ _ ka (unhide haH)] at ra
  generalize R ka = RK at *
  generalize log2P l = LL at *
  clear hV q1 TB1 OB1
  go_wp2_with fail
  refine (unhide hc _).mono ?_
  rintro e w' ⟨rfl, hw'⟩
  subst hw'
  go_wp2_with fail
  refine (unhide hlog _).mono ?_
  rintro e w' ⟨rfl, hw'⟩
  subst hw'
  by_cases hLL : LL < 0
  · go_wp2
    go_quiet (fail)
    go_wp2
    go_ret2
    exact ⟨rfl, (unhide q1H).drewN _⟩
  · go_wp2
    go_quiet (fail)
    go_wp2
    go_ret2
    exact ⟨rfl, (unhide q1H).drewN _⟩

set_option maxRecDepth 100000 in
set_option maxHeartbeats 8000000 in
theorem owed_at_lo (w : World) (R : Nat → ByteArray) (wk : Nat) (ka l : Nat) (b c : Int) (s t : ByteArray) (ha : ka < 3) (hl : l ≤ 16) (hsize : (R ka).size = 4 * l) (hb : b < 0) :
    Calls Try.prog 25 #[.agg #[.string (R 0), .string (R 1), .string (R 2), .int .i64 (wk : Int)], .agg #[.int .i64 2, .int .i64 (ka : Int), .int .i64 b, .int .i64 c, .string s, .string t]] w (owedPost w 5 wk) := by
  have hsz := hsize
  have a0 : (0 : Int) ≤ (ka : Int) := by omega
  have a3 : (ka : Int) < 3 := by omega
  have sl : l < 1073741824 := by omega
  have hreg : regP (ka : Int) = true := by unfold regP; simp; omega
  have e4 : ((4 * l : Nat) : Int).tdiv 4 = (l : Int) := by rw [Int.tdiv_eq_ediv_of_nonneg (by omega)]; omega
  have wl : wrap64 (l : Int) = (l : Int) := wrap_small l sl
  have hlog := hide (fun W => log_any W l hl)
  have hc := hide (fun W => reg_any W (ka : Int))
  rw [hreg] at hc
  clear sl
  obtain ⟨W0, hW0⟩ : ∃ W0, ((w.alloc (.cells #[.string (R 0), .string (R 1), .string (R 2), .int .i64 (wk : Int)] 29)).alloc (.cells #[.int .i64 2, .int .i64 (ka : Int), .int .i64 b, .int .i64 c, .string s, .string t] 31)) = W0 := ⟨_, rfl⟩
  obtain ⟨Q0, TB, OB⟩ := owed_w0 w R wk 2 (ka : Int) b c s t W0 hW0
  have QH := hide Q0
  have TBH := hide TB
  have OBH := hide OB
  clear Q0 TB OB
  have o0 := (unhide OBH).cell 0
  have o1 := (unhide OBH).cell 1
  have o2 := (unhide OBH).cell 2
  have o3 := (unhide OBH).cell 3
  have o4 := (unhide OBH).cell 4
  have t3 := (unhide TBH).cell 3
  simp [imgC] at o0 o1 o2 o3 o4 t3
  have ra := (unhide TBH).cell ka
  rw [imgC_get _ _ ka ha] at ra
  clear ha hl hreg hsize
  generalize R ka = RK at *
  unfold owedPost
  go_enter Try.func25, Try.ntmps25
  generalize log2P l = LL at *
  go_wp2_with fail
  refine (unhide hc _).mono ?_
  rintro e w' ⟨rfl, hw'⟩
  subst hw'
  go_wp2_with fail
  refine (unhide hlog _).mono ?_
  rintro e w' ⟨rfl, hw'⟩
  subst hw'
  by_cases hLL : LL < 0
  · go_wp2
    go_quiet (fail)
    go_wp2
    go_ret2
    exact ⟨rfl, (unhide QH).drewN _⟩
  · go_wp2
    go_quiet (fail)
    go_wp2
    go_ret2
    exact ⟨rfl, (unhide QH).drewN _⟩

set_option maxRecDepth 100000 in
set_option maxHeartbeats 8000000 in
theorem owed_at_hi (w : World) (R : Nat → ByteArray) (wk : Nat) (ka l : Nat) (b c : Int) (s t : ByteArray) (ha : ka < 3) (hl : l ≤ 16) (hsize : (R ka).size = 4 * l) (hb : ¬ b < 0) (hb2 : (l : Int) ≤ b) :
    Calls Try.prog 25 #[.agg #[.string (R 0), .string (R 1), .string (R 2), .int .i64 (wk : Int)], .agg #[.int .i64 2, .int .i64 (ka : Int), .int .i64 b, .int .i64 c, .string s, .string t]] w (owedPost w 5 wk) := by
  have hsz := hsize
  have a0 : (0 : Int) ≤ (ka : Int) := by omega
  have a3 : (ka : Int) < 3 := by omega
  have sl : l < 1073741824 := by omega
  have hreg : regP (ka : Int) = true := by unfold regP; simp; omega
  have e4 : ((4 * l : Nat) : Int).tdiv 4 = (l : Int) := by rw [Int.tdiv_eq_ediv_of_nonneg (by omega)]; omega
  have wl : wrap64 (l : Int) = (l : Int) := wrap_small l sl
  have hlog := hide (fun W => log_any W l hl)
  have hc := hide (fun W => reg_any W (ka : Int))
  rw [hreg] at hc
  clear sl
  obtain ⟨W0, hW0⟩ : ∃ W0, ((w.alloc (.cells #[.string (R 0), .string (R 1), .string (R 2), .int .i64 (wk : Int)] 29)).alloc (.cells #[.int .i64 2, .int .i64 (ka : Int), .int .i64 b, .int .i64 c, .string s, .string t] 31)) = W0 := ⟨_, rfl⟩
  obtain ⟨Q0, TB, OB⟩ := owed_w0 w R wk 2 (ka : Int) b c s t W0 hW0
  have QH := hide Q0
  have TBH := hide TB
  have OBH := hide OB
  clear Q0 TB OB
  have o0 := (unhide OBH).cell 0
  have o1 := (unhide OBH).cell 1
  have o2 := (unhide OBH).cell 2
  have o3 := (unhide OBH).cell 3
  have o4 := (unhide OBH).cell 4
  have t3 := (unhide TBH).cell 3
  simp [imgC] at o0 o1 o2 o3 o4 t3
  have ra := (unhide TBH).cell ka
  rw [imgC_get _ _ ka ha] at ra
  clear ha hl hreg hsize
  generalize R ka = RK at *
  unfold owedPost
  go_enter Try.func25, Try.ntmps25
  generalize log2P l = LL at *
  go_wp2_with fail
  refine (unhide hc _).mono ?_
  rintro e w' ⟨rfl, hw'⟩
  subst hw'
  go_wp2_with fail
  refine (unhide hlog _).mono ?_
  rintro e w' ⟨rfl, hw'⟩
  subst hw'
  by_cases hLL : LL < 0
  · go_wp2
    go_quiet (fail)
    go_wp2
    go_ret2
    exact ⟨rfl, (unhide QH).drewN _⟩
  · go_wp2
    go_quiet (fail)
    go_wp2
    go_ret2
    exact ⟨rfl, (unhide QH).drewN _⟩

set_option maxRecDepth 100000 in
set_option maxHeartbeats 8000000 in
theorem owed_at (w : World) (R : Nat → ByteArray) (wk : Nat) (ka l : Nat) (b c : Int) (s t : ByteArray) (ha : ka < 3) (hl : l ≤ 16) (hsize : (R ka).size = 4 * l) (hb : ¬ b < 0) (hb2 : ¬ (l : Int) ≤ b) :
    Calls Try.prog 25 #[.agg #[.string (R 0), .string (R 1), .string (R 2), .int .i64 (wk : Int)], .agg #[.int .i64 2, .int .i64 (ka : Int), .int .i64 b, .int .i64 c, .string s, .string t]] w (owedPost w 0 wk) := by
  have hsz := hsize
  have a0 : (0 : Int) ≤ (ka : Int) := by omega
  have a3 : (ka : Int) < 3 := by omega
  have sl : l < 1073741824 := by omega
  have hreg : regP (ka : Int) = true := by unfold regP; simp; omega
  have e4 : ((4 * l : Nat) : Int).tdiv 4 = (l : Int) := by rw [Int.tdiv_eq_ediv_of_nonneg (by omega)]; omega
  have wl : wrap64 (l : Int) = (l : Int) := wrap_small l sl
  have hlog := hide (fun W => log_any W l hl)
  have hc := hide (fun W => reg_any W (ka : Int))
  rw [hreg] at hc
  clear sl
  obtain ⟨W0, hW0⟩ : ∃ W0, ((w.alloc (.cells #[.string (R 0), .string (R 1), .string (R 2), .int .i64 (wk : Int)] 29)).alloc (.cells #[.int .i64 2, .int .i64 (ka : Int), .int .i64 b, .int .i64 c, .string s, .string t] 31)) = W0 := ⟨_, rfl⟩
  obtain ⟨Q0, TB, OB⟩ := owed_w0 w R wk 2 (ka : Int) b c s t W0 hW0
  have QH := hide Q0
  have TBH := hide TB
  have OBH := hide OB
  clear Q0 TB OB
  have o0 := (unhide OBH).cell 0
  have o1 := (unhide OBH).cell 1
  have o2 := (unhide OBH).cell 2
  have o3 := (unhide OBH).cell 3
  have o4 := (unhide OBH).cell 4
  have t3 := (unhide TBH).cell 3
  simp [imgC] at o0 o1 o2 o3 o4 t3
  have ra := (unhide TBH).cell ka
  rw [imgC_get _ _ ka ha] at ra
  clear ha hl hreg hsize
  generalize R ka = RK at *
  unfold owedPost
  go_enter Try.func25, Try.ntmps25
  generalize log2P l = LL at *
  go_wp2_with fail
  refine (unhide hc _).mono ?_
  rintro e w' ⟨rfl, hw'⟩
  subst hw'
  go_wp2_with fail
  refine (unhide hlog _).mono ?_
  rintro e w' ⟨rfl, hw'⟩
  subst hw'
  by_cases hLL : LL < 0
  · go_wp2
    go_quiet (fail)
    go_wp2
    go_ret2
    exact ⟨rfl, (unhide QH).drewN _⟩
  · go_wp2
    go_quiet (fail)
    go_wp2
    go_ret2
    exact ⟨rfl, (unhide QH).drewN _⟩
end Go.Proofs.Qxb6500368a
