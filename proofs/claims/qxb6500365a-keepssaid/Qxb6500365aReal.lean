/-
  THE REAL GATE's METHODS (1).
-/
import Derived.Test.Qxb6500365aPlain
import Derived.BigRegion
namespace Go.Proofs.Qxb6500365a
open Go.RowKit Go.Qx Ieee
set_option linter.unusedVariables false
set_option linter.unusedSimpArgs false

theorem isDenom_any (w : World) (d : Int) : Calls Try.prog 33 #[.int .i64 d] w fun ex w' => ex = .returned (.bool (decide (Ten d))) ∧ w' = w := by
  by_cases ht : Ten d
  · rw [decide_eq_true ht]
    unfold Ten at ht
    rcases ht with rfl | rfl | rfl | rfl | rfl | rfl | rfl | rfl | rfl | rfl <;>
    · go_enter Try.func33, Try.ntmps33
      go_wp2
      go_ret
      exact ⟨rfl, rfl⟩
  · rw [decide_eq_false ht]
    unfold Ten at ht
    have n1 : (d == 1) = false := by simp; omega
    have n2 : (d == 2) = false := by simp; omega
    have n4 : (d == 4) = false := by simp; omega
    have n8 : (d == 8) = false := by simp; omega
    have n16 : (d == 16) = false := by simp; omega
    have n32 : (d == 32) = false := by simp; omega
    have n64 : (d == 64) = false := by simp; omega
    have n100 : (d == 100) = false := by simp; omega
    have n1000 : (d == 1000) = false := by simp; omega
    have n10000 : (d == 10000) = false := by simp; omega
    clear ht
    go_enter Try.func33, Try.ntmps33
    go_wp2
    go_ret
    exact ⟨rfl, rfl⟩

def binP (d : Int) : Bool := d == 1 || d == 2 || d == 4 || d == 8 || d == 16 || d == 32 || d == 64
theorem isBinary_any (w : World) (d : Int) (hd : Ten d) : Calls Try.prog 31 #[.int .i64 d] w fun ex w' => ex = .returned (.bool (binP d)) ∧ w' = w := by
  unfold Ten at hd
  rcases hd with rfl | rfl | rfl | rfl | rfl | rfl | rfl | rfl | rfl | rfl <;>
  · go_enter Try.func31, Try.ntmps31
    go_wp2
    go_ret
    exact ⟨rfl, rfl⟩
theorem binP_iff (d : Int) : binP d = true ↔ Bin d := by
  unfold binP Bin
  simp [Bool.or_eq_true, beq_iff_eq, or_assoc]

def sumP (S : GS) : Int × Int := if binP S.d then (S.s, 0) else (0, 11)
set_option maxHeartbeats 1000000 in
theorem sum_any (w : World) (g : Nat) (S : GS) (R : Rep w g S) (I : Inv S) :
    Calls Try.prog 20 #[.pointer (some ⟨g, 0, none⟩)] w fun ex w' => ex = .returned (.tuple #[.int .i64 (sumP S).1, .int .i64 (sumP S).2]) ∧ Quiet w w' := by
  obtain ⟨x, px, vo, no, b, T, hp, hv, hk⟩ := R
  have c0 : w.cell? ⟨g, 0, none⟩ = some (.int .i64 S.d) := b.cell 0
  have c1 : w.cell? ⟨g, 1, none⟩ = some (.float .f64 (floatOfInt .f64 S.d)) := b.cell 1
  have c5 : w.cell? ⟨g, 5, none⟩ = some (.float .f64 px) := b.cell 5
  have hb := isBinary_any w S.d I.ten
  have hs := I.s1
  have hn := I.n1
  by_cases hbin : binP S.d = true
  · obtain ⟨y, e1, e2⟩ := sum_way ((binP_iff _).1 hbin) hp (by omega)
    have h1 := ar_mul e1
    have h2 := cv_int (whole_way e2 (by omega))
    have hfin : Hid (sumP S = (S.s, 0)) := by show _ = _; unfold sumP; rw [if_pos hbin]
    rw [unhide hfin]
    rw [hbin] at hb
    clear b T hp hv hk e1 e2 I hs hn hfin
    obtain ⟨d, t, e, q, n, s, v, k⟩ := S
    dsimp only at *
    generalize floatOfInt .f64 d = fd at *
    clear hbin
    go_enter Try.func20, Try.ntmps20
    go_wp2_with fail
    refine hb.mono ?_
    clear hb
    rintro e w1 ⟨rfl, rfl⟩
    go_wp2
    go_quiet (fail)
    go_wp2
    go_ret2
    exact ⟨rfl, (Chg.refl _ _).drewN _⟩
  · have hfin : Hid (sumP S = (0, 11)) := by show _ = _; unfold sumP; rw [if_neg hbin]
    rw [unhide hfin]
    rw [Bool.eq_false_iff.2 hbin] at hb
    clear b T hp hv hk I hs hn hfin hbin
    go_enter Try.func20, Try.ntmps20
    go_wp2_with fail
    refine hb.mono ?_
    clear hb
    rintro e w1 ⟨rfl, rfl⟩
    go_wp2
    go_ret2
    exact ⟨rfl, Chg.refl _ _⟩

def first (d : Int) : GS := ⟨d, 0, 0, 1, 0, 0, 0, 0⟩
theorem f32_one : floatOfInt .f32 1 = 1065353216 := by decide +kernel
theorem f64_one : floatOfInt .f64 1 = 4607182418800017408 := by decide +kernel
theorem rep_first {w : World} {g : Nat} {d : Int} (hd : Ten d) (b : Blk w g 38 [.int .i64 d, .float .f64 (floatOfInt .f64 d), .float .f64 0, .float .f32 1065353216, .int .i64 0, .float .f64 0, .float .f64 0, .float .f64 0]) : Rep w g (first d) := by
  refine ⟨0, 0, 0, 0, ?_, tick_zero hd dbl_c0, ⟨0, dbl_c0, ?_⟩, ?_, ?_⟩
  · unfold cellsG first
    dsimp only
    rw [f32_one]; exact b
  · by_cases h : Bin d
    · exact .inl ⟨h, by unfold first; dsimp only; rw [Int.zero_mul, Int.zero_mul]⟩
    · exact .inr ⟨h, by unfold first; dsimp only; rw [Int.zero_mul]; decide, by unfold first; dsimp only; rw [Int.zero_mul]; decide⟩
  · unfold first; dsimp only; rw [Int.zero_mul]; exact dbl_c0
  · unfold first; dsimp only; rw [Int.zero_mul]; exact dbl_c0
theorem inv_first {d : Int} (hd : Ten d) : Inv (first d) := by
  unfold first
  refine ⟨hd, ?_, ?_, ?_, ?_, ?_, ?_, ?_, ?_, ?_, ?_, ?_, ?_, ?_⟩ <;> dsimp only <;> first | decide | (intro _; rfl)

set_option maxHeartbeats 1000000 in
theorem new_any (w : World) : Calls Try.prog 9 #[] w fun ex w' => ∃ g, ex = .returned (.pointer (some ⟨g, 0, none⟩)) ∧ Quiet w w' ∧ w.heap.size ≤ g ∧ Rep w' g (first 1) := by
  go_enter Try.func9, Try.ntmps9
  go_wp2
  go_ret
  refine ⟨_, rfl, (Chg.refl _ _).alloc _, Nat.le_refl _, rep_first (.inl rfl) ?_⟩
  rw [f64_one]
  exact Blk.new w 38 _

set_option maxHeartbeats 1000000 in
theorem denom_any (w : World) (g : Nat) (S : GS) (R : Rep w g S) (d : Int) :
    Calls Try.prog 22 #[.pointer (some ⟨g, 0, none⟩), .int .i64 d] w fun ex w' => ex = .returned (.int .i64 (if decide (Ten d) then 0 else 1)) ∧ Chg (fun k => k = g) w w' ∧ Rep w' g (if decide (Ten d) then first d else S) := by
  have hd := isDenom_any w d
  have RH := hide R
  obtain ⟨x, px, vo, no, b, _⟩ := R
  by_cases ht : Ten d
  · rw [decide_eq_true ht] at hd
    rw [if_pos (decide_eq_true ht), if_pos (decide_eq_true ht)]
    have tH := hide ht
    have bH := hide b
    have c0 : w.cell? ⟨g, 0, none⟩ = some (.int .i64 S.d) := b.cell 0
    have c1 : w.cell? ⟨g, 1, none⟩ = some (.float .f64 (floatOfInt .f64 S.d)) := b.cell 1
    have c2 : w.cell? ⟨g, 2, none⟩ = some (.float .f64 x) := b.cell 2
    have c3 : w.cell? ⟨g, 3, none⟩ = some (.float .f32 (floatOfInt .f32 S.q)) := b.cell 3
    have c4 : w.cell? ⟨g, 4, none⟩ = some (.int .i64 S.n) := b.cell 4
    have c5 : w.cell? ⟨g, 5, none⟩ = some (.float .f64 px) := b.cell 5
    have c6 : w.cell? ⟨g, 6, none⟩ = some (.float .f64 vo) := b.cell 6
    have c7 : w.cell? ⟨g, 7, none⟩ = some (.float .f64 no) := b.cell 7
    have f0 : w.frozen? ⟨g, 0, none⟩ = false := b.frozen 0
    have f1 : w.frozen? ⟨g, 1, none⟩ = false := b.frozen 1
    have f2 : w.frozen? ⟨g, 2, none⟩ = false := b.frozen 2
    have f3 : w.frozen? ⟨g, 3, none⟩ = false := b.frozen 3
    have f4 : w.frozen? ⟨g, 4, none⟩ = false := b.frozen 4
    have f5 : w.frozen? ⟨g, 5, none⟩ = false := b.frozen 5
    have f6 : w.frozen? ⟨g, 6, none⟩ = false := b.frozen 6
    have f7 : w.frozen? ⟨g, 7, none⟩ = false := b.frozen 7
    clear ht RH b
    go_enter Try.func22, Try.ntmps22
    go_wp2_with fail
    refine hd.mono ?_
    clear hd
    rintro e w1 ⟨rfl, rfl⟩
    go_wp2
    go_ret
    have b1 := ((((((((unhide bH).set 0 (.int .i64 d)).set 1 (.float .f64 (floatOfInt .f64 d))).set 2 (.float .f64 0)).set 3 (.float .f32 1065353216)).set 4 (.int .i64 0)).set 5 (.float .f64 0)).set 6 (.float .f64 0)).set 7 (.float .f64 0)
    have h0 : Chg (fun k => k = g) w1 w1 := Chg.refl _ _
    exact ⟨rfl, chg_set (chg_set (chg_set (chg_set (chg_set (chg_set (chg_set (chg_set h0 _ _) _ _) _ _) _ _) _ _) _ _) _ _) _ _, rep_first (unhide tH) b1⟩
  · rw [decide_eq_false ht] at hd
    rw [if_neg (show ¬ decide (Ten d) = true by rw [decide_eq_false ht]; decide), if_neg (show ¬ decide (Ten d) = true by rw [decide_eq_false ht]; decide)]
    clear ht b
    go_enter Try.func22, Try.ntmps22
    go_wp2_with fail
    refine hd.mono ?_
    clear hd
    rintro e w1 ⟨rfl, rfl⟩
    go_wp2
    go_ret
    exact ⟨rfl, Chg.refl _ _, unhide RH⟩
end Go.Proofs.Qxb6500365a
