/-
  Keeps: Near, OddOwes.
-/
import Derived.Test.Qxb6500365aPlay
namespace Go.Proofs.Qxb6500365a
open Go.RowKit Go.Qx Ieee
set_option linter.unusedSimpArgs false
set_option linter.unusedVariables false

theorem round_facts (n d : Int) (hd : 1 ≤ d) : ((roundDiv n d).natAbs : Int) ≤ (n.natAbs : Int) / d + 1 ∧ (2 * ((roundDiv n d * d - n).natAbs : Int) < d ∨ (2 * ((roundDiv n d * d - n).natAbs : Int) = d ∧ n.natAbs < (roundDiv n d * d).natAbs)) := by
  unfold roundDiv
  rw [if_neg (by omega)]
  have hq1 := Int.mul_ediv_add_emod (n.natAbs : Int) d
  have hq2 := Int.emod_nonneg (n.natAbs : Int) (b := d) (by omega)
  have hq3 := Int.emod_lt_of_pos (n.natAbs : Int) (b := d) (by omega)
  have hq4 : 0 ≤ (n.natAbs : Int) / d := Int.ediv_nonneg (by omega) (by omega)
  generalize (n.natAbs : Int) / d = q at *
  generalize (n.natAbs : Int) % d = r at *
  have hqd : 0 ≤ d * q := Int.mul_nonneg (by omega) hq4
  by_cases hr : 2 * r ≥ d
  · rw [if_pos hr]
    have e : (q + 1) * d = d * q + d := by rw [Int.add_mul, Int.one_mul, Int.mul_comm]
    by_cases hn : n < 0
    · rw [if_pos hn]
      have e2 : -1 * (q + 1) * d = -(d * q + d) := by rw [Int.mul_assoc, e]; omega
      rw [e2]
      generalize d * q = z at *
      omega
    · rw [if_neg hn]
      have e2 : 1 * (q + 1) * d = d * q + d := by rw [Int.one_mul, e]
      rw [e2]
      generalize d * q = z at *
      omega
  · rw [if_neg hr]
    by_cases hn : n < 0
    · rw [if_pos hn]
      have e2 : -1 * (q + 0) * d = -(d * q) := by rw [Int.add_zero, Int.mul_assoc, Int.mul_comm q d]; omega
      rw [e2]
      generalize d * q = z at *
      omega
    · rw [if_neg hn]
      have e2 : 1 * (q + 0) * d = d * q := by rw [Int.add_zero, Int.one_mul, Int.mul_comm q d]
      rw [e2]
      generalize d * q = z at *
      omega

set_option maxHeartbeats 1000000 in
theorem near_any (w : World) (n d : Int) (h1 : n.natAbs < 2305843009213693952) (h2 : 1 ≤ d) (h3 : d ≤ 268435456) (h4 : (roundDiv n d).natAbs ≤ 1000000000000) : Calls Try.prog 32 #[.int .i64 (roundDiv n d), .int .i64 n, .int .i64 d] w fun ex w' => ex = .returned (.bool true) ∧ ∃ j, w' = w.drewN j := by
  obtain ⟨r1, r2⟩ := round_facts n d h2
  generalize roundDiv n d = t at *
  obtain ⟨X, hX⟩ : ∃ X, t * d = X := ⟨_, rfl⟩
  rw [hX] at r2
  have hXb : X.natAbs < 4611686018427387904 := by omega
  have wX1 : IntKind.i64.wrap (t * d) = X := by rw [hX, IntKind.wrap_i64]; omega
  have wX2 : wrap64 (t * d) = X := by rw [hX]; exact wrap64_ok _ (by omega) (by omega)
  have wD1 : IntKind.i64.wrap (X - n) = X - n := by rw [IntKind.wrap_i64]; omega
  have wD2 : wrap64 (X - n) = X - n := wrap64_ok _ (by omega) (by omega)
  have a1 := hide (fun W => abs_any W n (by omega) (by omega))
  have a2 := hide (fun W => abs_any W t (by omega) (by omega))
  have a3 := hide (fun W => abs_any W (X - n) (by omega) (by omega))
  have a4 := hide (fun W => abs_any W X (by omega) (by omega))
  have d2 : (d == 0) = false := by simp; omega
  have d3 : (d == -1) = false := by simp; omega
  have d4 : (d = 0) = False := eq_false (by omega)
  have d5 : (d = -1) = False := eq_false (by omega)
  have t1 : (t < -1000000000000) = False := eq_false (by omega)
  have t2 : (1000000000000 < t) = False := eq_false (by omega)
  have td : ((n.natAbs : Int)).tdiv d = (n.natAbs : Int) / d := Int.tdiv_eq_ediv_of_nonneg (by omega)
  have hq0 : 0 ≤ (n.natAbs : Int) / d := Int.ediv_nonneg (by omega) (by omega)
  have hq1 : (n.natAbs : Int) / d ≤ (n.natAbs : Int) := Int.ediv_le_self _ (by omega)
  generalize hQ : (n.natAbs : Int) / d = Q at *
  have q1 : IntKind.i64.wrap Q = Q := by rw [IntKind.wrap_i64]; omega
  have q2 : IntKind.i64.wrap (Q + 1) = Q + 1 := by rw [IntKind.wrap_i64]; omega
  have t3 : (Q + 1 < (t.natAbs : Int)) = False := eq_false (by omega)
  obtain ⟨E, hE⟩ : ∃ E : Int, ((X - n).natAbs : Int) = E := ⟨_, rfl⟩
  rw [hE] at a3 r2
  have wE : wrap64 (2 * E) = 2 * E := wrap64_ok _ (by omega) (by omega)
  obtain ⟨A, hA⟩ : ∃ A : Int, (n.natAbs : Int) = A := ⟨_, rfl⟩
  obtain ⟨T, hT⟩ : ∃ T : Int, (t.natAbs : Int) = T := ⟨_, rfl⟩
  obtain ⟨Y, hY⟩ : ∃ Y : Int, (X.natAbs : Int) = Y := ⟨_, rfl⟩
  rw [hA] at a1 td
  rw [hT] at a2 t3
  rw [hY] at a4
  have r3 : 2 * E < d ∨ (2 * E = d ∧ A < Y) := by omega
  clear r1 r2 hX hXb hq0 hq1 hQ hE h1 h2 h3 h4
  rcases r3 with r3 | ⟨r3, r4⟩
  · have r3' : (2 * E < d) = True := eq_true r3
    clear r3 hA hT hY
    go_enter Try.func32, Try.ntmps32
    go_wp2_with fail
    refine (unhide a1 _).mono ?_
    rintro ex w1 ⟨rfl, rfl⟩
    go_wp2
    go_quiet ((go_at_call 35; exact Calls.quiet_of_same (unhide a2 _)))
    go_wp2_with fail
    refine (unhide a3 _).mono ?_
    rintro ex w2 ⟨rfl, rfl⟩
    go_wp2_with fail
    refine (unhide a4 _).mono ?_
    rintro ex w3 ⟨rfl, rfl⟩
    go_wp2
    go_ret
    exact ⟨rfl, _, rfl⟩
  · have r3' : (2 * E < d) = False := eq_false (by omega)
    have r5 : (2 * E == d) = true := by simpa using r3
    have r6 : (A < Y) = True := eq_true r4
    clear r3 r4 hA hT hY
    go_enter Try.func32, Try.ntmps32
    go_wp2_with fail
    refine (unhide a1 _).mono ?_
    rintro ex w1 ⟨rfl, rfl⟩
    go_wp2
    go_quiet ((go_at_call 35; exact Calls.quiet_of_same (unhide a2 _)))
    go_wp2_with fail
    refine (unhide a3 _).mono ?_
    rintro ex w2 ⟨rfl, rfl⟩
    go_wp2_with fail
    refine (unhide a4 _).mono ?_
    rintro ex w3 ⟨rfl, rfl⟩
    go_wp2
    go_ret
    exact ⟨rfl, _, rfl⟩

theorem near_draw {w w2 : World} {n : Nat} (h : ∃ j, w2 = (w.drewN n).drewN j) : ∃ m, w2 = w.drewN m := by
  obtain ⟨j, h⟩ := h
  exact ⟨n + j, by rw [h, World.drewN_drewN]⟩
set_option maxHeartbeats 1000000 in
theorem oddOwes_any (w : World) (k : Int) (h1 : 1 ≤ k) (h2 : k ≤ 7) : Calls Try.prog 34 #[.int .i64 k] w fun ex w' => ex = .returned (ansv (oddT k) 0 0 ⟨#[]⟩) ∧ Quiet w w' := by
  have hk : k = 1 ∨ k = 2 ∨ k = 3 ∨ k = 4 ∨ k = 5 ∨ k = 6 ∨ k = 7 := by omega
  rcases hk with rfl | rfl | rfl | rfl | rfl | rfl | rfl
  · go_enter Try.func34, Try.ntmps34
    go_wp2
    refine bodyPost_ret (v := ansv 6 0 0 ⟨#[]⟩) (by simp [results, Try.results34, go_sem, ansv, ansC]) rfl ⟨rfl, (Chg.refl _ _).alloc _⟩
  · go_enter Try.func34, Try.ntmps34
    go_wp2
    refine bodyPost_ret (v := ansv 7 0 0 ⟨#[]⟩) (by simp [results, Try.results34, go_sem, ansv, ansC]) rfl ⟨rfl, (Chg.refl _ _).alloc _⟩
  · go_enter Try.func34, Try.ntmps34
    go_wp2
    refine bodyPost_ret (v := ansv 7 0 0 ⟨#[]⟩) (by simp [results, Try.results34, go_sem, ansv, ansC]) rfl ⟨rfl, (Chg.refl _ _).alloc _⟩
  · go_enter Try.func34, Try.ntmps34
    go_wp2
    refine bodyPost_ret (v := ansv 8 0 0 ⟨#[]⟩) (by simp [results, Try.results34, go_sem, ansv, ansC]) rfl ⟨rfl, (Chg.refl _ _).alloc _⟩
  · go_enter Try.func34, Try.ntmps34
    go_wp2
    refine bodyPost_ret (v := ansv 8 0 0 ⟨#[]⟩) (by simp [results, Try.results34, go_sem, ansv, ansC]) rfl ⟨rfl, (Chg.refl _ _).alloc _⟩
  · go_enter Try.func34, Try.ntmps34
    go_wp2
    refine bodyPost_ret (v := ansv 0 0 0 ⟨#[]⟩) (by simp [results, Try.results34, go_sem, ansv, ansC]) rfl ⟨rfl, (Chg.refl _ _).alloc _⟩
  · go_enter Try.func34, Try.ntmps34
    go_wp2
    refine bodyPost_ret (v := ansv 0 0 0 ⟨#[]⟩) (by simp [results, Try.results34, go_sem, ansv, ansC]) rfl ⟨rfl, (Chg.refl _ _).alloc _⟩
end Go.Proofs.Qxb6500365a
