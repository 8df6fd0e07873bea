/-
  THE REAL MESH: Unlink, Deliver.
-/
import Derived.Test.Qxb6500364aLink
namespace Go.Proofs.Qxb6500364a
open Go.RowKit Go.Qx
set_option linter.unusedVariables false
set_option linter.unusedSimpArgs false

theorem live_cases (C : Nat → Nat → Int) (a b : Int) : (∃ i j : Nat, a = i ∧ b = j ∧ i < 5 ∧ j < 5 ∧ i ≠ j ∧ endsP a b = 0 ∧ C i j ≠ 0 ∧ liveP C a b = 0) ∨ liveP C a b ≠ 0 := by
  rcases ends_cases a b with ⟨i, j, rfl, rfl, hi, hj, hij, e0⟩ | ⟨hne, _⟩
  · by_cases hz : C i j = 0
    · right
      rw [show liveP C i j = 4 by simp [liveP, e0, hz]]; decide
    · left
      exact ⟨i, j, rfl, rfl, hi, hj, hij, e0, hz, by simp [liveP, e0, hz]⟩
  · right
    rw [show liveP C a b = endsP a b by simp [liveP, hne]]; exact hne

def unC (C : Nat → Nat → Int) (a b : Int) : Nat → Nat → Int := if liveP C a b = 0 then lk C a.toNat b.toNat 0 else C
def unH (C : Nat → Nat → Int) (H : Nat → Nat → Nat → Int) (a b : Int) : Nat → Nat → Nat → Int := if liveP C a b = 0 then lk H a.toNat b.toNat (fun _ => 16) else H

set_option maxHeartbeats 1000000 in
theorem unlink_any (w : World) (x r : Nat) (n : Nat → Nat) (C : Nat → Nat → Int) (H : Nat → Nat → Nat → Int) (R : Rep w x r n C H) (I : Inv C H) (a b : Int) : Calls Try.prog 26 #[ptr x, .int .i64 a, .int .i64 b] w (repPost w x r n (liveP C a b) (unC C a b) (unH C H a b)) := by
  have he := live_any w x r n C H R a b
  rcases live_cases C a b with ⟨i, j, rfl, rfl, hi, hj, hij, e0, hz, el⟩ | hne
  · rw [el] at he
    have e2 : Hid (unC C i j = lk C i j 0) := by show _ = _; simp [unC, el]
    have e3 : Hid (unH C H i j = lk H i j (fun _ => 16)) := by show _ = _; simp [unH, el]
    rw [unhide e2, unhide e3, el]
    have i0 : (0 : Int) ≤ (i : Int) := by omega
    have i1 : (i : Int) < 5 := by omega
    have j0 : (0 : Int) ≤ (j : Int) := by omega
    have j1 : (j : Int) < 5 := by omega
    have c0 := R.blk.cell 0
    simp at c0
    have cr : w.cell? ⟨r, i, none⟩ = some (.pointer (some ⟨n i, 0, none⟩)) := (R.row.cell i).trans (rowC_get n i hi)
    have hstep : Hid (Calls Try.prog 22 #[.pointer (some ⟨n i, 0, none⟩), .int .i64 j, .int .i64 0] w fun e w' => e = .returned (.tuple #[]) ∧ Chg (own x r n) w w' ∧ w'.cell? ⟨x, 0, none⟩ = some (.slice (some ⟨r, 0, none⟩) 5 5) ∧ w'.cell? ⟨r, j, none⟩ = some (.pointer (some ⟨n j, 0, none⟩)) ∧ Hid (Calls Try.prog 22 #[.pointer (some ⟨n j, 0, none⟩), .int .i64 i, .int .i64 0] w' fun e w'' => e = .returned (.tuple #[]) ∧ Chg (own x r n) w' w'' ∧ Rep w'' x r n (lk C i j 0) (lk H i j (fun _ => 16)))) := by
      refine Calls.mono (wire_rep R i j hi hj 0 (by omega) (I.ok i hi) (upd H i (upd (H i) j (fun _ => 16))) (by rw [if_pos rfl])) ?_
      rintro e w' ⟨h1, h2, R2⟩
      have d0 := R2.blk.cell 0
      simp at d0
      refine ⟨h1, h2, d0, (R2.row.cell j).trans (rowC_get n j hj), ?_⟩
      have o2 : NdOk (mended j ((upd C i (upd (C i) j 0)) j) ((upd H i (upd (H i) j (fun _ => 16))) j)) := by
        have k1 : (upd C i (upd (C i) j 0)) j = C j := by simp [upd, Ne.symm hij]
        have k2 : (upd H i (upd (H i) j (fun _ => 16))) j = H j := by simp [upd, Ne.symm hij]
        rw [k1, k2]; exact I.ok j hj
      have h3 := wire_rep R2 j i hj hi 0 (by omega) o2 _ rfl
      rw [two_lk C i j 0 hij, if_pos rfl, two_lkH H i j (fun _ => 16) hij] at h3
      exact h3
    unfold repPost ptr at *
    clear R e2 e3 e0 hz el
    go_enter Try.func26, Try.ntmps26
    go_wp2_with fail
    refine he.mono ?_
    rintro e w' ⟨rfl, rfl⟩
    go_wp2_with fail
    refine (unhide hstep).mono ?_
    rintro e w2 ⟨rfl, ch2, d0, d1, hcall⟩
    clear hstep
    go_wp2_with fail
    refine (unhide hcall).mono ?_
    rintro e w3 ⟨rfl, ch3, R3⟩
    have R3H := hide R3
    have chH := hide (ch2.trans ch3)
    clear R3 ch2 ch3 hcall
    go_wp2
    go_ret
    exact ⟨rfl, unhide chH, unhide R3H⟩
  · have e2 : Hid (unC C a b = C) := by show _ = _; simp [unC, hne]
    have e3 : Hid (unH C H a b = H) := by show _ = _; simp [unH, hne]
    rw [unhide e2, unhide e3]
    unfold repPost ptr at *
    have z1 : (liveP C a b == 0) = false := by simpa using hne
    have RH := hide R
    clear e2 e3 hne R
    generalize liveP C a b = E at *
    go_enter Try.func26, Try.ntmps26
    go_wp2_with fail
    refine he.mono ?_
    rintro e w' ⟨rfl, rfl⟩
    go_wp2
    go_ret
    exact ⟨rfl, Chg.refl _ _, unhide RH⟩

/-- a's vector. -/
def vecP (C : Nat → Nat → Int) (H : Nat → Nat → Nat → Int) (a d : Nat) : Int := (bestP a (C a) (H a) d).1

def delH (C : Nat → Nat → Int) (H : Nat → Nat → Nat → Int) (a b : Int) : Nat → Nat → Nat → Int := if liveP C a b = 0 then upd H b.toNat (upd (H b.toNat) a.toNat (vecP C H a.toNat)) else H

set_option maxHeartbeats 1000000 in
theorem deliver_any (w : World) (x r : Nat) (n : Nat → Nat) (C : Nat → Nat → Int) (H : Nat → Nat → Nat → Int) (R : Rep w x r n C H) (I : Inv C H) (a b : Int) : Calls Try.prog 27 #[ptr x, .int .i64 a, .int .i64 b] w (repPost w x r n (liveP C a b) C (delH C H a b)) := by
  have he := live_any w x r n C H R a b
  rcases live_cases C a b with ⟨i, j, rfl, rfl, hi, hj, hij, e0, hz, el⟩ | hne
  · rw [el] at he
    have e3 : Hid (delH C H i j = upd H j (upd (H j) i (vecP C H i))) := by show _ = _; simp [delH, el]
    rw [unhide e3, el]
    have i0 : (0 : Int) ≤ (i : Int) := by omega
    have i1 : (i : Int) < 5 := by omega
    have j0 : (0 : Int) ≤ (j : Int) := by omega
    have j1 : (j : Int) < 5 := by omega
    have c0 := R.blk.cell 0
    simp at c0
    have hown : Hid (∀ k, own x r n k → k < w.heap.size) := R.lts
    have cr : w.cell? ⟨r, i, none⟩ = some (.pointer (some ⟨n i, 0, none⟩)) := (R.row.cell i).trans (rowC_get n i hi)
    have cr2 : w.cell? ⟨r, j, none⟩ = some (.pointer (some ⟨n j, 0, none⟩)) := (R.row.cell j).trans (rowC_get n j hj)
    have v0 : w.cell? ⟨n i, 31, none⟩ = some (.int .i64 (vecP C H i 0)) := cell_d (R.nd i hi) 0 (by omega)
    have v1 : w.cell? ⟨n i, 32, none⟩ = some (.int .i64 (vecP C H i 1)) := cell_d (R.nd i hi) 1 (by omega)
    have v2 : w.cell? ⟨n i, 33, none⟩ = some (.int .i64 (vecP C H i 2)) := cell_d (R.nd i hi) 2 (by omega)
    have v3 : w.cell? ⟨n i, 34, none⟩ = some (.int .i64 (vecP C H i 3)) := cell_d (R.nd i hi) 3 (by omega)
    have v4 : w.cell? ⟨n i, 35, none⟩ = some (.int .i64 (vecP C H i 4)) := cell_d (R.nd i hi) 4 (by omega)
    have hv : ∀ d, d < 5 → 0 ≤ vecP C H i d ∧ vecP C H i d ≤ 16 := fun d hd => ((I.ok i hi).best i hi d hd).1
    have hcall : Hid (∀ W, Quiet w W → Calls Try.prog 42 #[.pointer (some ⟨n j, 0, none⟩), .int .i64 i, .agg #[.int .i64 (vecP C H i 0), .int .i64 (vecP C H i 1), .int .i64 (vecP C H i 2), .int .i64 (vecP C H i 3), .int .i64 (vecP C H i 4)]] W fun e w' => e = .returned (.tuple #[]) ∧ Chg (own x r n) W w' ∧ Rep w' x r n C (upd H j (upd (H j) i (vecP C H i)))) := by
      intro W q
      refine Calls.mono (hear_any W (n j) j (C j) (H j) ((R.quiet q).nd j hj) (I.ok j hj) hj i hi (vecP C H i) hv) ?_
      rintro e w' ⟨h1, h2, h3⟩
      refine ⟨h1, (R.quiet q).turn j hj h2 ?_ ?_⟩
      · have : (upd H j (upd (H j) i (vecP C H i))) j = upd (H j) i (vecP C H i) := by simp [upd]
        rw [this]; exact h3
      · intro k hk hne
        exact ⟨rfl, by simp [upd, hne]⟩
    unfold repPost ptr at *
    clear R e3 e0 hz el hv
    generalize vecP C H i 0 = a0 at *
    generalize vecP C H i 1 = a1 at *
    generalize vecP C H i 2 = a2 at *
    generalize vecP C H i 3 = a3 at *
    generalize vecP C H i 4 = a4 at *
    go_enter Try.func27, Try.ntmps27
    go_wp2_with fail
    refine he.mono ?_
    rintro e w' ⟨rfl, rfl⟩
    go_wp2_with fail
    have q0 : Quiet w' (w'.alloc (.cells #[.int .i64 a0, .int .i64 a1, .int .i64 a2, .int .i64 a3, .int .i64 a4] 55)) := (Chg.refl _ _).alloc _
    have bv := Blk.new w' 55 [.int .i64 a0, .int .i64 a1, .int .i64 a2, .int .i64 a3, .int .i64 a4]
    have d0 := Quiet.cell q0 c0
    have d1 := Quiet.cell q0 cr2
    clear c0 cr cr2 v0 v1 v2 v3 v4
    generalize w'.alloc (.cells #[.int .i64 a0, .int .i64 a1, .int .i64 a2, .int .i64 a3, .int .i64 a4] 55) = W at *
    generalize w'.heap.size = V at *
    have v0 := bv.cell 0
    have v1 := bv.cell 1
    have v2 := bv.cell 2
    have v3 := bv.cell 3
    have v4 := bv.cell 4
    simp at v0 v1 v2 v3 v4
    have hc2 := unhide hcall W.drew q0.drew
    clear hcall
    go_region_held3 (fun w' => w'.cell? ⟨x, 0, none⟩ = some (.slice (some ⟨r, 0, none⟩) 5 5) ∧ w'.cell? ⟨r, j, none⟩ = some (.pointer (some ⟨n j, 0, none⟩)) ∧ w'.cell? ⟨V, 0, none⟩ = some (.int .i64 a0) ∧ w'.cell? ⟨V, 1, none⟩ = some (.int .i64 a1) ∧ w'.cell? ⟨V, 2, none⟩ = some (.int .i64 a2) ∧ w'.cell? ⟨V, 3, none⟩ = some (.int .i64 a3) ∧ w'.cell? ⟨V, 4, none⟩ = some (.int .i64 a4)) (first | exact ⟨s0, s1, t0, t1, t2, t3, t4⟩ | go_keep) (first | (go_at_call 42; (with_reducible refine hc2.mono ?_); rintro e w3 ⟨rfl, ch3, R3⟩; have s0 := R3.blk.cell 0; simp at s0; have s1 : w3.cell? ⟨r, j, none⟩ = some (.pointer (some ⟨n j, 0, none⟩)) := (R3.row.cell j).trans (rowC_get n j hj); have vb := ch3.blk bv.drew (fun h => Nat.lt_irrefl _ (unhide hown _ h)); have t0 := vb.cell 0; have t1 := vb.cell 1; have t2 := vb.cell 2; have t3 := vb.cell 3; have t4 := vb.cell 4; simp at t0 t1 t2 t3 t4))
    rename_i hHeld
    clear hHeld
    have R3H := hide R3
    have chH := hide (((Quiet.chg q0 (own x r n)).drew).trans ch3)
    clear R3 ch3 s0 s1 t0 t1 t2 t3 t4 vb
    go_wp2
    go_ret
    exact ⟨rfl, unhide chH, unhide R3H⟩
  · have e3 : Hid (delH C H a b = H) := by show _ = _; simp [delH, hne]
    rw [unhide e3]
    unfold repPost ptr at *
    have z1 : (liveP C a b == 0) = false := by simpa using hne
    have RH := hide R
    clear e3 hne R
    generalize liveP C a b = E at *
    go_enter Try.func27, Try.ntmps27
    go_wp2_with fail
    refine he.mono ?_
    rintro e w' ⟨rfl, rfl⟩
    go_wp2
    go_ret
    exact ⟨rfl, Chg.refl _ _, unhide RH⟩
end Go.Proofs.Qxb6500364a
