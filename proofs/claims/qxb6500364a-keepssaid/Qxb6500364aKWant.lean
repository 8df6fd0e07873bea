/-
  THE BOOK: Want. (gen64want.py)
-/
import Derived.Test.Qxb6500364aKShown
import Derived.BigQuiet
namespace Go.Proofs.Qxb6500364a
open Go.RowKit Go.Qx
set_option linter.unusedVariables false
set_option linter.unusedSimpArgs false

def wantW (w : World) (k a b c : Int) (s t : ByteArray) : World := (w.alloc (.cells #[.int .i64 k, .int .i64 a, .int .i64 b, .int .i64 c, .string s, .string t] 32)).alloc (.cells #[.int .i64 0, .int .i64 0, .int .i64 0, .string ⟨#[]⟩] 36)
theorem wantW_quiet (w : World) (k a b c : Int) (s t : ByteArray) : Quiet w (wantW w k a b c s t) := ((Chg.refl _ _).alloc _).alloc _
theorem wantW_blk (w : World) (k a b c : Int) (s t : ByteArray) : Blk (wantW w k a b c s t) (w.heap.size + 1) 36 [.int .i64 0, .int .i64 0, .int .i64 0, .string ⟨#[]⟩] := Blk.at_new (by simp)
theorem wantW_op (w : World) (k a b c : Int) (s t : ByteArray) : Blk (wantW w k a b c s t) w.heap.size 32 [.int .i64 k, .int .i64 a, .int .i64 b, .int .i64 c, .string s, .string t] := (Blk.new w 32 [.int .i64 k, .int .i64 a, .int .i64 b, .int .i64 c, .string s, .string t]).alloc _
/-- The answer's box, written. -/
theorem box4 {w W : World} {b : Nat} (hb : w.heap.size ≤ b) (q : Quiet w W) {x0 x1 x2 x3 : Value} (B : Blk W b 36 [x0, x1, x2, x3]) (v0 v1 v2 v3 : Value) :
    Quiet w ((((W.setCell ⟨b, 0, none⟩ v0).setCell ⟨b, 1, none⟩ v1).setCell ⟨b, 2, none⟩ v2).setCell ⟨b, 3, none⟩ v3) ∧ Blk ((((W.setCell ⟨b, 0, none⟩ v0).setCell ⟨b, 1, none⟩ v1).setCell ⟨b, 2, none⟩ v2).setCell ⟨b, 3, none⟩ v3) b 36 [v0, v1, v2, v3] :=
  ⟨(((q.setCell (p := ⟨b, 0, none⟩) (.inr hb) _).setCell (p := ⟨b, 1, none⟩) (.inr hb) _).setCell (p := ⟨b, 2, none⟩) (.inr hb) _).setCell (p := ⟨b, 3, none⟩) (.inr hb) _, (((B.set 0 v0).set 1 v1).set 2 v2).set 3 v3⟩

set_option maxHeartbeats 1000000 in
theorem want_show (w : World) (g : Nat) (a b c : Int) (s t : ByteArray) (S0 : ByteArray) : Calls Try.prog 14 #[.pointer (some ⟨g, 0, none⟩), opv 5 a b c s t, .string S0] w fun e w' => e = .returned (ansv 0 0 0 S0) ∧ Quiet w w' := by
  unfold opv
  go_enter Try.func14, Try.ntmps14
  go_wp2
  refine bodyPost_ret (v := ansv 0 0 0 S0) (results_blk (u := 36) (cs := ansC 0 0 0 S0) Try.results14 rfl Try.isAgg36 Try.sizeOf36 (Blk.at_new (by simp))) rfl ⟨rfl, ((Chg.refl _ _).alloc _).alloc _⟩

set_option maxHeartbeats 1000000 in
theorem want_check (w : World) (g : Nat) (a b c : Int) (s t : ByteArray) (S0 : ByteArray) : Calls Try.prog 14 #[.pointer (some ⟨g, 0, none⟩), opv 6 a b c s t, .string S0] w fun e w' => e = .returned (ansv 0 1 0 ⟨#[]⟩) ∧ Quiet w w' := by
  unfold opv
  go_enter Try.func14, Try.ntmps14
  go_wp2
  refine bodyPost_ret (v := ansv 0 1 0 ⟨#[]⟩) (results_blk (u := 36) (cs := ansC 0 1 0 ⟨#[]⟩) Try.results14 rfl Try.isAgg36 Try.sizeOf36 (Blk.at_new (by simp))) rfl ⟨rfl, ((Chg.refl _ _).alloc _).alloc _⟩

set_option maxHeartbeats 1000000 in
theorem want_lo (w : World) (g : Nat) (k : Int) (h : k < 1) (a b c : Int) (s t : ByteArray) (S0 : ByteArray) : Calls Try.prog 14 #[.pointer (some ⟨g, 0, none⟩), opv k a b c s t, .string S0] w fun e w' => e = .returned (ansv 0 0 0 ⟨#[]⟩) ∧ Quiet w w' := by
  have h5 : (k == 5) = false := by rw [beq_eq_false_iff_ne]; omega
  have h6 : (k == 6) = false := by rw [beq_eq_false_iff_ne]; omega
  unfold opv
  go_enter Try.func14, Try.ntmps14
  go_wp2
  refine bodyPost_ret (v := ansv 0 0 0 ⟨#[]⟩) (results_blk (u := 36) (cs := ansC 0 0 0 ⟨#[]⟩) Try.results14 rfl Try.isAgg36 Try.sizeOf36 (Blk.at_new (by simp))) rfl ⟨rfl, ((Chg.refl _ _).alloc _).alloc _⟩

set_option maxHeartbeats 1000000 in
theorem want_hi (w : World) (g : Nat) (k : Int) (h : 4 < k) (h5 : (k == 5) = false) (h6 : (k == 6) = false) (a b c : Int) (s t : ByteArray) (S0 : ByteArray) : Calls Try.prog 14 #[.pointer (some ⟨g, 0, none⟩), opv k a b c s t, .string S0] w fun e w' => e = .returned (ansv 0 0 0 ⟨#[]⟩) ∧ Quiet w w' := by
  have h1 : ¬ k < 1 := by omega
  unfold opv
  go_enter Try.func14, Try.ntmps14
  go_wp2
  refine bodyPost_ret (v := ansv 0 0 0 ⟨#[]⟩) (results_blk (u := 36) (cs := ansC 0 0 0 ⟨#[]⟩) Try.results14 rfl Try.isAgg36 Try.sizeOf36 (Blk.at_new (by simp))) rfl ⟨rfl, ((Chg.refl _ _).alloc _).alloc _⟩

set_option maxHeartbeats 1000000 in
theorem want_n1 (w : World) (g : Nat) (k : Int) (hk : 1 ≤ k ∧ k ≤ 4) (a b c : Int) (h : a < 0) (s t : ByteArray) (S0 : ByteArray) : Calls Try.prog 14 #[.pointer (some ⟨g, 0, none⟩), opv k a b c s t, .string S0] w fun e w' => e = .returned (ansv 1 0 0 ⟨#[]⟩) ∧ Quiet w w' := by
  have h5 : (k == 5) = false := by rw [beq_eq_false_iff_ne]; omega
  have h6 : (k == 6) = false := by rw [beq_eq_false_iff_ne]; omega
  have h1 : ¬ k < 1 := by omega
  have h4 : ¬ 4 < k := by omega
  unfold opv
  go_enter Try.func14, Try.ntmps14
  go_wp2
  refine bodyPost_ret (v := ansv 1 0 0 ⟨#[]⟩) (results_blk (u := 36) (cs := ansC 1 0 0 ⟨#[]⟩) Try.results14 rfl Try.isAgg36 Try.sizeOf36 (Blk.at_new (by simp))) rfl ⟨rfl, ((Chg.refl _ _).alloc _).alloc _⟩

set_option maxHeartbeats 1000000 in
theorem want_n2 (w : World) (g : Nat) (k : Int) (hk : 1 ≤ k ∧ k ≤ 4) (a b c : Int) (h : 5 ≤ a) (s t : ByteArray) (S0 : ByteArray) : Calls Try.prog 14 #[.pointer (some ⟨g, 0, none⟩), opv k a b c s t, .string S0] w fun e w' => e = .returned (ansv 1 0 0 ⟨#[]⟩) ∧ Quiet w w' := by
  have h5 : (k == 5) = false := by rw [beq_eq_false_iff_ne]; omega
  have h6 : (k == 6) = false := by rw [beq_eq_false_iff_ne]; omega
  have h1 : ¬ k < 1 := by omega
  have h4 : ¬ 4 < k := by omega
  have n1 : ¬ a < 0 := by omega
  unfold opv
  go_enter Try.func14, Try.ntmps14
  go_wp2
  refine bodyPost_ret (v := ansv 1 0 0 ⟨#[]⟩) (results_blk (u := 36) (cs := ansC 1 0 0 ⟨#[]⟩) Try.results14 rfl Try.isAgg36 Try.sizeOf36 (Blk.at_new (by simp))) rfl ⟨rfl, ((Chg.refl _ _).alloc _).alloc _⟩

set_option maxHeartbeats 1000000 in
theorem want_n3 (w : World) (g : Nat) (k : Int) (hk : 1 ≤ k ∧ k ≤ 4) (a b c : Int) (h : 0 ≤ a ∧ a < 5 ∧ b < 0) (s t : ByteArray) (S0 : ByteArray) : Calls Try.prog 14 #[.pointer (some ⟨g, 0, none⟩), opv k a b c s t, .string S0] w fun e w' => e = .returned (ansv 1 0 0 ⟨#[]⟩) ∧ Quiet w w' := by
  have h5 : (k == 5) = false := by rw [beq_eq_false_iff_ne]; omega
  have h6 : (k == 6) = false := by rw [beq_eq_false_iff_ne]; omega
  have h1 : ¬ k < 1 := by omega
  have h4 : ¬ 4 < k := by omega
  obtain ⟨x1, x2, x3⟩ := h
  have n1 : ¬ a < 0 := by omega
  have n2 : ¬ 5 ≤ a := by omega
  unfold opv
  go_enter Try.func14, Try.ntmps14
  go_wp2
  refine bodyPost_ret (v := ansv 1 0 0 ⟨#[]⟩) (results_blk (u := 36) (cs := ansC 1 0 0 ⟨#[]⟩) Try.results14 rfl Try.isAgg36 Try.sizeOf36 (Blk.at_new (by simp))) rfl ⟨rfl, ((Chg.refl _ _).alloc _).alloc _⟩

set_option maxHeartbeats 1000000 in
theorem want_n4 (w : World) (g : Nat) (k : Int) (hk : 1 ≤ k ∧ k ≤ 4) (a b c : Int) (h : 0 ≤ a ∧ a < 5 ∧ 5 ≤ b) (s t : ByteArray) (S0 : ByteArray) : Calls Try.prog 14 #[.pointer (some ⟨g, 0, none⟩), opv k a b c s t, .string S0] w fun e w' => e = .returned (ansv 1 0 0 ⟨#[]⟩) ∧ Quiet w w' := by
  have h5 : (k == 5) = false := by rw [beq_eq_false_iff_ne]; omega
  have h6 : (k == 6) = false := by rw [beq_eq_false_iff_ne]; omega
  have h1 : ¬ k < 1 := by omega
  have h4 : ¬ 4 < k := by omega
  obtain ⟨x1, x2, x3⟩ := h
  have n1 : ¬ a < 0 := by omega
  have n2 : ¬ 5 ≤ a := by omega
  have n3 : ¬ b < 0 := by omega
  unfold opv
  go_enter Try.func14, Try.ntmps14
  go_wp2
  refine bodyPost_ret (v := ansv 1 0 0 ⟨#[]⟩) (results_blk (u := 36) (cs := ansC 1 0 0 ⟨#[]⟩) Try.results14 rfl Try.isAgg36 Try.sizeOf36 (Blk.at_new (by simp))) rfl ⟨rfl, ((Chg.refl _ _).alloc _).alloc _⟩

set_option maxHeartbeats 1000000 in
theorem want_self (w : World) (g : Nat) (k : Int) (hk : 1 ≤ k ∧ k ≤ 3) (i : Nat) (hi : i < 5) (c : Int) (s t : ByteArray) (S0 : ByteArray) : Calls Try.prog 14 #[.pointer (some ⟨g, 0, none⟩), opv k i i c s t, .string S0] w fun e w' => e = .returned (ansv 2 0 0 ⟨#[]⟩) ∧ Quiet w w' := by
  have h5 : (k == 5) = false := by rw [beq_eq_false_iff_ne]; omega
  have h6 : (k == 6) = false := by rw [beq_eq_false_iff_ne]; omega
  have h1 : ¬ k < 1 := by omega
  have h4 : ¬ 4 < k := by omega
  have a0 : (0 : Int) ≤ (i : Int) := by omega
  have a1 : (i : Int) < 5 := by omega
  have b0 : (0 : Int) ≤ (i : Int) := by omega
  have b1 : (i : Int) < 5 := by omega
  have n1 : ¬ (i : Int) < 0 := by omega
  have n2 : ¬ 5 ≤ (i : Int) := by omega
  have n3 : ¬ (i : Int) < 0 := by omega
  have n4 : ¬ 5 ≤ (i : Int) := by omega
  have k4 : (k == 4) = false := by rw [beq_eq_false_iff_ne]; omega
  unfold opv
  go_enter Try.func14, Try.ntmps14
  go_wp2
  refine bodyPost_ret (v := ansv 2 0 0 ⟨#[]⟩) (results_blk (u := 36) (cs := ansC 2 0 0 ⟨#[]⟩) Try.results14 rfl Try.isAgg36 Try.sizeOf36 (Blk.at_new (by simp))) rfl ⟨rfl, ((Chg.refl _ _).alloc _).alloc _⟩

set_option maxHeartbeats 1000000 in
theorem want_cost (w : World) (g : Nat) (i j : Nat) (hi : i < 5) (hj : j < 5) (hij : i ≠ j) (c : Int) (hc : c < 1) (s t : ByteArray) (S0 : ByteArray) : Calls Try.prog 14 #[.pointer (some ⟨g, 0, none⟩), opv 1 i j c s t, .string S0] w fun e w' => e = .returned (ansv 3 0 0 ⟨#[]⟩) ∧ Quiet w w' := by
  have a0 : (0 : Int) ≤ (i : Int) := by omega
  have a1 : (i : Int) < 5 := by omega
  have b0 : (0 : Int) ≤ (j : Int) := by omega
  have b1 : (j : Int) < 5 := by omega
  have n1 : ¬ (i : Int) < 0 := by omega
  have n2 : ¬ 5 ≤ (i : Int) := by omega
  have n3 : ¬ (j : Int) < 0 := by omega
  have n4 : ¬ 5 ≤ (j : Int) := by omega
  have sij : ((i : Int) == (j : Int)) = false := by rw [beq_eq_false_iff_ne]; omega
  unfold opv
  go_enter Try.func14, Try.ntmps14
  go_wp2
  refine bodyPost_ret (v := ansv 3 0 0 ⟨#[]⟩) (results_blk (u := 36) (cs := ansC 3 0 0 ⟨#[]⟩) Try.results14 rfl Try.isAgg36 Try.sizeOf36 (Blk.at_new (by simp))) rfl ⟨rfl, ((Chg.refl _ _).alloc _).alloc _⟩

set_option maxHeartbeats 1000000 in
theorem want_link (w : World) (g p q m f : Nat) (C : Nat → Nat → Int) (H : Nat → Nat → Nat → Int) (Mk F : Nat → Nat → Bool) (r : Nat) (R : RepG w g p q m f C H Mk F r) (i j : Nat) (hi : i < 5) (hj : j < 5) (hij : i ≠ j) (c : Int) (hc : ¬ c < 1) (s t : ByteArray) (S0 : ByteArray) : Calls Try.prog 14 #[.pointer (some ⟨g, 0, none⟩), opv 1 i j c s t, .string S0] w fun e w' => e = .returned (ansv 0 0 0 ⟨#[]⟩) ∧ Quiet w w' := by
  have q0 := wantW_quiet w 1 i j c s t
  have B := wantW_blk w 1 i j c s t
  have O := wantW_op w 1 i j c s t
  have a0 : (0 : Int) ≤ (i : Int) := by omega
  have a1 : (i : Int) < 5 := by omega
  have b0 : (0 : Int) ≤ (j : Int) := by omega
  have b1 : (j : Int) < 5 := by omega
  have n1 : ¬ (i : Int) < 0 := by omega
  have n2 : ¬ 5 ≤ (i : Int) := by omega
  have n3 : ¬ (j : Int) < 0 := by omega
  have n4 : ¬ 5 ≤ (j : Int) := by omega
  have sij : ((i : Int) == (j : Int)) = false := by rw [beq_eq_false_iff_ne]; omega
  have ix1 : (0 : Int) ≤ (i : Int) * 5 + (j : Int) := by omega
  have ix2 : (i : Int) * 5 + (j : Int) < 25 := by omega
  have wr1 : IntKind.i64.wrap ((i : Int) * 5) = (i : Int) * 5 := by rw [IntKind.wrap_i64]; omega
  have wr2 : IntKind.i64.wrap ((i : Int) * 5 + (j : Int)) = (i : Int) * 5 + (j : Int) := by rw [IntKind.wrap_i64]; omega
  have tn : ((i : Int) * 5 + (j : Int)).toNat = i * 5 + j := by omega
  unfold opv
  obtain ⟨W0, hW0⟩ : ∃ W, wantW w 1 i j c s t = W := ⟨_, rfl⟩
  rw [hW0] at q0 B O
  have R0 := R.quiet q0
  have d0 := R0.cells.1
  have o0 : W0.cell? ⟨w.heap.size, 0, none⟩ = some (.int .i64 1) := O.cell 0
  have o1 : W0.cell? ⟨w.heap.size, 1, none⟩ = some (.int .i64 _) := O.cell 1
  have o2 : W0.cell? ⟨w.heap.size, 2, none⟩ = some (.int .i64 _) := O.cell 2
  have o3 : W0.cell? ⟨w.heap.size, 3, none⟩ = some (.int .i64 c) := O.cell 3
  have r0 : W0.cell? ⟨w.heap.size + 1, 0, none⟩ = some (.int .i64 0) := B.cell 0
  have r1 : W0.cell? ⟨w.heap.size + 1, 1, none⟩ = some (.int .i64 0) := B.cell 1
  have r2 : W0.cell? ⟨w.heap.size + 1, 2, none⟩ = some (.int .i64 0) := B.cell 2
  have r3 : W0.cell? ⟨w.heap.size + 1, 3, none⟩ = some (.string ⟨#[]⟩) := B.cell 3
  have f0 := B.frozen 0
  have f1 := B.frozen 1
  have f2 := B.frozen 2
  have f3 := B.frozen 3
  unfold wantW at hW0
  have q0H := hide q0
  have BH := hide B
  clear q0 B O R0 R
  go_enter Try.func14, Try.ntmps14
  go_wp2
  go_quiet (fail)
  go_wp2
  refine bodyPost_ret (v := ansv 0 0 0 ⟨#[]⟩) (results_blk (u := 36) (cs := ansC 0 0 0 ⟨#[]⟩) Try.results14 rfl Try.isAgg36 Try.sizeOf36 (box4 (Nat.le_succ _) (Quiet.trans (unhide q0H) ((Chg.refl (fun _ => False) W0).drewN nq)) (Quiet.blk ((Chg.refl (fun _ => False) W0).drewN nq) (unhide BH)) _ _ _ _).2) rfl ⟨rfl, (box4 (Nat.le_succ _) (Quiet.trans (unhide q0H) ((Chg.refl (fun _ => False) W0).drewN nq)) (Quiet.blk ((Chg.refl (fun _ => False) W0).drewN nq) (unhide BH)) _ _ _ _).1⟩

set_option maxHeartbeats 1000000 in
theorem want_down (w : World) (g p q m f : Nat) (C : Nat → Nat → Int) (H : Nat → Nat → Nat → Int) (Mk F : Nat → Nat → Bool) (r : Nat) (R : RepG w g p q m f C H Mk F r) (k : Int) (hk : k = 2 ∨ k = 3) (i j : Nat) (hi : i < 5) (hj : j < 5) (hij : i ≠ j) (c : Int) (hz : C i j = 0) (s t : ByteArray) (S0 : ByteArray) : Calls Try.prog 14 #[.pointer (some ⟨g, 0, none⟩), opv k i j c s t, .string S0] w fun e w' => e = .returned (ansv 4 0 0 ⟨#[]⟩) ∧ Quiet w w' := by
  have q0 := wantW_quiet w k i j c s t
  have B := wantW_blk w k i j c s t
  have O := wantW_op w k i j c s t
  have a0 : (0 : Int) ≤ (i : Int) := by omega
  have a1 : (i : Int) < 5 := by omega
  have b0 : (0 : Int) ≤ (j : Int) := by omega
  have b1 : (j : Int) < 5 := by omega
  have n1 : ¬ (i : Int) < 0 := by omega
  have n2 : ¬ 5 ≤ (i : Int) := by omega
  have n3 : ¬ (j : Int) < 0 := by omega
  have n4 : ¬ 5 ≤ (j : Int) := by omega
  have sij : ((i : Int) == (j : Int)) = false := by rw [beq_eq_false_iff_ne]; omega
  have ix1 : (0 : Int) ≤ (i : Int) * 5 + (j : Int) := by omega
  have ix2 : (i : Int) * 5 + (j : Int) < 25 := by omega
  have wr1 : IntKind.i64.wrap ((i : Int) * 5) = (i : Int) * 5 := by rw [IntKind.wrap_i64]; omega
  have wr2 : IntKind.i64.wrap ((i : Int) * 5 + (j : Int)) = (i : Int) * 5 + (j : Int) := by rw [IntKind.wrap_i64]; omega
  have tn : ((i : Int) * 5 + (j : Int)).toNat = i * 5 + j := by omega
  have k5 : (k == 5) = false := by rw [beq_eq_false_iff_ne]; omega
  have k6 : (k == 6) = false := by rw [beq_eq_false_iff_ne]; omega
  have k4 : (k == 4) = false := by rw [beq_eq_false_iff_ne]; omega
  have k1 : (k == 1) = false := by rw [beq_eq_false_iff_ne]; omega
  have k1n : (k != 1) = true := by simp; omega
  have k1p : (k = 1) = False := eq_false (by omega)
  have kl : ¬ k < 1 := by omega
  have kg : ¬ 4 < k := by omega
  unfold opv
  obtain ⟨W0, hW0⟩ : ∃ W, wantW w k i j c s t = W := ⟨_, rfl⟩
  rw [hW0] at q0 B O
  have R0 := R.quiet q0
  have d0 := R0.cells.1
  have o0 : W0.cell? ⟨w.heap.size, 0, none⟩ = some (.int .i64 k) := O.cell 0
  have o1 : W0.cell? ⟨w.heap.size, 1, none⟩ = some (.int .i64 _) := O.cell 1
  have o2 : W0.cell? ⟨w.heap.size, 2, none⟩ = some (.int .i64 _) := O.cell 2
  have o3 : W0.cell? ⟨w.heap.size, 3, none⟩ = some (.int .i64 c) := O.cell 3
  have r0 : W0.cell? ⟨w.heap.size + 1, 0, none⟩ = some (.int .i64 0) := B.cell 0
  have r1 : W0.cell? ⟨w.heap.size + 1, 1, none⟩ = some (.int .i64 0) := B.cell 1
  have r2 : W0.cell? ⟨w.heap.size + 1, 2, none⟩ = some (.int .i64 0) := B.cell 2
  have r3 : W0.cell? ⟨w.heap.size + 1, 3, none⟩ = some (.string ⟨#[]⟩) := B.cell 3
  have f0 := B.frozen 0
  have f1 := B.frozen 1
  have f2 := B.frozen 2
  have f3 := B.frozen 3
  unfold wantW at hW0
  have q0H := hide q0
  have BH := hide B
  have dc := R0.c i j hi hj
  rw [hz] at dc
  clear q0 B O R0 R
  go_enter Try.func14, Try.ntmps14
  go_wp2
  go_quiet (fail)
  go_wp2
  refine bodyPost_ret (v := ansv 4 0 0 ⟨#[]⟩) (results_blk (u := 36) (cs := ansC 4 0 0 ⟨#[]⟩) Try.results14 rfl Try.isAgg36 Try.sizeOf36 (box4 (Nat.le_succ _) (Quiet.trans (unhide q0H) ((Chg.refl (fun _ => False) W0).drewN nq)) (Quiet.blk ((Chg.refl (fun _ => False) W0).drewN nq) (unhide BH)) _ _ _ _).2) rfl ⟨rfl, (box4 (Nat.le_succ _) (Quiet.trans (unhide q0H) ((Chg.refl (fun _ => False) W0).drewN nq)) (Quiet.blk ((Chg.refl (fun _ => False) W0).drewN nq) (unhide BH)) _ _ _ _).1⟩

set_option maxHeartbeats 1000000 in
theorem want_live (w : World) (g p q m f : Nat) (C : Nat → Nat → Int) (H : Nat → Nat → Nat → Int) (Mk F : Nat → Nat → Bool) (r : Nat) (R : RepG w g p q m f C H Mk F r) (k : Int) (hk : k = 2 ∨ k = 3) (i j : Nat) (hi : i < 5) (hj : j < 5) (hij : i ≠ j) (c : Int) (hz : C i j ≠ 0) (s t : ByteArray) (S0 : ByteArray) : Calls Try.prog 14 #[.pointer (some ⟨g, 0, none⟩), opv k i j c s t, .string S0] w fun e w' => e = .returned (ansv 0 0 0 ⟨#[]⟩) ∧ Quiet w w' := by
  have q0 := wantW_quiet w k i j c s t
  have B := wantW_blk w k i j c s t
  have O := wantW_op w k i j c s t
  have a0 : (0 : Int) ≤ (i : Int) := by omega
  have a1 : (i : Int) < 5 := by omega
  have b0 : (0 : Int) ≤ (j : Int) := by omega
  have b1 : (j : Int) < 5 := by omega
  have n1 : ¬ (i : Int) < 0 := by omega
  have n2 : ¬ 5 ≤ (i : Int) := by omega
  have n3 : ¬ (j : Int) < 0 := by omega
  have n4 : ¬ 5 ≤ (j : Int) := by omega
  have sij : ((i : Int) == (j : Int)) = false := by rw [beq_eq_false_iff_ne]; omega
  have ix1 : (0 : Int) ≤ (i : Int) * 5 + (j : Int) := by omega
  have ix2 : (i : Int) * 5 + (j : Int) < 25 := by omega
  have wr1 : IntKind.i64.wrap ((i : Int) * 5) = (i : Int) * 5 := by rw [IntKind.wrap_i64]; omega
  have wr2 : IntKind.i64.wrap ((i : Int) * 5 + (j : Int)) = (i : Int) * 5 + (j : Int) := by rw [IntKind.wrap_i64]; omega
  have tn : ((i : Int) * 5 + (j : Int)).toNat = i * 5 + j := by omega
  have k5 : (k == 5) = false := by rw [beq_eq_false_iff_ne]; omega
  have k6 : (k == 6) = false := by rw [beq_eq_false_iff_ne]; omega
  have k4 : (k == 4) = false := by rw [beq_eq_false_iff_ne]; omega
  have k1 : (k == 1) = false := by rw [beq_eq_false_iff_ne]; omega
  have k1n : (k != 1) = true := by simp; omega
  have k1p : (k = 1) = False := eq_false (by omega)
  have kl : ¬ k < 1 := by omega
  have kg : ¬ 4 < k := by omega
  unfold opv
  obtain ⟨W0, hW0⟩ : ∃ W, wantW w k i j c s t = W := ⟨_, rfl⟩
  rw [hW0] at q0 B O
  have R0 := R.quiet q0
  have d0 := R0.cells.1
  have o0 : W0.cell? ⟨w.heap.size, 0, none⟩ = some (.int .i64 k) := O.cell 0
  have o1 : W0.cell? ⟨w.heap.size, 1, none⟩ = some (.int .i64 _) := O.cell 1
  have o2 : W0.cell? ⟨w.heap.size, 2, none⟩ = some (.int .i64 _) := O.cell 2
  have o3 : W0.cell? ⟨w.heap.size, 3, none⟩ = some (.int .i64 c) := O.cell 3
  have r0 : W0.cell? ⟨w.heap.size + 1, 0, none⟩ = some (.int .i64 0) := B.cell 0
  have r1 : W0.cell? ⟨w.heap.size + 1, 1, none⟩ = some (.int .i64 0) := B.cell 1
  have r2 : W0.cell? ⟨w.heap.size + 1, 2, none⟩ = some (.int .i64 0) := B.cell 2
  have r3 : W0.cell? ⟨w.heap.size + 1, 3, none⟩ = some (.string ⟨#[]⟩) := B.cell 3
  have f0 := B.frozen 0
  have f1 := B.frozen 1
  have f2 := B.frozen 2
  have f3 := B.frozen 3
  unfold wantW at hW0
  have q0H := hide q0
  have BH := hide B
  have dc := R0.c i j hi hj
  generalize C i j = cv at *
  have hz1 : (cv == 0) = false := by simpa using hz
  clear q0 B O R0 R
  go_enter Try.func14, Try.ntmps14
  go_wp2
  go_quiet (fail)
  go_wp2
  refine bodyPost_ret (v := ansv 0 0 0 ⟨#[]⟩) (results_blk (u := 36) (cs := ansC 0 0 0 ⟨#[]⟩) Try.results14 rfl Try.isAgg36 Try.sizeOf36 (box4 (Nat.le_succ _) (Quiet.trans (unhide q0H) ((Chg.refl (fun _ => False) W0).drewN nq)) (Quiet.blk ((Chg.refl (fun _ => False) W0).drewN nq) (unhide BH)) _ _ _ _).2) rfl ⟨rfl, (box4 (Nat.le_succ _) (Quiet.trans (unhide q0H) ((Chg.refl (fun _ => False) W0).drewN nq)) (Quiet.blk ((Chg.refl (fun _ => False) W0).drewN nq) (unhide BH)) _ _ _ _).1⟩

set_option maxHeartbeats 1000000 in
theorem want_route (w : World) (g p q m f : Nat) (C : Nat → Nat → Int) (H : Nat → Nat → Nat → Int) (Mk F : Nat → Nat → Bool) (r : Nat) (R : RepG w g p q m f C H Mk F r) (I : Inv C H) (i j : Nat) (hi : i < 5) (hj : j < 5) (c : Int) (s t : ByteArray) (S0 : ByteArray) : Calls Try.prog 14 #[.pointer (some ⟨g, 0, none⟩), opv 4 i j c s t, .string S0] w fun e w' => e = .returned (ansv 0 (bestP i (C i) (H i) j).1 (bestP i (C i) (H i) j).2 ⟨#[]⟩) ∧ Quiet w w' := by
  have q0 := wantW_quiet w 4 i j c s t
  have B := wantW_blk w 4 i j c s t
  have O := wantW_op w 4 i j c s t
  have a0 : (0 : Int) ≤ (i : Int) := by omega
  have a1 : (i : Int) < 5 := by omega
  have b0 : (0 : Int) ≤ (j : Int) := by omega
  have b1 : (j : Int) < 5 := by omega
  have n1 : ¬ (i : Int) < 0 := by omega
  have n2 : ¬ 5 ≤ (i : Int) := by omega
  have n3 : ¬ (j : Int) < 0 := by omega
  have n4 : ¬ 5 ≤ (j : Int) := by omega
  unfold opv
  obtain ⟨W0, hW0⟩ : ∃ W, wantW w 4 i j c s t = W := ⟨_, rfl⟩
  rw [hW0] at q0 B O
  have R0 := R.quiet q0
  have d0 := R0.cells.1
  have o0 : W0.cell? ⟨w.heap.size, 0, none⟩ = some (.int .i64 4) := O.cell 0
  have o1 : W0.cell? ⟨w.heap.size, 1, none⟩ = some (.int .i64 _) := O.cell 1
  have o2 : W0.cell? ⟨w.heap.size, 2, none⟩ = some (.int .i64 _) := O.cell 2
  have o3 : W0.cell? ⟨w.heap.size, 3, none⟩ = some (.int .i64 c) := O.cell 3
  have r0 : W0.cell? ⟨w.heap.size + 1, 0, none⟩ = some (.int .i64 0) := B.cell 0
  have r1 : W0.cell? ⟨w.heap.size + 1, 1, none⟩ = some (.int .i64 0) := B.cell 1
  have r2 : W0.cell? ⟨w.heap.size + 1, 2, none⟩ = some (.int .i64 0) := B.cell 2
  have r3 : W0.cell? ⟨w.heap.size + 1, 3, none⟩ = some (.string ⟨#[]⟩) := B.cell 3
  have f0 := B.frozen 0
  have f1 := B.frozen 1
  have f2 := B.frozen 2
  have f3 := B.frozen 3
  unfold wantW at hW0
  have q0H := hide q0
  have BH := hide B
  have hl := hide (least_any W0 g p q m f C H Mk F r R0 I i j hi hj)
  generalize (bestP i (C i) (H i) j).1 = D1 at *
  generalize (bestP i (C i) (H i) j).2 = D2 at *
  clear q0 B O R0 R
  go_enter Try.func14, Try.ntmps14
  go_wp2_with fail
  refine (unhide hl).mono ?_
  rintro e w1 ⟨rfl, q1⟩
  have B1 := Quiet.blk q1 (unhide BH)
  have e0 : w1.cell? ⟨w.heap.size + 1, 0, none⟩ = some (.int .i64 0) := B1.cell 0
  have e1 : w1.cell? ⟨w.heap.size + 1, 1, none⟩ = some (.int .i64 0) := B1.cell 1
  have e2 : w1.cell? ⟨w.heap.size + 1, 2, none⟩ = some (.int .i64 0) := B1.cell 2
  have e3 : w1.cell? ⟨w.heap.size + 1, 3, none⟩ = some (.string ⟨#[]⟩) := B1.cell 3
  have z0 := B1.frozen 0
  have z1 := B1.frozen 1
  have z2 := B1.frozen 2
  have z3 := B1.frozen 3
  have q1H := hide q1
  clear hl B1 q1
  go_wp2
  refine bodyPost_ret (v := ansv 0 D1 D2 ⟨#[]⟩) (results_blk (u := 36) (cs := ansC 0 D1 D2 ⟨#[]⟩) Try.results14 rfl Try.isAgg36 Try.sizeOf36 (box4 (Nat.le_succ _) (Quiet.trans (unhide q0H) (unhide q1H)) (Quiet.blk (unhide q1H) (unhide BH)) _ _ _ _).2) rfl ⟨rfl, (box4 (Nat.le_succ _) (Quiet.trans (unhide q0H) (unhide q1H)) (Quiet.blk (unhide q1H) (unhide BH)) _ _ _ _).1⟩
end Go.Proofs.Qxb6500364a
