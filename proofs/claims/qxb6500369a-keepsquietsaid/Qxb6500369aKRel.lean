/-
  369 Keeps: relayed, shape by shape. (gen9rel.py)
-/
import Derived.Test.Qxb6500369aMach
import Derived.Test.Qxb6500369aKDel2
import Derived.BigQuiet
namespace Go.Proofs.Qxb6500369a
open Go.RowKit Go.Qx
set_option linter.unusedSimpArgs false
set_option linter.unusedVariables false

set_option maxHeartbeats 4000000 in
set_option maxRecDepth 100000 in
theorem rel_l1 (w : World) (mode dir i h : Int) : Calls Try.prog 26 #[.int .i64 mode, .int .i64 dir, .agg #[.int .i64 3, .int .i64 i, .int .i64 h], .agg #[.int .i64 0, .int .i64 0, .int .i64 0, .int .i64 0, .int .i64 0, .int .i64 0]] w fun e w' => e = .returned (.bool true) ∧ Quiet w w' := by
  go_enter Try.func26, Try.ntmps26
  go_wp2
  go_ret
  exact ⟨rfl, ((Chg.refl _ _).alloc _).alloc _⟩

set_option maxHeartbeats 4000000 in
set_option maxRecDepth 100000 in
theorem rel_l2 (w : World) (mode dir i h : Int) : Calls Try.prog 26 #[.int .i64 mode, .int .i64 dir, .agg #[.int .i64 3, .int .i64 i, .int .i64 h], .agg #[.int .i64 3, .int .i64 i, .int .i64 h, .int .i64 0, .int .i64 0, .int .i64 0]] w fun e w' => e = .returned (.bool true) ∧ Quiet w w' := by
  go_enter Try.func26, Try.ntmps26
  go_wp2
  go_ret
  exact ⟨rfl, ((Chg.refl _ _).alloc _).alloc _⟩

set_option maxHeartbeats 4000000 in
set_option maxRecDepth 100000 in
theorem rel_r2 (w : World) (mode dir i h : Int) : Calls Try.prog 26 #[.int .i64 mode, .int .i64 dir, .agg #[.int .i64 2, .int .i64 i, .int .i64 h], .agg #[.int .i64 0, .int .i64 0, .int .i64 0, .int .i64 0, .int .i64 0, .int .i64 0]] w fun e w' => e = .returned (.bool true) ∧ Quiet w w' := by
  go_enter Try.func26, Try.ntmps26
  go_wp2
  go_ret
  exact ⟨rfl, ((Chg.refl _ _).alloc _).alloc _⟩

set_option maxHeartbeats 4000000 in
set_option maxRecDepth 100000 in
theorem rel_r3 (w : World) (mode dir i h r : Int) : Calls Try.prog 26 #[.int .i64 mode, .int .i64 dir, .agg #[.int .i64 2, .int .i64 i, .int .i64 h], .agg #[.int .i64 1, .int .i64 i, .int .i64 r, .int .i64 1, .int .i64 i, .int .i64 r]] w fun e w' => e = .returned (.bool true) ∧ Quiet w w' := by
  go_enter Try.func26, Try.ntmps26
  go_wp2
  go_ret
  exact ⟨rfl, ((Chg.refl _ _).alloc _).alloc _⟩

set_option maxHeartbeats 4000000 in
set_option maxRecDepth 100000 in
theorem rel_r10 (w : World) (mode i h : Int) : Calls Try.prog 26 #[.int .i64 mode, .int .i64 0, .agg #[.int .i64 2, .int .i64 i, .int .i64 h], .agg #[.int .i64 2, .int .i64 i, .int .i64 h, .int .i64 0, .int .i64 0, .int .i64 0]] w fun e w' => e = .returned (.bool true) ∧ Quiet w w' := by
  have q0 : Quiet w ((w.alloc (.cells #[.int .i64 2, .int .i64 i, .int .i64 h] 55)).alloc (.cells #[.int .i64 2, .int .i64 i, .int .i64 h, .int .i64 0, .int .i64 0, .int .i64 0] 57)) := ((Chg.refl _ _).alloc _).alloc _
  have bm : Blk ((w.alloc (.cells #[.int .i64 2, .int .i64 i, .int .i64 h] 55)).alloc (.cells #[.int .i64 2, .int .i64 i, .int .i64 h, .int .i64 0, .int .i64 0, .int .i64 0] 57)) w.heap.size 55 [.int .i64 2, .int .i64 i, .int .i64 h] := (Blk.new w 55 [.int .i64 2, .int .i64 i, .int .i64 h]).alloc _
  have bo : Blk ((w.alloc (.cells #[.int .i64 2, .int .i64 i, .int .i64 h] 55)).alloc (.cells #[.int .i64 2, .int .i64 i, .int .i64 h, .int .i64 0, .int .i64 0, .int .i64 0] 57)) (w.heap.size + 1) 57 [.int .i64 2, .int .i64 i, .int .i64 h, .int .i64 0, .int .i64 0, .int .i64 0] := Blk.at_new (by simp)
  have htw := fun V' => toward_any V' (0) ⟨2, i, h⟩
  unfold msV ouV at htw
  have hres : towardP (0) ⟨2, i, h⟩ = ⟨⟨2, i, h⟩, ⟨0, 0, 0⟩⟩ := by simp [towardP, m0]
  rw [hres] at htw
  dsimp only [m0] at htw
  obtain ⟨W, hW⟩ : ∃ W, ((w.alloc (.cells #[.int .i64 2, .int .i64 i, .int .i64 h] 55)).alloc (.cells #[.int .i64 2, .int .i64 i, .int .i64 h, .int .i64 0, .int .i64 0, .int .i64 0] 57)) = W := ⟨_, rfl⟩
  rw [hW] at q0 bm bo
  obtain ⟨B, hB⟩ : ∃ B, w.heap.size = B := ⟨_, rfl⟩
  rw [hB] at bm bo
  have x0 := bm.cell 0
  have x1 := bm.cell 1
  have x2 := bm.cell 2
  have y0 := bo.cell 0
  have y1 := bo.cell 1
  have y2 := bo.cell 2
  have y3 := bo.cell 3
  have y4 := bo.cell 4
  have y5 := bo.cell 5
  simp at x0 x1 x2 y0 y1 y2 y3 y4 y5
  have hall := hide (And.intro q0 (And.intro bm bo))
  clear q0 bm bo hres
  go_enter Try.func26, Try.ntmps26
  go_wp2_with fail
  clear hW hB
  go_region_with (go_at_call 41; refine (htw _).mono ?_; rintro e w2 ⟨rfl, q2⟩; have q3 : Quiet W w2 := Quiet.trans ((Chg.refl _ W).drew) q2; have z0 := q3.cell y0; have z1 := q3.cell y1; have z2 := q3.cell y2; have z3 := q3.cell y3; have z4 := q3.cell y4; have z5 := q3.cell y5; have hq3 := hide (Quiet.trans (unhide hall).1 q3); clear q2 q3 x0 x1 x2 y0 y1 y2 y3 y4 y5)
  all_goals
    first
    | (go_wp2; go_ret; exact ⟨rfl, unhide hq3⟩)
    | (go_ret; exact ⟨rfl, unhide hq3⟩)

set_option maxHeartbeats 4000000 in
set_option maxRecDepth 100000 in
theorem rel_r11 (w : World) (mode i h : Int) : Calls Try.prog 26 #[.int .i64 mode, .int .i64 1, .agg #[.int .i64 2, .int .i64 i, .int .i64 h], .agg #[.int .i64 0, .int .i64 0, .int .i64 0, .int .i64 2, .int .i64 i, .int .i64 h]] w fun e w' => e = .returned (.bool true) ∧ Quiet w w' := by
  have q0 : Quiet w ((w.alloc (.cells #[.int .i64 2, .int .i64 i, .int .i64 h] 55)).alloc (.cells #[.int .i64 0, .int .i64 0, .int .i64 0, .int .i64 2, .int .i64 i, .int .i64 h] 57)) := ((Chg.refl _ _).alloc _).alloc _
  have bm : Blk ((w.alloc (.cells #[.int .i64 2, .int .i64 i, .int .i64 h] 55)).alloc (.cells #[.int .i64 0, .int .i64 0, .int .i64 0, .int .i64 2, .int .i64 i, .int .i64 h] 57)) w.heap.size 55 [.int .i64 2, .int .i64 i, .int .i64 h] := (Blk.new w 55 [.int .i64 2, .int .i64 i, .int .i64 h]).alloc _
  have bo : Blk ((w.alloc (.cells #[.int .i64 2, .int .i64 i, .int .i64 h] 55)).alloc (.cells #[.int .i64 0, .int .i64 0, .int .i64 0, .int .i64 2, .int .i64 i, .int .i64 h] 57)) (w.heap.size + 1) 57 [.int .i64 0, .int .i64 0, .int .i64 0, .int .i64 2, .int .i64 i, .int .i64 h] := Blk.at_new (by simp)
  have htw := fun V' => toward_any V' (1) ⟨2, i, h⟩
  unfold msV ouV at htw
  have hres : towardP (1) ⟨2, i, h⟩ = ⟨⟨0, 0, 0⟩, ⟨2, i, h⟩⟩ := by simp [towardP, m0]
  rw [hres] at htw
  dsimp only [m0] at htw
  obtain ⟨W, hW⟩ : ∃ W, ((w.alloc (.cells #[.int .i64 2, .int .i64 i, .int .i64 h] 55)).alloc (.cells #[.int .i64 0, .int .i64 0, .int .i64 0, .int .i64 2, .int .i64 i, .int .i64 h] 57)) = W := ⟨_, rfl⟩
  rw [hW] at q0 bm bo
  obtain ⟨B, hB⟩ : ∃ B, w.heap.size = B := ⟨_, rfl⟩
  rw [hB] at bm bo
  have x0 := bm.cell 0
  have x1 := bm.cell 1
  have x2 := bm.cell 2
  have y0 := bo.cell 0
  have y1 := bo.cell 1
  have y2 := bo.cell 2
  have y3 := bo.cell 3
  have y4 := bo.cell 4
  have y5 := bo.cell 5
  simp at x0 x1 x2 y0 y1 y2 y3 y4 y5
  have hall := hide (And.intro q0 (And.intro bm bo))
  clear q0 bm bo hres
  go_enter Try.func26, Try.ntmps26
  go_wp2_with fail
  clear hW hB
  go_region_with (go_at_call 41; refine (htw _).mono ?_; rintro e w2 ⟨rfl, q2⟩; have q3 : Quiet W w2 := Quiet.trans ((Chg.refl _ W).drew) q2; have z0 := q3.cell y0; have z1 := q3.cell y1; have z2 := q3.cell y2; have z3 := q3.cell y3; have z4 := q3.cell y4; have z5 := q3.cell y5; have hq3 := hide (Quiet.trans (unhide hall).1 q3); clear q2 q3 x0 x1 x2 y0 y1 y2 y3 y4 y5)
  all_goals
    first
    | (go_wp2; go_ret; exact ⟨rfl, unhide hq3⟩)
    | (go_ret; exact ⟨rfl, unhide hq3⟩)

set_option maxHeartbeats 4000000 in
set_option maxRecDepth 100000 in
theorem rel_p1 (w : World) (dir i h : Int) : Calls Try.prog 26 #[.int .i64 0, .int .i64 dir, .agg #[.int .i64 1, .int .i64 i, .int .i64 h], .agg #[.int .i64 1, .int .i64 i, .int .i64 h, .int .i64 0, .int .i64 0, .int .i64 0]] w fun e w' => e = .returned (.bool true) ∧ Quiet w w' := by
  go_enter Try.func26, Try.ntmps26
  go_wp2
  go_ret
  exact ⟨rfl, ((Chg.refl _ _).alloc _).alloc _⟩

set_option maxHeartbeats 4000000 in
set_option maxRecDepth 100000 in
theorem rel_p30 (w : World) (mode i h : Int) : Calls Try.prog 26 #[.int .i64 mode, .int .i64 0, .agg #[.int .i64 1, .int .i64 i, .int .i64 h], .agg #[.int .i64 0, .int .i64 0, .int .i64 0, .int .i64 2, .int .i64 i, .int .i64 0]] w fun e w' => e = .returned (.bool true) ∧ Quiet w w' := by
  have q0 : Quiet w ((w.alloc (.cells #[.int .i64 1, .int .i64 i, .int .i64 h] 55)).alloc (.cells #[.int .i64 0, .int .i64 0, .int .i64 0, .int .i64 2, .int .i64 i, .int .i64 0] 57)) := ((Chg.refl _ _).alloc _).alloc _
  have bm : Blk ((w.alloc (.cells #[.int .i64 1, .int .i64 i, .int .i64 h] 55)).alloc (.cells #[.int .i64 0, .int .i64 0, .int .i64 0, .int .i64 2, .int .i64 i, .int .i64 0] 57)) w.heap.size 55 [.int .i64 1, .int .i64 i, .int .i64 h] := (Blk.new w 55 [.int .i64 1, .int .i64 i, .int .i64 h]).alloc _
  have bo : Blk ((w.alloc (.cells #[.int .i64 1, .int .i64 i, .int .i64 h] 55)).alloc (.cells #[.int .i64 0, .int .i64 0, .int .i64 0, .int .i64 2, .int .i64 i, .int .i64 0] 57)) (w.heap.size + 1) 57 [.int .i64 0, .int .i64 0, .int .i64 0, .int .i64 2, .int .i64 i, .int .i64 0] := Blk.at_new (by simp)
  have htw := fun V' => toward_any V' (1) ⟨2, i, 0⟩
  unfold msV ouV at htw
  have hres : towardP (1) ⟨2, i, 0⟩ = ⟨⟨0, 0, 0⟩, ⟨2, i, 0⟩⟩ := by simp [towardP, m0]
  rw [hres] at htw
  dsimp only [m0] at htw
  obtain ⟨W, hW⟩ : ∃ W, ((w.alloc (.cells #[.int .i64 1, .int .i64 i, .int .i64 h] 55)).alloc (.cells #[.int .i64 0, .int .i64 0, .int .i64 0, .int .i64 2, .int .i64 i, .int .i64 0] 57)) = W := ⟨_, rfl⟩
  rw [hW] at q0 bm bo
  obtain ⟨B, hB⟩ : ∃ B, w.heap.size = B := ⟨_, rfl⟩
  rw [hB] at bm bo
  have x0 := bm.cell 0
  have x1 := bm.cell 1
  have x2 := bm.cell 2
  have y0 := bo.cell 0
  have y1 := bo.cell 1
  have y2 := bo.cell 2
  have y3 := bo.cell 3
  have y4 := bo.cell 4
  have y5 := bo.cell 5
  simp at x0 x1 x2 y0 y1 y2 y3 y4 y5
  have hall := hide (And.intro q0 (And.intro bm bo))
  clear q0 bm bo hres
  go_enter Try.func26, Try.ntmps26
  go_wp2_with fail
  clear hW hB
  go_region_with (go_at_call 41; refine (htw _).mono ?_; rintro e w2 ⟨rfl, q2⟩; have q3 : Quiet W w2 := Quiet.trans ((Chg.refl _ W).drew) q2; have z0 := q3.cell y0; have z1 := q3.cell y1; have z2 := q3.cell y2; have z3 := q3.cell y3; have z4 := q3.cell y4; have z5 := q3.cell y5; have hq3 := hide (Quiet.trans (unhide hall).1 q3); clear q2 q3 x0 x1 x2 y0 y1 y2 y3 y4 y5)
  all_goals
    first
    | (go_wp2; go_ret; exact ⟨rfl, unhide hq3⟩)
    | (go_ret; exact ⟨rfl, unhide hq3⟩)

set_option maxHeartbeats 4000000 in
set_option maxRecDepth 100000 in
theorem rel_p31 (w : World) (mode i h : Int) : Calls Try.prog 26 #[.int .i64 mode, .int .i64 1, .agg #[.int .i64 1, .int .i64 i, .int .i64 h], .agg #[.int .i64 2, .int .i64 i, .int .i64 0, .int .i64 0, .int .i64 0, .int .i64 0]] w fun e w' => e = .returned (.bool true) ∧ Quiet w w' := by
  have q0 : Quiet w ((w.alloc (.cells #[.int .i64 1, .int .i64 i, .int .i64 h] 55)).alloc (.cells #[.int .i64 2, .int .i64 i, .int .i64 0, .int .i64 0, .int .i64 0, .int .i64 0] 57)) := ((Chg.refl _ _).alloc _).alloc _
  have bm : Blk ((w.alloc (.cells #[.int .i64 1, .int .i64 i, .int .i64 h] 55)).alloc (.cells #[.int .i64 2, .int .i64 i, .int .i64 0, .int .i64 0, .int .i64 0, .int .i64 0] 57)) w.heap.size 55 [.int .i64 1, .int .i64 i, .int .i64 h] := (Blk.new w 55 [.int .i64 1, .int .i64 i, .int .i64 h]).alloc _
  have bo : Blk ((w.alloc (.cells #[.int .i64 1, .int .i64 i, .int .i64 h] 55)).alloc (.cells #[.int .i64 2, .int .i64 i, .int .i64 0, .int .i64 0, .int .i64 0, .int .i64 0] 57)) (w.heap.size + 1) 57 [.int .i64 2, .int .i64 i, .int .i64 0, .int .i64 0, .int .i64 0, .int .i64 0] := Blk.at_new (by simp)
  have htw := fun V' => toward_any V' (0) ⟨2, i, 0⟩
  unfold msV ouV at htw
  have hres : towardP (0) ⟨2, i, 0⟩ = ⟨⟨2, i, 0⟩, ⟨0, 0, 0⟩⟩ := by simp [towardP, m0]
  rw [hres] at htw
  dsimp only [m0] at htw
  obtain ⟨W, hW⟩ : ∃ W, ((w.alloc (.cells #[.int .i64 1, .int .i64 i, .int .i64 h] 55)).alloc (.cells #[.int .i64 2, .int .i64 i, .int .i64 0, .int .i64 0, .int .i64 0, .int .i64 0] 57)) = W := ⟨_, rfl⟩
  rw [hW] at q0 bm bo
  obtain ⟨B, hB⟩ : ∃ B, w.heap.size = B := ⟨_, rfl⟩
  rw [hB] at bm bo
  have x0 := bm.cell 0
  have x1 := bm.cell 1
  have x2 := bm.cell 2
  have y0 := bo.cell 0
  have y1 := bo.cell 1
  have y2 := bo.cell 2
  have y3 := bo.cell 3
  have y4 := bo.cell 4
  have y5 := bo.cell 5
  simp at x0 x1 x2 y0 y1 y2 y3 y4 y5
  have hall := hide (And.intro q0 (And.intro bm bo))
  clear q0 bm bo hres
  go_enter Try.func26, Try.ntmps26
  go_wp2_with fail
  clear hW hB
  go_region_with (go_at_call 41; refine (htw _).mono ?_; rintro e w2 ⟨rfl, q2⟩; have q3 : Quiet W w2 := Quiet.trans ((Chg.refl _ W).drew) q2; have z0 := q3.cell y0; have z1 := q3.cell y1; have z2 := q3.cell y2; have z3 := q3.cell y3; have z4 := q3.cell y4; have z5 := q3.cell y5; have hq3 := hide (Quiet.trans (unhide hall).1 q3); clear q2 q3 x0 x1 x2 y0 y1 y2 y3 y4 y5)
  all_goals
    first
    | (go_wp2; go_ret; exact ⟨rfl, unhide hq3⟩)
    | (go_ret; exact ⟨rfl, unhide hq3⟩)

set_option maxHeartbeats 4000000 in
set_option maxRecDepth 100000 in
theorem rel_p4 (w : World) (mode dir i h : Int) : Calls Try.prog 26 #[.int .i64 mode, .int .i64 dir, .agg #[.int .i64 1, .int .i64 i, .int .i64 h], .agg #[.int .i64 0, .int .i64 0, .int .i64 0, .int .i64 0, .int .i64 0, .int .i64 0]] w fun e w' => e = .returned (.bool true) ∧ Quiet w w' := by
  go_enter Try.func26, Try.ntmps26
  go_wp2
  go_ret
  exact ⟨rfl, ((Chg.refl _ _).alloc _).alloc _⟩

set_option maxHeartbeats 4000000 in
set_option maxRecDepth 100000 in
theorem rel_p5 (w : World) (mode dir i h : Int) : Calls Try.prog 26 #[.int .i64 mode, .int .i64 dir, .agg #[.int .i64 1, .int .i64 i, .int .i64 h], .agg #[.int .i64 3, .int .i64 i, .int .i64 0, .int .i64 0, .int .i64 0, .int .i64 0]] w fun e w' => e = .returned (.bool true) ∧ Quiet w w' := by
  go_enter Try.func26, Try.ntmps26
  go_wp2
  go_ret
  exact ⟨rfl, ((Chg.refl _ _).alloc _).alloc _⟩
end Go.Proofs.Qxb6500369a
