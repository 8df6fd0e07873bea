/-
  The real ring: New, Reset.
-/
import Derived.Test.Qxb6500369aNode
import Derived.Laws.MakeOwn
namespace Go.Proofs.Qxb6500369a
open Go.RowKit Go.Qx
set_option linter.unusedSimpArgs false
set_option linter.unusedVariables false

theorem info80 : (Try.prog.info? 80).map (fun i => (i.zero, i.size, i.bytes)) = some (some (.agg #[.int .i64 0, .int .i64 0, .int .i64 0, .int .u8 0]), 4, 32) := by kernel_rfl
theorem info3 : (Try.prog.info? 3).map (fun i => (i.zero, i.size, i.bytes)) = some (some (.int .i64 0), 1, 8) := by kernel_rfl

theorem made80 : madeCells (Value.agg #[.int .i64 0, .int .i64 0, .int .i64 0, .int .u8 0]).cells (8 * 4) = (flat rc (List.replicate 8 ⟨0, 0, 0, 0, 0⟩)).toArray := by kernel_rfl
theorem made3 : madeCells (Value.int .i64 0).cells (8 * 1) = ((List.replicate 8 (0 : Int)).map (Value.int .i64)).toArray := by kernel_rfl

theorem make50 (W : World) : (Instr.makeSlice 50 (.int .i64 8) (.int .i64 8)).run Try.prog W = .ok (.slice (some ⟨W.heap.size, 0, none⟩) 8 8) (W.alloc (.cells (flat rc (List.replicate 8 ⟨0, 0, 0, 0, 0⟩)).toArray 80)) := by
  obtain ⟨i, hi, hz0, hz1, hz2⟩ := info_parts info80
  have := run_make (P := Try.prog) W 50 80 i _ Try.underlying50 hi hz0 .i64 .i64 8 8 (by omega) (by omega) (by rw [hz2]; omega) (by omega)
  rw [hz1] at this
  rw [this]
  exact congrArg (fun x => Result.ok _ (W.alloc (.cells x 80))) made80

theorem make34 (W : World) : (Instr.makeSlice 34 (.int .i64 8) (.int .i64 8)).run Try.prog W = .ok (.slice (some ⟨W.heap.size, 0, none⟩) 8 8) (W.alloc (.cells ((List.replicate 8 (0 : Int)).map (Value.int .i64)).toArray 3)) := by
  obtain ⟨i, hi, hz0, hz1, hz2⟩ := info_parts info3
  have := run_make (P := Try.prog) W 34 3 i _ Try.underlying34 hi hz0 .i64 .i64 8 8 (by omega) (by omega) (by rw [hz2]; omega) (by omega)
  rw [hz1] at this
  rw [this]
  exact congrArg (fun x => Result.ok _ (W.alloc (.cells x 3))) made3

def newPost (w : World) (e : Ending) (w' : World) : Prop := ∃ x a b, e = .returned (ptr x) ∧ Quiet w w' ∧ (∀ k, own x a b k → w.heap.size ≤ k) ∧ Rep w' x a b (-1) [] (List.replicate 8 0)

set_option maxRecDepth 100000 in
set_option maxHeartbeats 2000000 in
theorem new_any (w : World) : Calls Try.prog 13 #[] w (newPost w) := by
  have hm1 := make50
  have hm2 := make34
  generalize hF : (flat rc (List.replicate 8 ⟨0, 0, 0, 0, 0⟩)).toArray = F at hm1
  generalize hG : ((List.replicate 8 (0 : Int)).map (Value.int .i64)).toArray = G at hm2
  have hFH := hide hF
  have hGH := hide hG
  clear hF hG
  go_enter Try.func13, Try.ntmps13
  go_wp2
  go_region_law (fail)
  · go_wp2
    go_ret
    rw [← unhide hFH, ← unhide hGH]
    refine ⟨w.heap.size + 1 + 1, w.heap.size, w.heap.size + 1, rfl, ((((Chg.refl _ _).alloc _).alloc _).alloc _).drew, ?_, ?_⟩
    · rintro k (rfl | rfl | rfl) <;> omega
    · exact ⟨(Blk.at_new (by simp)).drew, (((Blk.new _ _ _).alloc _).alloc _).drew, ((Blk.at_new (by simp)).alloc _).drew, by omega, by omega, by omega, by simp, by simp⟩
  · go_wp2
    go_ret
    rw [← unhide hFH, ← unhide hGH]
    refine ⟨w.heap.size + 1 + 1, w.heap.size + 1, w.heap.size, rfl, ((((Chg.refl _ _).alloc _).alloc _).alloc _).drew, ?_, ?_⟩
    · rintro k (rfl | rfl | rfl) <;> omega
    · exact ⟨(Blk.at_new (by simp)).drew, ((Blk.at_new (by simp)).alloc _).drew, (((Blk.new _ _ _).alloc _).alloc _).drew, by omega, by omega, by omega, by simp, by simp⟩
end Go.Proofs.Qxb6500369a
