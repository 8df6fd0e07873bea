/-
  THE ABSTRACT MESH: New.
-/
import Derived.Test.Qxb6500364aRouteM
namespace Go.Proofs.Qxb6500364a
open Go.RowKit Go.Qx
set_option linter.unusedVariables false
set_option linter.unusedSimpArgs false

theorem info3 : (Try.prog.info? 3).map (fun i => (i.zero, i.size, i.bytes)) = some (some (.int .i64 0), 1, 8) := by kernel_rfl
theorem info9 : (Try.prog.info? 9).map (fun i => (i.zero, i.size, i.bytes)) = some (some (.string ⟨#[]⟩), 1, 16) := by kernel_rfl

/-- The row of ears while New lays Far. -/
def farTo (k : Nat) : List Value := (List.range 25).map fun i => if i < k then sv (fun _ => 16) else .string ⟨#[]⟩

theorem farTo_set (k : Nat) (hk : k < 25) : (farTo k).set k (sv (fun _ => 16)) = farTo (k + 1) := by
  refine List.ext_getElem? ?_
  intro i
  rw [List.getElem?_set]
  unfold farTo
  by_cases e : k = i
  · subst e; simp [hk]
  · rw [if_neg e, List.getElem?_map, List.getElem?_map]
    by_cases hi : i < 25
    · rw [List.getElem?_range hi]
      simp only [Option.map_some]
      by_cases h2 : i < k
      · rw [if_pos h2, if_pos (by omega)]
      · rw [if_neg h2, if_neg (by omega)]
    · rw [List.getElem?_eq_none (by simp; omega)]; rfl

theorem farTo_get (k i : Nat) (hi : i < 25) : ∃ u, (farTo k)[i]? = some u := ⟨_, List.getElem?_eq_getElem (by simp [farTo, hi])⟩

theorem farTo_all : farTo 25 = grid sv (fun _ _ _ => 16) := by
  unfold farTo grid
  refine List.map_congr_left ?_
  intro i hi
  rw [List.mem_range] at hi
  rw [if_pos hi]

theorem made3 : madeCells (Value.int .i64 0).cells (25 * 1) = (grid iv (fun _ _ => 0)).toArray := by kernel_rfl
theorem made9 : madeCells (Value.string ⟨#[]⟩).cells (25 * 1) = (farTo 0).toArray := by kernel_rfl

theorem make39 (W : World) : (Instr.makeSlice 39 (.int .i64 25) (.int .i64 25)).run Try.prog W = .ok (.slice (some ⟨W.heap.size, 0, none⟩) 25 25) (W.alloc (.cells (grid iv (fun _ _ => 0)).toArray 3)) := by
  obtain ⟨i, hi, hz0, hz1, hz2⟩ := info_parts info3
  have := run_make (P := Try.prog) W 39 3 i _ Try.underlying39 hi hz0 .i64 .i64 25 25 (by omega) (by omega) (by rw [hz2]; omega) (by omega)
  rw [hz1] at this
  rw [this]
  exact congrArg (fun x => Result.ok _ (W.alloc (.cells x 3))) made3

theorem make40 (W : World) : (Instr.makeSlice 40 (.int .i64 25) (.int .i64 25)).run Try.prog W = .ok (.slice (some ⟨W.heap.size, 0, none⟩) 25 25) (W.alloc (.cells (farTo 0).toArray 9)) := by
  obtain ⟨i, hi, hz0, hz1, hz2⟩ := info_parts info9
  have := run_make (P := Try.prog) W 40 9 i _ Try.underlying40 hi hz0 .i64 .i64 25 25 (by omega) (by omega) (by rw [hz2]; omega) (by omega)
  rw [hz1] at this
  rw [this]
  exact congrArg (fun x => Result.ok _ (W.alloc (.cells x 9))) made9

def newMPost (w : World) (e : Ending) (w' : World) : Prop := ∃ m p q, e = .returned (ptr m) ∧ Quiet w w' ∧ (∀ k, ownM m p q k → w.heap.size ≤ k) ∧ RepM w' m p q (fun _ _ => 0) (fun _ _ _ => 16)

structure NewMAt (w wr : World) (m p q k : Nat) : Prop where
  qq : Quiet w wr
  bm : Blk wr m 72 [.slice (some ⟨p, 0, none⟩) 25 25, .slice (some ⟨q, 0, none⟩) 25 25]
  bp : Blk wr p 3 (grid iv (fun _ _ => 0))
  bq : Blk wr q 9 (farTo k)
  mp : m ≠ p
  mq : m ≠ q
  pq : p ≠ q
  own : ∀ k, ownM m p q k → w.heap.size ≤ k

theorem NewMAt.done {w wr : World} {m p q : Nat} (h : NewMAt w wr m p q 25) : newMPost w (.returned (ptr m)) wr := by
  refine ⟨m, p, q, rfl, h.qq, h.own, h.bm, h.bp, ?_, h.mp, h.mq, h.pq⟩
  have := h.bq
  rw [farTo_all] at this
  exact this

set_option maxRecDepth 100000 in
set_option maxHeartbeats 2000000 in
theorem mnew_any (w : World) : Calls Try.prog 19 #[] w (newMPost w) := by
  have hm1 := make39
  have hm2 := make40
  generalize hF : (grid iv (fun _ _ => 0)).toArray = F at hm1
  generalize hG : (farTo 0).toArray = G at hm2
  have hFH := hide hF
  have hGH := hide hG
  clear hF hG
  go_enter Try.func19, Try.ntmps19
  go_wp2
  go_region_law (fail)
  · have N : NewMAt w (((((w.alloc (.cells F 3)).alloc (.cells G 9)).alloc (.cells #[.slice (some ⟨w.heap.size, 0, none⟩) 25 25, .slice (some ⟨w.heap.size + 1, 0, none⟩) 25 25] 72)).drew)) (w.heap.size + 1 + 1) (w.heap.size) (w.heap.size + 1) 0 := by
      refine ⟨((((Chg.refl _ _).alloc _).alloc _).alloc _).drew, ?_, ?_, ?_, by omega, by omega, by omega, ?_⟩
      · exact (Blk.at_new (cs := [.slice (some ⟨w.heap.size, 0, none⟩) 25 25, .slice (some ⟨w.heap.size + 1, 0, none⟩) 25 25]) (by simp)).drew
      · rw [← unhide hFH]; exact (((Blk.new _ _ _).alloc _).alloc _).drew
      · rw [← unhide hGH]; exact ((Blk.at_new (by simp)).alloc _).drew
      · rintro k (rfl | rfl | rfl) <;> omega
    have NH := hide N
    clear N
    generalize World.drew _ = W0 at *
    go_wp2
    go_loopw [2] (fun i wr => ∃ k : Nat, k ≤ 25 ∧ i = .int .i64 k ∧ NewMAt w wr (w.heap.size + 1 + 1) (w.heap.size) (w.heap.size + 1) k) (fun i _ => 26 - (intOf i).toNat)
    case atStart => exact ⟨0, by omega, rfl, unhide NH⟩
    case round =>
      obtain ⟨k, hk, rfl, N⟩ := hrel
      clear NH
      by_cases hlt : k < 25
      · have k0 : (0 : Int) ≤ (k : Int) := by omega
        have k1 : (k : Int) < 25 := by omega
        have c1 := N.bm.cell 1
        simp at c1
        obtain ⟨u, hu⟩ := farTo_get k k hlt
        have cr := (N.bq.cell k).trans hu
        have fr := N.bq.frozen k
        have fin : Hid (NewMAt w (wr.setCell ⟨w.heap.size + 1, k, none⟩ (.string ⟨#[64, 64, 64, 64, 64]⟩)) (w.heap.size + 1 + 1) (w.heap.size) (w.heap.size + 1) (k + 1)) := by
          refine ⟨N.qq.setCell (p := ⟨w.heap.size + 1, k, none⟩) (.inr (by first | exact Nat.le_refl _ | exact Nat.le_succ _)) _, N.bm.set_other (a := ⟨w.heap.size + 1, k, none⟩) N.mq _, N.bp.set_other (a := ⟨w.heap.size + 1, k, none⟩) N.pq _, ?_, N.mp, N.mq, N.pq, N.own⟩
          have h1 := N.bq.set k (sv (fun _ => 16))
          rw [farTo_set k hlt, ← far_sv] at h1
          exact h1
        clear N hu
        go_wp2
        go_roundw
        case rel => exact ⟨k + 1, by omega, by go_num, unhide fin⟩
        case measure => simp [intOf]; omega
      · have k1 : ¬ (k : Int) < 25 := by omega
        obtain rfl : k = 25 := by omega
        go_wp2
        go_ret
        exact N.done
  · have N : NewMAt w (((((w.alloc (.cells G 9)).alloc (.cells F 3)).alloc (.cells #[.slice (some ⟨w.heap.size + 1, 0, none⟩) 25 25, .slice (some ⟨w.heap.size, 0, none⟩) 25 25] 72)).drew)) (w.heap.size + 1 + 1) (w.heap.size + 1) (w.heap.size) 0 := by
      refine ⟨((((Chg.refl _ _).alloc _).alloc _).alloc _).drew, ?_, ?_, ?_, by omega, by omega, by omega, ?_⟩
      · exact (Blk.at_new (cs := [.slice (some ⟨w.heap.size + 1, 0, none⟩) 25 25, .slice (some ⟨w.heap.size, 0, none⟩) 25 25]) (by simp)).drew
      · rw [← unhide hFH]; exact ((Blk.at_new (by simp)).alloc _).drew
      · rw [← unhide hGH]; exact (((Blk.new _ _ _).alloc _).alloc _).drew
      · rintro k (rfl | rfl | rfl) <;> omega
    have NH := hide N
    clear N
    generalize World.drew _ = W0 at *
    go_wp2
    go_loopw [2] (fun i wr => ∃ k : Nat, k ≤ 25 ∧ i = .int .i64 k ∧ NewMAt w wr (w.heap.size + 1 + 1) (w.heap.size + 1) (w.heap.size) k) (fun i _ => 26 - (intOf i).toNat)
    case atStart => exact ⟨0, by omega, rfl, unhide NH⟩
    case round =>
      obtain ⟨k, hk, rfl, N⟩ := hrel
      clear NH
      by_cases hlt : k < 25
      · have k0 : (0 : Int) ≤ (k : Int) := by omega
        have k1 : (k : Int) < 25 := by omega
        have c1 := N.bm.cell 1
        simp at c1
        obtain ⟨u, hu⟩ := farTo_get k k hlt
        have cr := (N.bq.cell k).trans hu
        have fr := N.bq.frozen k
        have fin : Hid (NewMAt w (wr.setCell ⟨w.heap.size, k, none⟩ (.string ⟨#[64, 64, 64, 64, 64]⟩)) (w.heap.size + 1 + 1) (w.heap.size + 1) (w.heap.size) (k + 1)) := by
          refine ⟨N.qq.setCell (p := ⟨w.heap.size, k, none⟩) (.inr (by first | exact Nat.le_refl _ | exact Nat.le_succ _)) _, N.bm.set_other (a := ⟨w.heap.size, k, none⟩) N.mq _, N.bp.set_other (a := ⟨w.heap.size, k, none⟩) N.pq _, ?_, N.mp, N.mq, N.pq, N.own⟩
          have h1 := N.bq.set k (sv (fun _ => 16))
          rw [farTo_set k hlt, ← far_sv] at h1
          exact h1
        clear N hu
        go_wp2
        go_roundw
        case rel => exact ⟨k + 1, by omega, by go_num, unhide fin⟩
        case measure => simp [intOf]; omega
      · have k1 : ¬ (k : Int) < 25 := by omega
        obtain rfl : k = 25 := by omega
        go_wp2
        go_ret
        exact N.done
end Go.Proofs.Qxb6500364a
