/-
  THE BOOK: NewGhost.
-/
import Derived.Test.Qxb6500364aKGhost
import Derived.Test.Qxb6500364aNewM
import Derived.Deep.DeepCutAuto
import Derived.Deep.CutRange
namespace Go.Proofs.Qxb6500364a
open Go.RowKit Go.Qx
set_option linter.unusedVariables false
set_option linter.unusedSimpArgs false

theorem info4 : (Try.prog.info? 4).map (fun i => (i.zero, i.size, i.bytes)) = some (some (.bool false), 1, 1) := by kernel_rfl
theorem made4 : madeCells (Value.bool false).cells (25 * 1) = (grid Value.bool (fun _ _ => false)).toArray := by kernel_rfl
theorem make41 (W : World) : (Instr.makeSlice 41 (.int .i64 25) (.int .i64 25)).run Try.prog W = .ok (.slice (some ⟨W.heap.size, 0, none⟩) 25 25) (W.alloc (.cells (grid Value.bool (fun _ _ => false)).toArray 4)) := by
  obtain ⟨i, hi, hz0, hz1, hz2⟩ := info_parts info4
  have := run_make (P := Try.prog) W 41 4 i _ Try.underlying41 hi hz0 .i64 .i64 25 25 (by omega) (by omega) (by rw [hz2]; omega) (by omega)
  rw [hz1] at this
  rw [this]
  exact congrArg (fun x => Result.ok _ (W.alloc (.cells x 4))) made4

structure NewGAt (w wr : World) (g p q m f k : Nat) : Prop where
  qq : Quiet w wr
  bg : Blk wr g 43 [.slice (some ⟨p, 0, none⟩) 25 25, .slice (some ⟨q, 0, none⟩) 25 25, .slice (some ⟨m, 0, none⟩) 25 25, .slice (some ⟨f, 0, none⟩) 25 25, .int .i64 0]
  bp : Blk wr p 3 (grid iv (fun _ _ => 0))
  bq : Blk wr q 9 (farTo k)
  bm : Blk wr m 4 (grid Value.bool (fun _ _ => false))
  bf : Blk wr f 4 (grid Value.bool (fun _ _ => false))
  gp : g ≠ p
  gq : g ≠ q
  gm : g ≠ m
  gf : g ≠ f
  pq : p ≠ q
  pm : p ≠ m
  pf : p ≠ f
  qm : q ≠ m
  qf : q ≠ f
  mf : m ≠ f
  own : ∀ k, ownG g p q m f k → w.heap.size ≤ k

set_option maxRecDepth 100000 in
set_option maxHeartbeats 4000000 in
theorem newG_any (w : World) : Calls Try.prog 10 #[] w fun e w' => ∃ g p q m f, e = .returned (.pointer (some ⟨g, 0, none⟩)) ∧ Quiet w w' ∧ (∀ k, ownG g p q m f k → w.heap.size ≤ k) ∧ RepG w' g p q m f (fun _ _ => 0) (fun _ _ _ => 16) (fun _ _ => false) (fun _ _ => false) 0 := by
  have hm1 := make39
  have hm2 := make40
  have hm3 := make41
  generalize hF : (grid iv (fun _ _ => 0)).toArray = F at hm1
  generalize hG : (farTo 0).toArray = G at hm2
  generalize hB : (grid Value.bool (fun _ _ => false)).toArray = B at hm3
  have hFH := hide hF
  have hGH := hide hG
  have hBH := hide hB
  clear hF hG hB
  go_enter Try.func10, Try.ntmps10
  go_wp2
  go_cut [1] (fun x wx => ∃ g p q m f, x = .pointer (some ⟨g, 0, none⟩) ∧ NewGAt w wx g p q m f 0)
  case first =>
    go_region_law (fail)
    all_goals
      go_wp2
      go_meet
      refine ⟨_, _, _, _, _, rfl, ⟨((((((Chg.refl _ _).alloc _).alloc _).alloc _).alloc _).alloc _).drew, (Blk.at_new (cs := [_, _, _, _, _]) (by simp)).drew, ?_, ?_, ?_, ?_, by omega, by omega, by omega, by omega, by omega, by omega, by omega, by omega, by omega, by omega, ?_⟩⟩
      · rw [← unhide hFH]
        refine Blk.drew ?_
        repeat (first | (refine Blk.at_new ?_; simp; done) | refine Blk.alloc ?_ _)
      · rw [← unhide hGH]
        refine Blk.drew ?_
        repeat (first | (refine Blk.at_new ?_; simp; done) | refine Blk.alloc ?_ _)
      · rw [← unhide hBH]
        refine Blk.drew ?_
        repeat (first | (refine Blk.at_new ?_; simp; done) | refine Blk.alloc ?_ _)
      · rw [← unhide hBH]
        refine Blk.drew ?_
        repeat (first | (refine Blk.at_new ?_; simp; done) | refine Blk.alloc ?_ _)
      · rintro k (rfl | rfl | rfl | rfl | rfl) <;> omega
  case rest =>
    obtain ⟨g, p, q, m, f, rfl, N⟩ := hcut
    have NH := hide N
    clear N hm1 hm2 hm3 hFH hGH hBH
    go_wp2
    go_loopw [2] (fun i wr => ∃ k : Nat, k ≤ 25 ∧ i = .int .i64 k ∧ NewGAt w wr g p q m f k) (fun i _ => 26 - (intOf i).toNat)
    case atStart => exact ⟨0, by omega, rfl, unhide NH⟩
    case round =>
      obtain ⟨k, hk, rfl, N⟩ := hrel
      clear NH
      by_cases hlt : k < 25
      · have k0 : (0 : Int) ≤ (k : Int) := by omega
        have k1 : (k : Int) < 25 := by omega
        have c1 : wr.cell? ⟨g, 1, none⟩ = some (.slice (some ⟨q, 0, none⟩) 25 25) := N.bg.cell 1
        obtain ⟨u, hu⟩ := farTo_get k k hlt
        have cr := (N.bq.cell k).trans hu
        have fr := N.bq.frozen k
        have fin : Hid (NewGAt w (wr.setCell ⟨q, k, none⟩ (.string ⟨#[64, 64, 64, 64, 64]⟩)) g p q m f (k + 1)) := by
          have h1 := N.bq.set k (sv (fun _ => 16))
          rw [farTo_set k hlt, ← far_sv] at h1
          exact ⟨N.qq.setCell (p := ⟨q, k, none⟩) (.inr (N.own q (.inr (.inr (.inl rfl))))) _, N.bg.set_other (a := ⟨q, k, none⟩) N.gq _, N.bp.set_other (a := ⟨q, k, none⟩) N.pq _, h1, N.bm.set_other (a := ⟨q, k, none⟩) (Ne.symm N.qm) _, N.bf.set_other (a := ⟨q, k, none⟩) (Ne.symm N.qf) _, N.gp, N.gq, N.gm, N.gf, N.pq, N.pm, N.pf, N.qm, N.qf, N.mf, N.own⟩
        clear N hu
        go_wp2
        go_roundw
        case rel => exact ⟨k + 1, by omega, by go_num, unhide fin⟩
        case measure => simp [intOf]; omega
      · have k1 : ¬ (k : Int) < 25 := by omega
        obtain rfl : k = 25 := by omega
        go_wp2
        go_ret
        have hq := N.bq
        rw [farTo_all] at hq
        exact ⟨g, rfl, N.qq, p, q, m, f, N.own, N.bg, N.bp, hq, N.bm, N.bf, N.gp, N.gq, N.gm, N.gf, N.pq, N.pm, N.pf, N.qm, N.qf, N.mf⟩
end Go.Proofs.Qxb6500364a
