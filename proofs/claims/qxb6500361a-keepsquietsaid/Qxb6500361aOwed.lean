/-
  owed, a theorem a kind and case. Written by gen_owed.py.
-/
import Derived.Test.Qxb6500361aOwedH
namespace Go.Proofs.Qxb6500361a
open Go.RowKit Go.Qx
set_option linter.unusedSimpArgs false
set_option linter.unusedVariables false

set_option maxRecDepth 100000 in
set_option maxHeartbeats 16000000 in
theorem owed_check (w : World) (g a b v : Nat) (ts : List K3) (p : ByteArray) (r : Gh w g a b v ts p) (J : Nat) (oa : Int) (hct : Cut ts oa J) (ob oc : Int) (os ot : ByteArray) (has : Bool) (hhas : HasAt ts oa J has) :
    Calls Try.prog 31 #[ptr g, opv 8 oa ob oc os ot, .string p] w fun e w' => e = .returned (.tuple #[ansv 0 1 0 ⟨#[]⟩, .string p]) ∧ Chg (gown g a b v) w w' ∧ Gh w' g a b v ts p := by
  have hhasH := hide hhas
  clear hhas
  unfold ptr opv
  have hl := r.len
  have hJ := hct.le
  generalize hN : ts.length = N at hl hJ
  have hNH := hide hN
  clear hN
  have ow := own3_new w 8 oa ob oc os ot
  have q0 : Quiet w (((w.alloc (.cells #[.int .i64 8, .int .i64 oa, .int .i64 ob, .int .i64 oc, .string os, .string ot] 44)).alloc (.cells #[.int .i64 0, .int .i64 0, .int .i64 0, .string ⟨#[]⟩] 63)).alloc (.cells #[.int .i64 0, .int .i64 0, .int .i64 0, .string ⟨#[]⟩] 63)) := (((Chg.refl _ _).alloc _).alloc _).alloc _
  have owH := hide ow
  have q0H := hide q0
  clear ow q0
  go_enter Try.func31, Try.ntmps31
  go_upto_block 0 with fail
  go_cut [9] (fun i wx => i = .int .i64 J ∧ Quiet w wx ∧ Own3 w wx 8 oa ob oc os ot)
  case first =>
    go_wp2
    go_loopg [9] 13 (fun gg i wr => ∃ j : Nat, j ≤ J ∧ gg = 13 - j ∧ i = .int .i64 j ∧ Quiet w wr ∧ Own3 w wr 8 oa ob oc os ot)
    case atStart => exact ⟨0, Nat.zero_le _, rfl, rfl, unhide q0H, unhide owH⟩
    case round =>
      obtain ⟨j, hj, hg, rfl, hq, ho⟩ := hrel
      have hgH := hide hg
      clear hg
      have r1 := r.quiet hq
      have cg := r1.blk.cell 0
      simp only [List.getElem?_cons_zero] at cg
      rw [unhide hNH] at cg
      have co := ho.o.cell 1
      simp only [List.getElem?_cons_zero, List.getElem?_cons_succ] at co
      by_cases hjN : j < N
      · have hjl : j < ts.length := by rw [unhide hNH]; exact hjN
        have hc := (r1.get j ts[j] (List.getElem?_eq_getElem hjl)).1
        have g1 : decide (j < N) = true := by simpa using hjN
        have g2 : (j : Int) < (N : Int) := by omega
        have g3 : (0 : Int) ≤ (j : Int) := by omega
        by_cases hjJ : j < J
        · have hle : ts[j].1 ≤ oa := hct.lo j hjl hjJ
          generalize ts[j].1 = tk at *
          go_wp2
          go_big_quiet (fail)
          go_wp2
          go_roundg (13 - (j + 1))
          case measure => have := unhide hgH; omega
          case rel => exact ⟨j + 1, by omega, rfl, by go_num, hq.drewN _, ho.drewN _⟩
        · have hgt : oa < ts[j].1 := hct.hi j hjl (by omega)
          generalize ts[j].1 = tk at *
          go_wp2
          go_big_quiet (fail)
          go_wp2
          go_meet
          case rel => exact ⟨by rw [show j = J by omega], hq.drewN _, ho.drewN _⟩
      · have g1 : decide (j < N) = false := by simpa using hjN
        have g2 : ¬ (j : Int) < (N : Int) := by omega
        go_wp2
        go_big_quiet (fail)
        go_wp2
        go_meet
        case rel => exact ⟨by rw [show j = J by omega], hq.drewN _, ho.drewN _⟩
  case rest =>
    obtain ⟨rfl, hq, ho⟩ := hcut
    go_wp2
    go_cut [10] (fun h wx => h = .bool has ∧ Quiet w wx ∧ Own3 w wx 8 oa ob oc os ot)
    case first =>
      have r1 := r.quiet hq
      have cg := r1.blk.cell 0
      simp only [List.getElem?_cons_zero] at cg
      rw [unhide hNH] at cg
      have co := ho.o.cell 1
      simp only [List.getElem?_cons_zero, List.getElem?_cons_succ] at co
      rcases unhide hhasH with ⟨rfl, i, t, rfl, ht, hx⟩ | ⟨rfl, rfl | ⟨i, t, rfl, ht, hx⟩⟩
      · have hc := (r1.get i t ht).1
        rw [hx] at hc
        have e1 : ((i + 1 : Nat) : Int) = (i : Int) + 1 := by omega
        have e2 : (i : Int) + 1 - 1 = (i : Int) := by omega
        have g1 : (0 : Int) < (i : Int) + 1 := by omega
        have g2 : (0 : Int) ≤ (i : Int) := by omega
        have g3 : (i : Int) < (N : Int) := by omega
        clear hx ht
        go_big_quiet (fail)
        go_wp2
        go_meet
        case rel => exact ⟨rfl, hq.drewN _, ho.drewN _⟩
      · go_big_quiet (fail)
        go_wp2
        go_meet
        case rel => exact ⟨rfl, hq.drewN _, ho.drewN _⟩
      · have hc := (r1.get i t ht).1
        have e1 : ((i + 1 : Nat) : Int) = (i : Int) + 1 := by omega
        have e2 : (i : Int) + 1 - 1 = (i : Int) := by omega
        have g1 : (0 : Int) < (i : Int) + 1 := by omega
        have g2 : (0 : Int) ≤ (i : Int) := by omega
        have g3 : (i : Int) < (N : Int) := by omega
        have g4 : (t.1 == oa) = false := by simpa using hx
        generalize t.1 = tk at *
        clear hx ht
        go_big_quiet (fail)
        go_wp2
        go_meet
        case rel => exact ⟨rfl, hq.drewN _, ho.drewN _⟩
    case rest =>
      clear hq ho
      obtain ⟨rfl, hq, ho⟩ := hcut
      have zo0 := ho.o.cell 0
      have zo1 := ho.o.cell 1
      have zo2 := ho.o.cell 2
      have zo4 := ho.o.cell 4
      have zw0 := ho.w.cell 0
      have zw1 := ho.w.cell 1
      have zw2 := ho.w.cell 2
      have zw3 := ho.w.cell 3
      have zr0 := ho.r.cell 0
      have zr1 := ho.r.cell 1
      have zr2 := ho.r.cell 2
      have zr3 := ho.r.cell 3
      simp only [List.getElem?_cons_zero, List.getElem?_cons_succ] at zo0 zo1 zo2 zo4 zw0 zw1 zw2 zw3 zr0 zr1 zr2 zr3
      have fw0 := ho.w.frozen 0
      have fw1 := ho.w.frozen 1
      have fw2 := ho.w.frozen 2
      have fw3 := ho.w.frozen 3
      have fr0 := ho.r.frozen 0
      have fr1 := ho.r.frozen 1
      have fr2 := ho.r.frozen 2
      have fr3 := ho.r.frozen 3
      have nw : w.heap.size + 1 ≠ w.heap.size + 2 := by omega
      have nw' : w.heap.size + 2 ≠ w.heap.size + 1 := by omega
      go_wp2
      exact bodyPost_ret (v := .tuple #[ansv 0 1 0 ⟨#[]⟩, .string p]) (results_blk_tmp (u := 63) (cs := [.int .i64 0, .int .i64 1, .int .i64 0, .string ⟨#[]⟩]) Try.results31 rfl Try.isAgg63 Try.sizeOf63 (((((ho.r.set_other (show w.heap.size + 1 ≠ w.heap.size + 1 + 1 by omega) _).set 0 _).set 1 _).set 2 _).set 3 _)) rfl ⟨rfl, ((((((Quiet.chg hq _).setCell (.inr (by dsimp only; omega)) _).setCell (.inr (by dsimp only; omega)) _).setCell (.inr (by dsimp only; omega)) _).setCell (.inr (by dsimp only; omega)) _).setCell (.inr (by dsimp only; omega)) _), (r.quiet (show Quiet w _ from (((((hq.setCell (.inr (by dsimp only; omega)) _).setCell (.inr (by dsimp only; omega)) _).setCell (.inr (by dsimp only; omega)) _).setCell (.inr (by dsimp only; omega)) _).setCell (.inr (by dsimp only; omega)) _)))⟩

set_option maxRecDepth 100000 in
set_option maxHeartbeats 16000000 in
theorem owed_other (w : World) (g a b v : Nat) (ts : List K3) (p : ByteArray) (r : Gh w g a b v ts p) (J : Nat) (oa : Int) (hct : Cut ts oa J) (k : Int) (ob oc : Int) (os ot : ByteArray) (has : Bool) (hhas : HasAt ts oa J has) (h2 : (k == 2) = false) (h3 : (k == 3) = false) (h4 : (k == 4) = false) (h5 : (k == 5) = false) (h6 : (k == 6) = false) (h7 : (k == 7) = false) (h8 : (k == 8) = false) (h9 : (k == 9) = false) :
    Calls Try.prog 31 #[ptr g, opv k oa ob oc os ot, .string p] w fun e w' => e = .returned (.tuple #[ansv 0 0 0 ⟨#[]⟩, .string p]) ∧ Chg (gown g a b v) w w' ∧ Gh w' g a b v ts p := by
  have hhasH := hide hhas
  clear hhas
  have h2H := hide h2
  clear h2
  have h3H := hide h3
  clear h3
  have h4H := hide h4
  clear h4
  have h5H := hide h5
  clear h5
  have h6H := hide h6
  clear h6
  have h7H := hide h7
  clear h7
  have h8H := hide h8
  clear h8
  have h9H := hide h9
  clear h9
  unfold ptr opv
  have hl := r.len
  have hJ := hct.le
  generalize hN : ts.length = N at hl hJ
  have hNH := hide hN
  clear hN
  have ow := own3_new w k oa ob oc os ot
  have q0 : Quiet w (((w.alloc (.cells #[.int .i64 k, .int .i64 oa, .int .i64 ob, .int .i64 oc, .string os, .string ot] 44)).alloc (.cells #[.int .i64 0, .int .i64 0, .int .i64 0, .string ⟨#[]⟩] 63)).alloc (.cells #[.int .i64 0, .int .i64 0, .int .i64 0, .string ⟨#[]⟩] 63)) := (((Chg.refl _ _).alloc _).alloc _).alloc _
  have owH := hide ow
  have q0H := hide q0
  clear ow q0
  go_enter Try.func31, Try.ntmps31
  go_upto_block 0 with fail
  go_cut [9] (fun i wx => i = .int .i64 J ∧ Quiet w wx ∧ Own3 w wx k oa ob oc os ot)
  case first =>
    go_wp2
    go_loopg [9] 13 (fun gg i wr => ∃ j : Nat, j ≤ J ∧ gg = 13 - j ∧ i = .int .i64 j ∧ Quiet w wr ∧ Own3 w wr k oa ob oc os ot)
    case atStart => exact ⟨0, Nat.zero_le _, rfl, rfl, unhide q0H, unhide owH⟩
    case round =>
      obtain ⟨j, hj, hg, rfl, hq, ho⟩ := hrel
      have hgH := hide hg
      clear hg
      have r1 := r.quiet hq
      have cg := r1.blk.cell 0
      simp only [List.getElem?_cons_zero] at cg
      rw [unhide hNH] at cg
      have co := ho.o.cell 1
      simp only [List.getElem?_cons_zero, List.getElem?_cons_succ] at co
      by_cases hjN : j < N
      · have hjl : j < ts.length := by rw [unhide hNH]; exact hjN
        have hc := (r1.get j ts[j] (List.getElem?_eq_getElem hjl)).1
        have g1 : decide (j < N) = true := by simpa using hjN
        have g2 : (j : Int) < (N : Int) := by omega
        have g3 : (0 : Int) ≤ (j : Int) := by omega
        by_cases hjJ : j < J
        · have hle : ts[j].1 ≤ oa := hct.lo j hjl hjJ
          generalize ts[j].1 = tk at *
          go_wp2
          go_big_quiet (fail)
          go_wp2
          go_roundg (13 - (j + 1))
          case measure => have := unhide hgH; omega
          case rel => exact ⟨j + 1, by omega, rfl, by go_num, hq.drewN _, ho.drewN _⟩
        · have hgt : oa < ts[j].1 := hct.hi j hjl (by omega)
          generalize ts[j].1 = tk at *
          go_wp2
          go_big_quiet (fail)
          go_wp2
          go_meet
          case rel => exact ⟨by rw [show j = J by omega], hq.drewN _, ho.drewN _⟩
      · have g1 : decide (j < N) = false := by simpa using hjN
        have g2 : ¬ (j : Int) < (N : Int) := by omega
        go_wp2
        go_big_quiet (fail)
        go_wp2
        go_meet
        case rel => exact ⟨by rw [show j = J by omega], hq.drewN _, ho.drewN _⟩
  case rest =>
    obtain ⟨rfl, hq, ho⟩ := hcut
    go_wp2
    go_cut [10] (fun h wx => h = .bool has ∧ Quiet w wx ∧ Own3 w wx k oa ob oc os ot)
    case first =>
      have r1 := r.quiet hq
      have cg := r1.blk.cell 0
      simp only [List.getElem?_cons_zero] at cg
      rw [unhide hNH] at cg
      have co := ho.o.cell 1
      simp only [List.getElem?_cons_zero, List.getElem?_cons_succ] at co
      rcases unhide hhasH with ⟨rfl, i, t, rfl, ht, hx⟩ | ⟨rfl, rfl | ⟨i, t, rfl, ht, hx⟩⟩
      · have hc := (r1.get i t ht).1
        rw [hx] at hc
        have e1 : ((i + 1 : Nat) : Int) = (i : Int) + 1 := by omega
        have e2 : (i : Int) + 1 - 1 = (i : Int) := by omega
        have g1 : (0 : Int) < (i : Int) + 1 := by omega
        have g2 : (0 : Int) ≤ (i : Int) := by omega
        have g3 : (i : Int) < (N : Int) := by omega
        clear hx ht
        go_big_quiet (fail)
        go_wp2
        go_meet
        case rel => exact ⟨rfl, hq.drewN _, ho.drewN _⟩
      · go_big_quiet (fail)
        go_wp2
        go_meet
        case rel => exact ⟨rfl, hq.drewN _, ho.drewN _⟩
      · have hc := (r1.get i t ht).1
        have e1 : ((i + 1 : Nat) : Int) = (i : Int) + 1 := by omega
        have e2 : (i : Int) + 1 - 1 = (i : Int) := by omega
        have g1 : (0 : Int) < (i : Int) + 1 := by omega
        have g2 : (0 : Int) ≤ (i : Int) := by omega
        have g3 : (i : Int) < (N : Int) := by omega
        have g4 : (t.1 == oa) = false := by simpa using hx
        generalize t.1 = tk at *
        clear hx ht
        go_big_quiet (fail)
        go_wp2
        go_meet
        case rel => exact ⟨rfl, hq.drewN _, ho.drewN _⟩
    case rest =>
      clear hq ho
      obtain ⟨rfl, hq, ho⟩ := hcut
      have h2 := unhide h2H
      have h3 := unhide h3H
      have h4 := unhide h4H
      have h5 := unhide h5H
      have h6 := unhide h6H
      have h7 := unhide h7H
      have h8 := unhide h8H
      have h9 := unhide h9H
      have zo0 := ho.o.cell 0
      have zo1 := ho.o.cell 1
      have zo2 := ho.o.cell 2
      have zo4 := ho.o.cell 4
      have zw0 := ho.w.cell 0
      have zw1 := ho.w.cell 1
      have zw2 := ho.w.cell 2
      have zw3 := ho.w.cell 3
      have zr0 := ho.r.cell 0
      have zr1 := ho.r.cell 1
      have zr2 := ho.r.cell 2
      have zr3 := ho.r.cell 3
      simp only [List.getElem?_cons_zero, List.getElem?_cons_succ] at zo0 zo1 zo2 zo4 zw0 zw1 zw2 zw3 zr0 zr1 zr2 zr3
      have fw0 := ho.w.frozen 0
      have fw1 := ho.w.frozen 1
      have fw2 := ho.w.frozen 2
      have fw3 := ho.w.frozen 3
      have fr0 := ho.r.frozen 0
      have fr1 := ho.r.frozen 1
      have fr2 := ho.r.frozen 2
      have fr3 := ho.r.frozen 3
      have nw : w.heap.size + 1 ≠ w.heap.size + 2 := by omega
      have nw' : w.heap.size + 2 ≠ w.heap.size + 1 := by omega
      go_wp2
      exact bodyPost_ret (v := .tuple #[ansv 0 0 0 ⟨#[]⟩, .string p]) (results_blk_tmp (u := 63) (cs := [.int .i64 0, .int .i64 0, .int .i64 0, .string ⟨#[]⟩]) Try.results31 rfl Try.isAgg63 Try.sizeOf63 ((((ho.r.set 0 _).set 1 _).set 2 _).set 3 _)) rfl ⟨rfl, (((((Quiet.chg hq _).setCell (.inr (by dsimp only; omega)) _).setCell (.inr (by dsimp only; omega)) _).setCell (.inr (by dsimp only; omega)) _).setCell (.inr (by dsimp only; omega)) _), (r.quiet (show Quiet w _ from ((((hq.setCell (.inr (by dsimp only; omega)) _).setCell (.inr (by dsimp only; omega)) _).setCell (.inr (by dsimp only; omega)) _).setCell (.inr (by dsimp only; omega)) _)))⟩

set_option maxRecDepth 100000 in
set_option maxHeartbeats 16000000 in
theorem owed_get_none (w : World) (g a b v : Nat) (ts : List K3) (p : ByteArray) (r : Gh w g a b v ts p) (J : Nat) (oa : Int) (hct : Cut ts oa J) (ob oc : Int) (os ot : ByteArray) (has : Bool) (hhas : HasAt ts oa J has) (hno : has = false) :
    Calls Try.prog 31 #[ptr g, opv 3 oa ob oc os ot, .string p] w fun e w' => e = .returned (.tuple #[ansv 3 0 0 ⟨#[]⟩, .string p]) ∧ Chg (gown g a b v) w w' ∧ Gh w' g a b v ts p := by
  have hhasH := hide hhas
  clear hhas
  have hnoH := hide hno
  clear hno
  unfold ptr opv
  have hl := r.len
  have hJ := hct.le
  generalize hN : ts.length = N at hl hJ
  have hNH := hide hN
  clear hN
  have ow := own3_new w 3 oa ob oc os ot
  have q0 : Quiet w (((w.alloc (.cells #[.int .i64 3, .int .i64 oa, .int .i64 ob, .int .i64 oc, .string os, .string ot] 44)).alloc (.cells #[.int .i64 0, .int .i64 0, .int .i64 0, .string ⟨#[]⟩] 63)).alloc (.cells #[.int .i64 0, .int .i64 0, .int .i64 0, .string ⟨#[]⟩] 63)) := (((Chg.refl _ _).alloc _).alloc _).alloc _
  have owH := hide ow
  have q0H := hide q0
  clear ow q0
  go_enter Try.func31, Try.ntmps31
  go_upto_block 0 with fail
  go_cut [9] (fun i wx => i = .int .i64 J ∧ Quiet w wx ∧ Own3 w wx 3 oa ob oc os ot)
  case first =>
    go_wp2
    go_loopg [9] 13 (fun gg i wr => ∃ j : Nat, j ≤ J ∧ gg = 13 - j ∧ i = .int .i64 j ∧ Quiet w wr ∧ Own3 w wr 3 oa ob oc os ot)
    case atStart => exact ⟨0, Nat.zero_le _, rfl, rfl, unhide q0H, unhide owH⟩
    case round =>
      obtain ⟨j, hj, hg, rfl, hq, ho⟩ := hrel
      have hgH := hide hg
      clear hg
      have r1 := r.quiet hq
      have cg := r1.blk.cell 0
      simp only [List.getElem?_cons_zero] at cg
      rw [unhide hNH] at cg
      have co := ho.o.cell 1
      simp only [List.getElem?_cons_zero, List.getElem?_cons_succ] at co
      by_cases hjN : j < N
      · have hjl : j < ts.length := by rw [unhide hNH]; exact hjN
        have hc := (r1.get j ts[j] (List.getElem?_eq_getElem hjl)).1
        have g1 : decide (j < N) = true := by simpa using hjN
        have g2 : (j : Int) < (N : Int) := by omega
        have g3 : (0 : Int) ≤ (j : Int) := by omega
        by_cases hjJ : j < J
        · have hle : ts[j].1 ≤ oa := hct.lo j hjl hjJ
          generalize ts[j].1 = tk at *
          go_wp2
          go_big_quiet (fail)
          go_wp2
          go_roundg (13 - (j + 1))
          case measure => have := unhide hgH; omega
          case rel => exact ⟨j + 1, by omega, rfl, by go_num, hq.drewN _, ho.drewN _⟩
        · have hgt : oa < ts[j].1 := hct.hi j hjl (by omega)
          generalize ts[j].1 = tk at *
          go_wp2
          go_big_quiet (fail)
          go_wp2
          go_meet
          case rel => exact ⟨by rw [show j = J by omega], hq.drewN _, ho.drewN _⟩
      · have g1 : decide (j < N) = false := by simpa using hjN
        have g2 : ¬ (j : Int) < (N : Int) := by omega
        go_wp2
        go_big_quiet (fail)
        go_wp2
        go_meet
        case rel => exact ⟨by rw [show j = J by omega], hq.drewN _, ho.drewN _⟩
  case rest =>
    obtain ⟨rfl, hq, ho⟩ := hcut
    go_wp2
    go_cut [10] (fun h wx => h = .bool has ∧ Quiet w wx ∧ Own3 w wx 3 oa ob oc os ot)
    case first =>
      have r1 := r.quiet hq
      have cg := r1.blk.cell 0
      simp only [List.getElem?_cons_zero] at cg
      rw [unhide hNH] at cg
      have co := ho.o.cell 1
      simp only [List.getElem?_cons_zero, List.getElem?_cons_succ] at co
      rcases unhide hhasH with ⟨rfl, i, t, rfl, ht, hx⟩ | ⟨rfl, rfl | ⟨i, t, rfl, ht, hx⟩⟩
      · have hc := (r1.get i t ht).1
        rw [hx] at hc
        have e1 : ((i + 1 : Nat) : Int) = (i : Int) + 1 := by omega
        have e2 : (i : Int) + 1 - 1 = (i : Int) := by omega
        have g1 : (0 : Int) < (i : Int) + 1 := by omega
        have g2 : (0 : Int) ≤ (i : Int) := by omega
        have g3 : (i : Int) < (N : Int) := by omega
        clear hx ht
        go_big_quiet (fail)
        go_wp2
        go_meet
        case rel => exact ⟨rfl, hq.drewN _, ho.drewN _⟩
      · go_big_quiet (fail)
        go_wp2
        go_meet
        case rel => exact ⟨rfl, hq.drewN _, ho.drewN _⟩
      · have hc := (r1.get i t ht).1
        have e1 : ((i + 1 : Nat) : Int) = (i : Int) + 1 := by omega
        have e2 : (i : Int) + 1 - 1 = (i : Int) := by omega
        have g1 : (0 : Int) < (i : Int) + 1 := by omega
        have g2 : (0 : Int) ≤ (i : Int) := by omega
        have g3 : (i : Int) < (N : Int) := by omega
        have g4 : (t.1 == oa) = false := by simpa using hx
        generalize t.1 = tk at *
        clear hx ht
        go_big_quiet (fail)
        go_wp2
        go_meet
        case rel => exact ⟨rfl, hq.drewN _, ho.drewN _⟩
    case rest =>
      clear hq ho
      obtain ⟨rfl, hq, ho⟩ := hcut
      have hno := unhide hnoH
      have zo0 := ho.o.cell 0
      have zo1 := ho.o.cell 1
      have zo2 := ho.o.cell 2
      have zo4 := ho.o.cell 4
      have zw0 := ho.w.cell 0
      have zw1 := ho.w.cell 1
      have zw2 := ho.w.cell 2
      have zw3 := ho.w.cell 3
      have zr0 := ho.r.cell 0
      have zr1 := ho.r.cell 1
      have zr2 := ho.r.cell 2
      have zr3 := ho.r.cell 3
      simp only [List.getElem?_cons_zero, List.getElem?_cons_succ] at zo0 zo1 zo2 zo4 zw0 zw1 zw2 zw3 zr0 zr1 zr2 zr3
      have fw0 := ho.w.frozen 0
      have fw1 := ho.w.frozen 1
      have fw2 := ho.w.frozen 2
      have fw3 := ho.w.frozen 3
      have fr0 := ho.r.frozen 0
      have fr1 := ho.r.frozen 1
      have fr2 := ho.r.frozen 2
      have fr3 := ho.r.frozen 3
      have nw : w.heap.size + 1 ≠ w.heap.size + 2 := by omega
      have nw' : w.heap.size + 2 ≠ w.heap.size + 1 := by omega
      subst hno
      go_wp2
      exact bodyPost_ret (v := .tuple #[ansv 3 0 0 ⟨#[]⟩, .string p]) (results_blk_tmp (u := 63) (cs := [.int .i64 3, .int .i64 0, .int .i64 0, .string ⟨#[]⟩]) Try.results31 rfl Try.isAgg63 Try.sizeOf63 (((((ho.r.set_other (show w.heap.size + 1 ≠ w.heap.size + 1 + 1 by omega) _).set 0 _).set 1 _).set 2 _).set 3 _)) rfl ⟨rfl, ((((((Quiet.chg hq _).setCell (.inr (by dsimp only; omega)) _).setCell (.inr (by dsimp only; omega)) _).setCell (.inr (by dsimp only; omega)) _).setCell (.inr (by dsimp only; omega)) _).setCell (.inr (by dsimp only; omega)) _), (r.quiet (show Quiet w _ from (((((hq.setCell (.inr (by dsimp only; omega)) _).setCell (.inr (by dsimp only; omega)) _).setCell (.inr (by dsimp only; omega)) _).setCell (.inr (by dsimp only; omega)) _).setCell (.inr (by dsimp only; omega)) _)))⟩

set_option maxRecDepth 100000 in
set_option maxHeartbeats 16000000 in
theorem owed_get (w : World) (g a b v : Nat) (ts : List K3) (p : ByteArray) (r : Gh w g a b v ts p) (J : Nat) (oa : Int) (hct : Cut ts oa J) (ob oc : Int) (os ot : ByteArray) (has : Bool) (hhas : HasAt ts oa J has) (hno : has = true) (i : Nat) (t : K3) (hJi : J = i + 1) (hti : ts[i]? = some t) :
    Calls Try.prog 31 #[ptr g, opv 3 oa ob oc os ot, .string p] w fun e w' => e = .returned (.tuple #[ansv 0 0 0 t.2.1, .string p]) ∧ Chg (gown g a b v) w w' ∧ Gh w' g a b v ts p := by
  have hhasH := hide hhas
  clear hhas
  have hnoH := hide hno
  clear hno
  have hJiH := hide hJi
  clear hJi
  have htiH := hide hti
  clear hti
  unfold ptr opv
  have hl := r.len
  have hJ := hct.le
  generalize hN : ts.length = N at hl hJ
  have hNH := hide hN
  clear hN
  have ow := own3_new w 3 oa ob oc os ot
  have q0 : Quiet w (((w.alloc (.cells #[.int .i64 3, .int .i64 oa, .int .i64 ob, .int .i64 oc, .string os, .string ot] 44)).alloc (.cells #[.int .i64 0, .int .i64 0, .int .i64 0, .string ⟨#[]⟩] 63)).alloc (.cells #[.int .i64 0, .int .i64 0, .int .i64 0, .string ⟨#[]⟩] 63)) := (((Chg.refl _ _).alloc _).alloc _).alloc _
  have owH := hide ow
  have q0H := hide q0
  clear ow q0
  go_enter Try.func31, Try.ntmps31
  go_upto_block 0 with fail
  go_cut [9] (fun i wx => i = .int .i64 J ∧ Quiet w wx ∧ Own3 w wx 3 oa ob oc os ot)
  case first =>
    go_wp2
    go_loopg [9] 13 (fun gg i wr => ∃ j : Nat, j ≤ J ∧ gg = 13 - j ∧ i = .int .i64 j ∧ Quiet w wr ∧ Own3 w wr 3 oa ob oc os ot)
    case atStart => exact ⟨0, Nat.zero_le _, rfl, rfl, unhide q0H, unhide owH⟩
    case round =>
      obtain ⟨j, hj, hg, rfl, hq, ho⟩ := hrel
      have hgH := hide hg
      clear hg
      have r1 := r.quiet hq
      have cg := r1.blk.cell 0
      simp only [List.getElem?_cons_zero] at cg
      rw [unhide hNH] at cg
      have co := ho.o.cell 1
      simp only [List.getElem?_cons_zero, List.getElem?_cons_succ] at co
      by_cases hjN : j < N
      · have hjl : j < ts.length := by rw [unhide hNH]; exact hjN
        have hc := (r1.get j ts[j] (List.getElem?_eq_getElem hjl)).1
        have g1 : decide (j < N) = true := by simpa using hjN
        have g2 : (j : Int) < (N : Int) := by omega
        have g3 : (0 : Int) ≤ (j : Int) := by omega
        by_cases hjJ : j < J
        · have hle : ts[j].1 ≤ oa := hct.lo j hjl hjJ
          generalize ts[j].1 = tk at *
          go_wp2
          go_big_quiet (fail)
          go_wp2
          go_roundg (13 - (j + 1))
          case measure => have := unhide hgH; omega
          case rel => exact ⟨j + 1, by omega, rfl, by go_num, hq.drewN _, ho.drewN _⟩
        · have hgt : oa < ts[j].1 := hct.hi j hjl (by omega)
          generalize ts[j].1 = tk at *
          go_wp2
          go_big_quiet (fail)
          go_wp2
          go_meet
          case rel => exact ⟨by rw [show j = J by omega], hq.drewN _, ho.drewN _⟩
      · have g1 : decide (j < N) = false := by simpa using hjN
        have g2 : ¬ (j : Int) < (N : Int) := by omega
        go_wp2
        go_big_quiet (fail)
        go_wp2
        go_meet
        case rel => exact ⟨by rw [show j = J by omega], hq.drewN _, ho.drewN _⟩
  case rest =>
    obtain ⟨rfl, hq, ho⟩ := hcut
    go_wp2
    go_cut [10] (fun h wx => h = .bool has ∧ Quiet w wx ∧ Own3 w wx 3 oa ob oc os ot)
    case first =>
      have r1 := r.quiet hq
      have cg := r1.blk.cell 0
      simp only [List.getElem?_cons_zero] at cg
      rw [unhide hNH] at cg
      have co := ho.o.cell 1
      simp only [List.getElem?_cons_zero, List.getElem?_cons_succ] at co
      rcases unhide hhasH with ⟨rfl, i, t, rfl, ht, hx⟩ | ⟨rfl, rfl | ⟨i, t, rfl, ht, hx⟩⟩
      · have hc := (r1.get i t ht).1
        rw [hx] at hc
        have e1 : ((i + 1 : Nat) : Int) = (i : Int) + 1 := by omega
        have e2 : (i : Int) + 1 - 1 = (i : Int) := by omega
        have g1 : (0 : Int) < (i : Int) + 1 := by omega
        have g2 : (0 : Int) ≤ (i : Int) := by omega
        have g3 : (i : Int) < (N : Int) := by omega
        clear hx ht
        go_big_quiet (fail)
        go_wp2
        go_meet
        case rel => exact ⟨rfl, hq.drewN _, ho.drewN _⟩
      · go_big_quiet (fail)
        go_wp2
        go_meet
        case rel => exact ⟨rfl, hq.drewN _, ho.drewN _⟩
      · have hc := (r1.get i t ht).1
        have e1 : ((i + 1 : Nat) : Int) = (i : Int) + 1 := by omega
        have e2 : (i : Int) + 1 - 1 = (i : Int) := by omega
        have g1 : (0 : Int) < (i : Int) + 1 := by omega
        have g2 : (0 : Int) ≤ (i : Int) := by omega
        have g3 : (i : Int) < (N : Int) := by omega
        have g4 : (t.1 == oa) = false := by simpa using hx
        generalize t.1 = tk at *
        clear hx ht
        go_big_quiet (fail)
        go_wp2
        go_meet
        case rel => exact ⟨rfl, hq.drewN _, ho.drewN _⟩
    case rest =>
      clear hq ho
      obtain ⟨rfl, hq, ho⟩ := hcut
      have hno := unhide hnoH
      have hJi := unhide hJiH
      have hti := unhide htiH
      have zo0 := ho.o.cell 0
      have zo1 := ho.o.cell 1
      have zo2 := ho.o.cell 2
      have zo4 := ho.o.cell 4
      have zw0 := ho.w.cell 0
      have zw1 := ho.w.cell 1
      have zw2 := ho.w.cell 2
      have zw3 := ho.w.cell 3
      have zr0 := ho.r.cell 0
      have zr1 := ho.r.cell 1
      have zr2 := ho.r.cell 2
      have zr3 := ho.r.cell 3
      simp only [List.getElem?_cons_zero, List.getElem?_cons_succ] at zo0 zo1 zo2 zo4 zw0 zw1 zw2 zw3 zr0 zr1 zr2 zr3
      have fw0 := ho.w.frozen 0
      have fw1 := ho.w.frozen 1
      have fw2 := ho.w.frozen 2
      have fw3 := ho.w.frozen 3
      have fr0 := ho.r.frozen 0
      have fr1 := ho.r.frozen 1
      have fr2 := ho.r.frozen 2
      have fr3 := ho.r.frozen 3
      have nw : w.heap.size + 1 ≠ w.heap.size + 2 := by omega
      have nw' : w.heap.size + 2 ≠ w.heap.size + 1 := by omega
      have r1 := r.quiet hq
      have cg0 := r1.blk.cell 0
      have cg1 := r1.blk.cell 1
      have cg2 := r1.blk.cell 2
      simp only [List.getElem?_cons_zero, List.getElem?_cons_succ] at cg0 cg1 cg2
      rw [unhide hNH] at cg0 cg1 cg2
      have lg := r.blk.lt
      have la : a < w.heap.size := by obtain ⟨_, _, h⟩ := r.ks; exact h.lt
      have lb : b < w.heap.size := by obtain ⟨_, _, h⟩ := r.hs; exact h.lt
      have lv : v < w.heap.size := by obtain ⟨_, _, h⟩ := r.vs; exact h.lt
      have m1 : g ≠ w.heap.size + 1 + 1 := by omega
      have m2 : a ≠ w.heap.size + 1 + 1 := by omega
      have m3 : b ≠ w.heap.size + 1 + 1 := by omega
      have m4 : v ≠ w.heap.size + 1 + 1 := by omega
      have m5 := Ne.symm m1
      have m6 := Ne.symm m2
      have m7 := Ne.symm m3
      have m8 := Ne.symm m4
      subst hJi
      have hti1 := (r1.get i t hti).1
      have hti3 := (r1.get i t hti).2.2
      have e1 : ((i + 1 : Nat) : Int) = (i : Int) + 1 := by omega
      have e2 : (i : Int) + 1 - 1 = (i : Int) := by omega
      have x1 : (0 : Int) < (i : Int) + 1 := by omega
      have x2 : (0 : Int) ≤ (i : Int) := by omega
      have x3 : (i : Int) < (N : Int) := by omega
      have e4 : IntKind.i64.wrap ((i : Int) + 1 - 1) = (i : Int) := by rw [IntKind.wrap_i64]; omega
      have e5 : IntKind.i64.wrap (i : Int) = (i : Int) := by rw [IntKind.wrap_i64]; omega
      clear hti
      subst hno
      go_wp2
      exact bodyPost_ret (v := .tuple #[ansv 0 0 0 t.2.1, .string p]) (results_blk_tmp (u := 63) (cs := [.int .i64 0, .int .i64 0, .int .i64 0, .string t.2.1]) Try.results31 rfl Try.isAgg63 Try.sizeOf63 (((((((((ho.r.set_other (show w.heap.size + 1 ≠ w.heap.size + 1 + 1 by omega) _).set_other (show w.heap.size + 1 ≠ w.heap.size + 1 + 1 by omega) _).set_other (show w.heap.size + 1 ≠ w.heap.size + 1 + 1 by omega) _).set_other (show w.heap.size + 1 ≠ w.heap.size + 1 + 1 by omega) _).set_other (show w.heap.size + 1 ≠ w.heap.size + 1 + 1 by omega) _).set 0 _).set 1 _).set 2 _).set 3 _)) rfl ⟨rfl, ((((((((((Quiet.chg hq _).setCell (.inr (by dsimp only; omega)) _).setCell (.inr (by dsimp only; omega)) _).setCell (.inr (by dsimp only; omega)) _).setCell (.inr (by dsimp only; omega)) _).setCell (.inr (by dsimp only; omega)) _).setCell (.inr (by dsimp only; omega)) _).setCell (.inr (by dsimp only; omega)) _).setCell (.inr (by dsimp only; omega)) _).setCell (.inr (by dsimp only; omega)) _), (r.quiet (show Quiet w _ from (((((((((hq.setCell (.inr (by dsimp only; omega)) _).setCell (.inr (by dsimp only; omega)) _).setCell (.inr (by dsimp only; omega)) _).setCell (.inr (by dsimp only; omega)) _).setCell (.inr (by dsimp only; omega)) _).setCell (.inr (by dsimp only; omega)) _).setCell (.inr (by dsimp only; omega)) _).setCell (.inr (by dsimp only; omega)) _).setCell (.inr (by dsimp only; omega)) _)))⟩

set_option maxRecDepth 100000 in
set_option maxHeartbeats 16000000 in
theorem owed_floor_none (w : World) (g a b v : Nat) (ts : List K3) (p : ByteArray) (r : Gh w g a b v ts p) (J : Nat) (oa : Int) (hct : Cut ts oa J) (ob oc : Int) (os ot : ByteArray) (has : Bool) (hhas : HasAt ts oa J has) (hJ0 : J = 0) :
    Calls Try.prog 31 #[ptr g, opv 5 oa ob oc os ot, .string p] w fun e w' => e = .returned (.tuple #[ansv 3 0 0 ⟨#[]⟩, .string p]) ∧ Chg (gown g a b v) w w' ∧ Gh w' g a b v ts p := by
  have hhasH := hide hhas
  clear hhas
  have hJ0H := hide hJ0
  clear hJ0
  unfold ptr opv
  have hl := r.len
  have hJ := hct.le
  generalize hN : ts.length = N at hl hJ
  have hNH := hide hN
  clear hN
  have ow := own3_new w 5 oa ob oc os ot
  have q0 : Quiet w (((w.alloc (.cells #[.int .i64 5, .int .i64 oa, .int .i64 ob, .int .i64 oc, .string os, .string ot] 44)).alloc (.cells #[.int .i64 0, .int .i64 0, .int .i64 0, .string ⟨#[]⟩] 63)).alloc (.cells #[.int .i64 0, .int .i64 0, .int .i64 0, .string ⟨#[]⟩] 63)) := (((Chg.refl _ _).alloc _).alloc _).alloc _
  have owH := hide ow
  have q0H := hide q0
  clear ow q0
  go_enter Try.func31, Try.ntmps31
  go_upto_block 0 with fail
  go_cut [9] (fun i wx => i = .int .i64 J ∧ Quiet w wx ∧ Own3 w wx 5 oa ob oc os ot)
  case first =>
    go_wp2
    go_loopg [9] 13 (fun gg i wr => ∃ j : Nat, j ≤ J ∧ gg = 13 - j ∧ i = .int .i64 j ∧ Quiet w wr ∧ Own3 w wr 5 oa ob oc os ot)
    case atStart => exact ⟨0, Nat.zero_le _, rfl, rfl, unhide q0H, unhide owH⟩
    case round =>
      obtain ⟨j, hj, hg, rfl, hq, ho⟩ := hrel
      have hgH := hide hg
      clear hg
      have r1 := r.quiet hq
      have cg := r1.blk.cell 0
      simp only [List.getElem?_cons_zero] at cg
      rw [unhide hNH] at cg
      have co := ho.o.cell 1
      simp only [List.getElem?_cons_zero, List.getElem?_cons_succ] at co
      by_cases hjN : j < N
      · have hjl : j < ts.length := by rw [unhide hNH]; exact hjN
        have hc := (r1.get j ts[j] (List.getElem?_eq_getElem hjl)).1
        have g1 : decide (j < N) = true := by simpa using hjN
        have g2 : (j : Int) < (N : Int) := by omega
        have g3 : (0 : Int) ≤ (j : Int) := by omega
        by_cases hjJ : j < J
        · have hle : ts[j].1 ≤ oa := hct.lo j hjl hjJ
          generalize ts[j].1 = tk at *
          go_wp2
          go_big_quiet (fail)
          go_wp2
          go_roundg (13 - (j + 1))
          case measure => have := unhide hgH; omega
          case rel => exact ⟨j + 1, by omega, rfl, by go_num, hq.drewN _, ho.drewN _⟩
        · have hgt : oa < ts[j].1 := hct.hi j hjl (by omega)
          generalize ts[j].1 = tk at *
          go_wp2
          go_big_quiet (fail)
          go_wp2
          go_meet
          case rel => exact ⟨by rw [show j = J by omega], hq.drewN _, ho.drewN _⟩
      · have g1 : decide (j < N) = false := by simpa using hjN
        have g2 : ¬ (j : Int) < (N : Int) := by omega
        go_wp2
        go_big_quiet (fail)
        go_wp2
        go_meet
        case rel => exact ⟨by rw [show j = J by omega], hq.drewN _, ho.drewN _⟩
  case rest =>
    obtain ⟨rfl, hq, ho⟩ := hcut
    go_wp2
    go_cut [10] (fun h wx => h = .bool has ∧ Quiet w wx ∧ Own3 w wx 5 oa ob oc os ot)
    case first =>
      have r1 := r.quiet hq
      have cg := r1.blk.cell 0
      simp only [List.getElem?_cons_zero] at cg
      rw [unhide hNH] at cg
      have co := ho.o.cell 1
      simp only [List.getElem?_cons_zero, List.getElem?_cons_succ] at co
      rcases unhide hhasH with ⟨rfl, i, t, rfl, ht, hx⟩ | ⟨rfl, rfl | ⟨i, t, rfl, ht, hx⟩⟩
      · have hc := (r1.get i t ht).1
        rw [hx] at hc
        have e1 : ((i + 1 : Nat) : Int) = (i : Int) + 1 := by omega
        have e2 : (i : Int) + 1 - 1 = (i : Int) := by omega
        have g1 : (0 : Int) < (i : Int) + 1 := by omega
        have g2 : (0 : Int) ≤ (i : Int) := by omega
        have g3 : (i : Int) < (N : Int) := by omega
        clear hx ht
        go_big_quiet (fail)
        go_wp2
        go_meet
        case rel => exact ⟨rfl, hq.drewN _, ho.drewN _⟩
      · go_big_quiet (fail)
        go_wp2
        go_meet
        case rel => exact ⟨rfl, hq.drewN _, ho.drewN _⟩
      · have hc := (r1.get i t ht).1
        have e1 : ((i + 1 : Nat) : Int) = (i : Int) + 1 := by omega
        have e2 : (i : Int) + 1 - 1 = (i : Int) := by omega
        have g1 : (0 : Int) < (i : Int) + 1 := by omega
        have g2 : (0 : Int) ≤ (i : Int) := by omega
        have g3 : (i : Int) < (N : Int) := by omega
        have g4 : (t.1 == oa) = false := by simpa using hx
        generalize t.1 = tk at *
        clear hx ht
        go_big_quiet (fail)
        go_wp2
        go_meet
        case rel => exact ⟨rfl, hq.drewN _, ho.drewN _⟩
    case rest =>
      clear hq ho
      obtain ⟨rfl, hq, ho⟩ := hcut
      have hJ0 := unhide hJ0H
      have zo0 := ho.o.cell 0
      have zo1 := ho.o.cell 1
      have zo2 := ho.o.cell 2
      have zo4 := ho.o.cell 4
      have zw0 := ho.w.cell 0
      have zw1 := ho.w.cell 1
      have zw2 := ho.w.cell 2
      have zw3 := ho.w.cell 3
      have zr0 := ho.r.cell 0
      have zr1 := ho.r.cell 1
      have zr2 := ho.r.cell 2
      have zr3 := ho.r.cell 3
      simp only [List.getElem?_cons_zero, List.getElem?_cons_succ] at zo0 zo1 zo2 zo4 zw0 zw1 zw2 zw3 zr0 zr1 zr2 zr3
      have fw0 := ho.w.frozen 0
      have fw1 := ho.w.frozen 1
      have fw2 := ho.w.frozen 2
      have fw3 := ho.w.frozen 3
      have fr0 := ho.r.frozen 0
      have fr1 := ho.r.frozen 1
      have fr2 := ho.r.frozen 2
      have fr3 := ho.r.frozen 3
      have nw : w.heap.size + 1 ≠ w.heap.size + 2 := by omega
      have nw' : w.heap.size + 2 ≠ w.heap.size + 1 := by omega
      subst hJ0
      go_wp2
      exact bodyPost_ret (v := .tuple #[ansv 3 0 0 ⟨#[]⟩, .string p]) (results_blk_tmp (u := 63) (cs := [.int .i64 3, .int .i64 0, .int .i64 0, .string ⟨#[]⟩]) Try.results31 rfl Try.isAgg63 Try.sizeOf63 (((((ho.r.set_other (show w.heap.size + 1 ≠ w.heap.size + 1 + 1 by omega) _).set 0 _).set 1 _).set 2 _).set 3 _)) rfl ⟨rfl, ((((((Quiet.chg hq _).setCell (.inr (by dsimp only; omega)) _).setCell (.inr (by dsimp only; omega)) _).setCell (.inr (by dsimp only; omega)) _).setCell (.inr (by dsimp only; omega)) _).setCell (.inr (by dsimp only; omega)) _), (r.quiet (show Quiet w _ from (((((hq.setCell (.inr (by dsimp only; omega)) _).setCell (.inr (by dsimp only; omega)) _).setCell (.inr (by dsimp only; omega)) _).setCell (.inr (by dsimp only; omega)) _).setCell (.inr (by dsimp only; omega)) _)))⟩

set_option maxRecDepth 100000 in
set_option maxHeartbeats 16000000 in
theorem owed_floor (w : World) (g a b v : Nat) (ts : List K3) (p : ByteArray) (r : Gh w g a b v ts p) (J : Nat) (oa : Int) (hct : Cut ts oa J) (ob oc : Int) (os ot : ByteArray) (has : Bool) (hhas : HasAt ts oa J has) (i : Nat) (t : K3) (hJi : J = i + 1) (hti : ts[i]? = some t) :
    Calls Try.prog 31 #[ptr g, opv 5 oa ob oc os ot, .string p] w fun e w' => e = .returned (.tuple #[ansv 0 t.1 0 t.2.1, .string p]) ∧ Chg (gown g a b v) w w' ∧ Gh w' g a b v ts p := by
  have hhasH := hide hhas
  clear hhas
  have hJiH := hide hJi
  clear hJi
  have htiH := hide hti
  clear hti
  unfold ptr opv
  have hl := r.len
  have hJ := hct.le
  generalize hN : ts.length = N at hl hJ
  have hNH := hide hN
  clear hN
  have ow := own3_new w 5 oa ob oc os ot
  have q0 : Quiet w (((w.alloc (.cells #[.int .i64 5, .int .i64 oa, .int .i64 ob, .int .i64 oc, .string os, .string ot] 44)).alloc (.cells #[.int .i64 0, .int .i64 0, .int .i64 0, .string ⟨#[]⟩] 63)).alloc (.cells #[.int .i64 0, .int .i64 0, .int .i64 0, .string ⟨#[]⟩] 63)) := (((Chg.refl _ _).alloc _).alloc _).alloc _
  have owH := hide ow
  have q0H := hide q0
  clear ow q0
  go_enter Try.func31, Try.ntmps31
  go_upto_block 0 with fail
  go_cut [9] (fun i wx => i = .int .i64 J ∧ Quiet w wx ∧ Own3 w wx 5 oa ob oc os ot)
  case first =>
    go_wp2
    go_loopg [9] 13 (fun gg i wr => ∃ j : Nat, j ≤ J ∧ gg = 13 - j ∧ i = .int .i64 j ∧ Quiet w wr ∧ Own3 w wr 5 oa ob oc os ot)
    case atStart => exact ⟨0, Nat.zero_le _, rfl, rfl, unhide q0H, unhide owH⟩
    case round =>
      obtain ⟨j, hj, hg, rfl, hq, ho⟩ := hrel
      have hgH := hide hg
      clear hg
      have r1 := r.quiet hq
      have cg := r1.blk.cell 0
      simp only [List.getElem?_cons_zero] at cg
      rw [unhide hNH] at cg
      have co := ho.o.cell 1
      simp only [List.getElem?_cons_zero, List.getElem?_cons_succ] at co
      by_cases hjN : j < N
      · have hjl : j < ts.length := by rw [unhide hNH]; exact hjN
        have hc := (r1.get j ts[j] (List.getElem?_eq_getElem hjl)).1
        have g1 : decide (j < N) = true := by simpa using hjN
        have g2 : (j : Int) < (N : Int) := by omega
        have g3 : (0 : Int) ≤ (j : Int) := by omega
        by_cases hjJ : j < J
        · have hle : ts[j].1 ≤ oa := hct.lo j hjl hjJ
          generalize ts[j].1 = tk at *
          go_wp2
          go_big_quiet (fail)
          go_wp2
          go_roundg (13 - (j + 1))
          case measure => have := unhide hgH; omega
          case rel => exact ⟨j + 1, by omega, rfl, by go_num, hq.drewN _, ho.drewN _⟩
        · have hgt : oa < ts[j].1 := hct.hi j hjl (by omega)
          generalize ts[j].1 = tk at *
          go_wp2
          go_big_quiet (fail)
          go_wp2
          go_meet
          case rel => exact ⟨by rw [show j = J by omega], hq.drewN _, ho.drewN _⟩
      · have g1 : decide (j < N) = false := by simpa using hjN
        have g2 : ¬ (j : Int) < (N : Int) := by omega
        go_wp2
        go_big_quiet (fail)
        go_wp2
        go_meet
        case rel => exact ⟨by rw [show j = J by omega], hq.drewN _, ho.drewN _⟩
  case rest =>
    obtain ⟨rfl, hq, ho⟩ := hcut
    go_wp2
    go_cut [10] (fun h wx => h = .bool has ∧ Quiet w wx ∧ Own3 w wx 5 oa ob oc os ot)
    case first =>
      have r1 := r.quiet hq
      have cg := r1.blk.cell 0
      simp only [List.getElem?_cons_zero] at cg
      rw [unhide hNH] at cg
      have co := ho.o.cell 1
      simp only [List.getElem?_cons_zero, List.getElem?_cons_succ] at co
      rcases unhide hhasH with ⟨rfl, i, t, rfl, ht, hx⟩ | ⟨rfl, rfl | ⟨i, t, rfl, ht, hx⟩⟩
      · have hc := (r1.get i t ht).1
        rw [hx] at hc
        have e1 : ((i + 1 : Nat) : Int) = (i : Int) + 1 := by omega
        have e2 : (i : Int) + 1 - 1 = (i : Int) := by omega
        have g1 : (0 : Int) < (i : Int) + 1 := by omega
        have g2 : (0 : Int) ≤ (i : Int) := by omega
        have g3 : (i : Int) < (N : Int) := by omega
        clear hx ht
        go_big_quiet (fail)
        go_wp2
        go_meet
        case rel => exact ⟨rfl, hq.drewN _, ho.drewN _⟩
      · go_big_quiet (fail)
        go_wp2
        go_meet
        case rel => exact ⟨rfl, hq.drewN _, ho.drewN _⟩
      · have hc := (r1.get i t ht).1
        have e1 : ((i + 1 : Nat) : Int) = (i : Int) + 1 := by omega
        have e2 : (i : Int) + 1 - 1 = (i : Int) := by omega
        have g1 : (0 : Int) < (i : Int) + 1 := by omega
        have g2 : (0 : Int) ≤ (i : Int) := by omega
        have g3 : (i : Int) < (N : Int) := by omega
        have g4 : (t.1 == oa) = false := by simpa using hx
        generalize t.1 = tk at *
        clear hx ht
        go_big_quiet (fail)
        go_wp2
        go_meet
        case rel => exact ⟨rfl, hq.drewN _, ho.drewN _⟩
    case rest =>
      clear hq ho
      obtain ⟨rfl, hq, ho⟩ := hcut
      have hJi := unhide hJiH
      have hti := unhide htiH
      have zo0 := ho.o.cell 0
      have zo1 := ho.o.cell 1
      have zo2 := ho.o.cell 2
      have zo4 := ho.o.cell 4
      have zw0 := ho.w.cell 0
      have zw1 := ho.w.cell 1
      have zw2 := ho.w.cell 2
      have zw3 := ho.w.cell 3
      have zr0 := ho.r.cell 0
      have zr1 := ho.r.cell 1
      have zr2 := ho.r.cell 2
      have zr3 := ho.r.cell 3
      simp only [List.getElem?_cons_zero, List.getElem?_cons_succ] at zo0 zo1 zo2 zo4 zw0 zw1 zw2 zw3 zr0 zr1 zr2 zr3
      have fw0 := ho.w.frozen 0
      have fw1 := ho.w.frozen 1
      have fw2 := ho.w.frozen 2
      have fw3 := ho.w.frozen 3
      have fr0 := ho.r.frozen 0
      have fr1 := ho.r.frozen 1
      have fr2 := ho.r.frozen 2
      have fr3 := ho.r.frozen 3
      have nw : w.heap.size + 1 ≠ w.heap.size + 2 := by omega
      have nw' : w.heap.size + 2 ≠ w.heap.size + 1 := by omega
      have r1 := r.quiet hq
      have cg0 := r1.blk.cell 0
      have cg1 := r1.blk.cell 1
      have cg2 := r1.blk.cell 2
      simp only [List.getElem?_cons_zero, List.getElem?_cons_succ] at cg0 cg1 cg2
      rw [unhide hNH] at cg0 cg1 cg2
      have lg := r.blk.lt
      have la : a < w.heap.size := by obtain ⟨_, _, h⟩ := r.ks; exact h.lt
      have lb : b < w.heap.size := by obtain ⟨_, _, h⟩ := r.hs; exact h.lt
      have lv : v < w.heap.size := by obtain ⟨_, _, h⟩ := r.vs; exact h.lt
      have m1 : g ≠ w.heap.size + 1 + 1 := by omega
      have m2 : a ≠ w.heap.size + 1 + 1 := by omega
      have m3 : b ≠ w.heap.size + 1 + 1 := by omega
      have m4 : v ≠ w.heap.size + 1 + 1 := by omega
      have m5 := Ne.symm m1
      have m6 := Ne.symm m2
      have m7 := Ne.symm m3
      have m8 := Ne.symm m4
      subst hJi
      have hti1 := (r1.get i t hti).1
      have hti3 := (r1.get i t hti).2.2
      have e1 : ((i + 1 : Nat) : Int) = (i : Int) + 1 := by omega
      have e2 : (i : Int) + 1 - 1 = (i : Int) := by omega
      have x1 : (0 : Int) < (i : Int) + 1 := by omega
      have x2 : (0 : Int) ≤ (i : Int) := by omega
      have x3 : (i : Int) < (N : Int) := by omega
      have e4 : IntKind.i64.wrap ((i : Int) + 1 - 1) = (i : Int) := by rw [IntKind.wrap_i64]; omega
      have e5 : IntKind.i64.wrap (i : Int) = (i : Int) := by rw [IntKind.wrap_i64]; omega
      clear hti
      go_wp2
      go_region_held3 (fun w' => w'.cell? ⟨g, 0, none⟩ = some (.slice (some ⟨a, 0, none⟩) N 12) ∧ w'.cell? ⟨g, 2, none⟩ = some (.slice (some ⟨v, 0, none⟩) N 12) ∧ w'.cell? ⟨a, i, none⟩ = some (.int .i64 t.1) ∧ w'.cell? ⟨v, i, none⟩ = some (.string t.2.1)) (go_keep) (fail)
      rename_i hHeld
      clear hHeld
      go_wp2
      exact bodyPost_ret (v := .tuple #[ansv 0 t.1 0 t.2.1, .string p]) (results_blk_tmp (u := 63) (cs := [.int .i64 0, .int .i64 t.1, .int .i64 0, .string t.2.1]) Try.results31 rfl Try.isAgg63 Try.sizeOf63 (((((((((ho.r.set_other (show w.heap.size + 1 ≠ w.heap.size + 1 + 1 by omega) _).set_other (show w.heap.size + 1 ≠ w.heap.size + 1 + 1 by omega) _).set_other (show w.heap.size + 1 ≠ w.heap.size + 1 + 1 by omega) _).set_other (show w.heap.size + 1 ≠ w.heap.size + 1 + 1 by omega) _).set_other (show w.heap.size + 1 ≠ w.heap.size + 1 + 1 by omega) _).set 0 _).set 1 _).set 2 _).set 3 _).drew) rfl ⟨rfl, ((((((((((Quiet.chg hq _).setCell (.inr (by dsimp only; omega)) _).setCell (.inr (by dsimp only; omega)) _).setCell (.inr (by dsimp only; omega)) _).setCell (.inr (by dsimp only; omega)) _).setCell (.inr (by dsimp only; omega)) _).setCell (.inr (by dsimp only; omega)) _).setCell (.inr (by dsimp only; omega)) _).setCell (.inr (by dsimp only; omega)) _).setCell (.inr (by dsimp only; omega)) _).drew, (r.quiet (show Quiet w _ from (((((((((hq.setCell (.inr (by dsimp only; omega)) _).setCell (.inr (by dsimp only; omega)) _).setCell (.inr (by dsimp only; omega)) _).setCell (.inr (by dsimp only; omega)) _).setCell (.inr (by dsimp only; omega)) _).setCell (.inr (by dsimp only; omega)) _).setCell (.inr (by dsimp only; omega)) _).setCell (.inr (by dsimp only; omega)) _).setCell (.inr (by dsimp only; omega)) _).drew))⟩

set_option maxRecDepth 100000 in
set_option maxHeartbeats 16000000 in
theorem owed_scan (w : World) (g a b v : Nat) (ts : List K3) (p : ByteArray) (r : Gh w g a b v ts p) (J : Nat) (oa : Int) (hct : Cut ts oa J) (ob oc : Int) (os ot : ByteArray) (has : Bool) (hhas : HasAt ts oa J has) (hf : Fit ts) :
    Calls Try.prog 31 #[ptr g, opv 6 oa ob oc os ot, .string p] w fun e w' => e = .returned (.tuple #[ansv 0 (mrng oa ob (kv ts)).length 0 (mpairs (mrng oa ob (kv ts))), .string p]) ∧ Chg (gown g a b v) w w' ∧ Gh w' g a b v ts p := by
  have hhasH := hide hhas
  clear hhas
  have hfH := hide hf
  clear hf
  unfold ptr opv
  have hl := r.len
  have hJ := hct.le
  generalize hN : ts.length = N at hl hJ
  have hNH := hide hN
  clear hN
  have ow := own3_new w 6 oa ob oc os ot
  have q0 : Quiet w (((w.alloc (.cells #[.int .i64 6, .int .i64 oa, .int .i64 ob, .int .i64 oc, .string os, .string ot] 44)).alloc (.cells #[.int .i64 0, .int .i64 0, .int .i64 0, .string ⟨#[]⟩] 63)).alloc (.cells #[.int .i64 0, .int .i64 0, .int .i64 0, .string ⟨#[]⟩] 63)) := (((Chg.refl _ _).alloc _).alloc _).alloc _
  have owH := hide ow
  have q0H := hide q0
  clear ow q0
  go_enter Try.func31, Try.ntmps31
  go_upto_block 0 with fail
  go_cut [9] (fun i wx => i = .int .i64 J ∧ Quiet w wx ∧ Own3 w wx 6 oa ob oc os ot)
  case first =>
    go_wp2
    go_loopg [9] 13 (fun gg i wr => ∃ j : Nat, j ≤ J ∧ gg = 13 - j ∧ i = .int .i64 j ∧ Quiet w wr ∧ Own3 w wr 6 oa ob oc os ot)
    case atStart => exact ⟨0, Nat.zero_le _, rfl, rfl, unhide q0H, unhide owH⟩
    case round =>
      obtain ⟨j, hj, hg, rfl, hq, ho⟩ := hrel
      have hgH := hide hg
      clear hg
      have r1 := r.quiet hq
      have cg := r1.blk.cell 0
      simp only [List.getElem?_cons_zero] at cg
      rw [unhide hNH] at cg
      have co := ho.o.cell 1
      simp only [List.getElem?_cons_zero, List.getElem?_cons_succ] at co
      by_cases hjN : j < N
      · have hjl : j < ts.length := by rw [unhide hNH]; exact hjN
        have hc := (r1.get j ts[j] (List.getElem?_eq_getElem hjl)).1
        have g1 : decide (j < N) = true := by simpa using hjN
        have g2 : (j : Int) < (N : Int) := by omega
        have g3 : (0 : Int) ≤ (j : Int) := by omega
        by_cases hjJ : j < J
        · have hle : ts[j].1 ≤ oa := hct.lo j hjl hjJ
          generalize ts[j].1 = tk at *
          go_wp2
          go_big_quiet (fail)
          go_wp2
          go_roundg (13 - (j + 1))
          case measure => have := unhide hgH; omega
          case rel => exact ⟨j + 1, by omega, rfl, by go_num, hq.drewN _, ho.drewN _⟩
        · have hgt : oa < ts[j].1 := hct.hi j hjl (by omega)
          generalize ts[j].1 = tk at *
          go_wp2
          go_big_quiet (fail)
          go_wp2
          go_meet
          case rel => exact ⟨by rw [show j = J by omega], hq.drewN _, ho.drewN _⟩
      · have g1 : decide (j < N) = false := by simpa using hjN
        have g2 : ¬ (j : Int) < (N : Int) := by omega
        go_wp2
        go_big_quiet (fail)
        go_wp2
        go_meet
        case rel => exact ⟨by rw [show j = J by omega], hq.drewN _, ho.drewN _⟩
  case rest =>
    obtain ⟨rfl, hq, ho⟩ := hcut
    go_wp2
    go_cut [10] (fun h wx => h = .bool has ∧ Quiet w wx ∧ Own3 w wx 6 oa ob oc os ot)
    case first =>
      have r1 := r.quiet hq
      have cg := r1.blk.cell 0
      simp only [List.getElem?_cons_zero] at cg
      rw [unhide hNH] at cg
      have co := ho.o.cell 1
      simp only [List.getElem?_cons_zero, List.getElem?_cons_succ] at co
      rcases unhide hhasH with ⟨rfl, i, t, rfl, ht, hx⟩ | ⟨rfl, rfl | ⟨i, t, rfl, ht, hx⟩⟩
      · have hc := (r1.get i t ht).1
        rw [hx] at hc
        have e1 : ((i + 1 : Nat) : Int) = (i : Int) + 1 := by omega
        have e2 : (i : Int) + 1 - 1 = (i : Int) := by omega
        have g1 : (0 : Int) < (i : Int) + 1 := by omega
        have g2 : (0 : Int) ≤ (i : Int) := by omega
        have g3 : (i : Int) < (N : Int) := by omega
        clear hx ht
        go_big_quiet (fail)
        go_wp2
        go_meet
        case rel => exact ⟨rfl, hq.drewN _, ho.drewN _⟩
      · go_big_quiet (fail)
        go_wp2
        go_meet
        case rel => exact ⟨rfl, hq.drewN _, ho.drewN _⟩
      · have hc := (r1.get i t ht).1
        have e1 : ((i + 1 : Nat) : Int) = (i : Int) + 1 := by omega
        have e2 : (i : Int) + 1 - 1 = (i : Int) := by omega
        have g1 : (0 : Int) < (i : Int) + 1 := by omega
        have g2 : (0 : Int) ≤ (i : Int) := by omega
        have g3 : (i : Int) < (N : Int) := by omega
        have g4 : (t.1 == oa) = false := by simpa using hx
        generalize t.1 = tk at *
        clear hx ht
        go_big_quiet (fail)
        go_wp2
        go_meet
        case rel => exact ⟨rfl, hq.drewN _, ho.drewN _⟩
    case rest =>
      clear hq ho
      obtain ⟨rfl, hq, ho⟩ := hcut
      have hf := unhide hfH
      have yo0 := ho.o.cell 0
      have yo1 := ho.o.cell 1
      have yo2 := ho.o.cell 2
      simp only [List.getElem?_cons_zero, List.getElem?_cons_succ] at yo0 yo1 yo2
      have r1 := r.quiet hq
      have cg0 := r1.blk.cell 0
      have cg1 := r1.blk.cell 1
      have cg2 := r1.blk.cell 2
      simp only [List.getElem?_cons_zero, List.getElem?_cons_succ] at cg0 cg1 cg2
      rw [unhide hNH] at cg0 cg1 cg2
      have lg := r.blk.lt
      have la : a < w.heap.size := by obtain ⟨_, _, h⟩ := r.ks; exact h.lt
      have lb : b < w.heap.size := by obtain ⟨_, _, h⟩ := r.hs; exact h.lt
      have lv : v < w.heap.size := by obtain ⟨_, _, h⟩ := r.vs; exact h.lt
      have m1 : g ≠ w.heap.size + 1 + 1 := by omega
      have m2 : a ≠ w.heap.size + 1 + 1 := by omega
      have m3 : b ≠ w.heap.size + 1 + 1 := by omega
      have m4 : v ≠ w.heap.size + 1 + 1 := by omega
      have m5 := Ne.symm m1
      have m6 := Ne.symm m2
      have m7 := Ne.symm m3
      have m8 := Ne.symm m4
      have hsp := gspan_any wc g a b v ts p oa ob r1 hf
      unfold ptr at hsp
      have hspH := hide hsp
      clear hsp
      go_wp2_with fail
      refine (unhide hspH).mono ?_
      clear hspH
      rintro e w2 ⟨rfl, hq2⟩
      have ho2 : Own3 w w2 6 oa ob oc os ot := ⟨hq2.blk ho.o, hq2.blk ho.r, hq2.blk ho.w⟩
      have hqq : Quiet w w2 := Quiet.trans hq hq2
      clear ho hq hq2 yo0 yo1 yo2 cg0 cg1 cg2 r1
      have ho := ho2
      have hq := hqq
      clear ho2 hqq
      have zo0 := ho.o.cell 0
      have zo1 := ho.o.cell 1
      have zo2 := ho.o.cell 2
      have zo4 := ho.o.cell 4
      have zw0 := ho.w.cell 0
      have zw1 := ho.w.cell 1
      have zw2 := ho.w.cell 2
      have zw3 := ho.w.cell 3
      have zr0 := ho.r.cell 0
      have zr1 := ho.r.cell 1
      have zr2 := ho.r.cell 2
      have zr3 := ho.r.cell 3
      simp only [List.getElem?_cons_zero, List.getElem?_cons_succ] at zo0 zo1 zo2 zo4 zw0 zw1 zw2 zw3 zr0 zr1 zr2 zr3
      have fw0 := ho.w.frozen 0
      have fw1 := ho.w.frozen 1
      have fw2 := ho.w.frozen 2
      have fw3 := ho.w.frozen 3
      have fr0 := ho.r.frozen 0
      have fr1 := ho.r.frozen 1
      have fr2 := ho.r.frozen 2
      have fr3 := ho.r.frozen 3
      have nw : w.heap.size + 1 ≠ w.heap.size + 2 := by omega
      have nw' : w.heap.size + 2 ≠ w.heap.size + 1 := by omega
      go_wp2
      exact bodyPost_ret (v := .tuple #[ansv 0 (mrng oa ob (kv ts)).length 0 (mpairs (mrng oa ob (kv ts))), .string p]) (results_blk_tmp (u := 63) (cs := [.int .i64 0, .int .i64 (mrng oa ob (kv ts)).length, .int .i64 0, .string (mpairs (mrng oa ob (kv ts)))]) Try.results31 rfl Try.isAgg63 Try.sizeOf63 ((((((ho.r.set_other (show w.heap.size + 1 ≠ w.heap.size + 1 + 1 by omega) _).set_other (show w.heap.size + 1 ≠ w.heap.size + 1 + 1 by omega) _).set 0 _).set 1 _).set 2 _).set 3 _)) rfl ⟨rfl, (((((((Quiet.chg hq _).setCell (.inr (by dsimp only; omega)) _).setCell (.inr (by dsimp only; omega)) _).setCell (.inr (by dsimp only; omega)) _).setCell (.inr (by dsimp only; omega)) _).setCell (.inr (by dsimp only; omega)) _).setCell (.inr (by dsimp only; omega)) _), (r.quiet (show Quiet w _ from ((((((hq.setCell (.inr (by dsimp only; omega)) _).setCell (.inr (by dsimp only; omega)) _).setCell (.inr (by dsimp only; omega)) _).setCell (.inr (by dsimp only; omega)) _).setCell (.inr (by dsimp only; omega)) _).setCell (.inr (by dsimp only; omega)) _)))⟩

set_option maxRecDepth 100000 in
set_option maxHeartbeats 16000000 in
theorem owed_show (w : World) (g a b v : Nat) (ts : List K3) (p : ByteArray) (r : Gh w g a b v ts p) (J : Nat) (oa : Int) (hct : Cut ts oa J) (ob oc : Int) (os ot : ByteArray) (has : Bool) (hhas : HasAt ts oa J has) (hf : Fit ts) :
    Calls Try.prog 31 #[ptr g, opv 7 oa ob oc os ot, .string p] w fun e w' => e = .returned (.tuple #[ansv 0 0 0 (mpairs (mrng (-9223372036854775808) 9223372036854775807 (kv ts))), .string p]) ∧ Chg (gown g a b v) w w' ∧ Gh w' g a b v ts p := by
  have hhasH := hide hhas
  clear hhas
  have hfH := hide hf
  clear hf
  unfold ptr opv
  have hl := r.len
  have hJ := hct.le
  generalize hN : ts.length = N at hl hJ
  have hNH := hide hN
  clear hN
  have ow := own3_new w 7 oa ob oc os ot
  have q0 : Quiet w (((w.alloc (.cells #[.int .i64 7, .int .i64 oa, .int .i64 ob, .int .i64 oc, .string os, .string ot] 44)).alloc (.cells #[.int .i64 0, .int .i64 0, .int .i64 0, .string ⟨#[]⟩] 63)).alloc (.cells #[.int .i64 0, .int .i64 0, .int .i64 0, .string ⟨#[]⟩] 63)) := (((Chg.refl _ _).alloc _).alloc _).alloc _
  have owH := hide ow
  have q0H := hide q0
  clear ow q0
  go_enter Try.func31, Try.ntmps31
  go_upto_block 0 with fail
  go_cut [9] (fun i wx => i = .int .i64 J ∧ Quiet w wx ∧ Own3 w wx 7 oa ob oc os ot)
  case first =>
    go_wp2
    go_loopg [9] 13 (fun gg i wr => ∃ j : Nat, j ≤ J ∧ gg = 13 - j ∧ i = .int .i64 j ∧ Quiet w wr ∧ Own3 w wr 7 oa ob oc os ot)
    case atStart => exact ⟨0, Nat.zero_le _, rfl, rfl, unhide q0H, unhide owH⟩
    case round =>
      obtain ⟨j, hj, hg, rfl, hq, ho⟩ := hrel
      have hgH := hide hg
      clear hg
      have r1 := r.quiet hq
      have cg := r1.blk.cell 0
      simp only [List.getElem?_cons_zero] at cg
      rw [unhide hNH] at cg
      have co := ho.o.cell 1
      simp only [List.getElem?_cons_zero, List.getElem?_cons_succ] at co
      by_cases hjN : j < N
      · have hjl : j < ts.length := by rw [unhide hNH]; exact hjN
        have hc := (r1.get j ts[j] (List.getElem?_eq_getElem hjl)).1
        have g1 : decide (j < N) = true := by simpa using hjN
        have g2 : (j : Int) < (N : Int) := by omega
        have g3 : (0 : Int) ≤ (j : Int) := by omega
        by_cases hjJ : j < J
        · have hle : ts[j].1 ≤ oa := hct.lo j hjl hjJ
          generalize ts[j].1 = tk at *
          go_wp2
          go_big_quiet (fail)
          go_wp2
          go_roundg (13 - (j + 1))
          case measure => have := unhide hgH; omega
          case rel => exact ⟨j + 1, by omega, rfl, by go_num, hq.drewN _, ho.drewN _⟩
        · have hgt : oa < ts[j].1 := hct.hi j hjl (by omega)
          generalize ts[j].1 = tk at *
          go_wp2
          go_big_quiet (fail)
          go_wp2
          go_meet
          case rel => exact ⟨by rw [show j = J by omega], hq.drewN _, ho.drewN _⟩
      · have g1 : decide (j < N) = false := by simpa using hjN
        have g2 : ¬ (j : Int) < (N : Int) := by omega
        go_wp2
        go_big_quiet (fail)
        go_wp2
        go_meet
        case rel => exact ⟨by rw [show j = J by omega], hq.drewN _, ho.drewN _⟩
  case rest =>
    obtain ⟨rfl, hq, ho⟩ := hcut
    go_wp2
    go_cut [10] (fun h wx => h = .bool has ∧ Quiet w wx ∧ Own3 w wx 7 oa ob oc os ot)
    case first =>
      have r1 := r.quiet hq
      have cg := r1.blk.cell 0
      simp only [List.getElem?_cons_zero] at cg
      rw [unhide hNH] at cg
      have co := ho.o.cell 1
      simp only [List.getElem?_cons_zero, List.getElem?_cons_succ] at co
      rcases unhide hhasH with ⟨rfl, i, t, rfl, ht, hx⟩ | ⟨rfl, rfl | ⟨i, t, rfl, ht, hx⟩⟩
      · have hc := (r1.get i t ht).1
        rw [hx] at hc
        have e1 : ((i + 1 : Nat) : Int) = (i : Int) + 1 := by omega
        have e2 : (i : Int) + 1 - 1 = (i : Int) := by omega
        have g1 : (0 : Int) < (i : Int) + 1 := by omega
        have g2 : (0 : Int) ≤ (i : Int) := by omega
        have g3 : (i : Int) < (N : Int) := by omega
        clear hx ht
        go_big_quiet (fail)
        go_wp2
        go_meet
        case rel => exact ⟨rfl, hq.drewN _, ho.drewN _⟩
      · go_big_quiet (fail)
        go_wp2
        go_meet
        case rel => exact ⟨rfl, hq.drewN _, ho.drewN _⟩
      · have hc := (r1.get i t ht).1
        have e1 : ((i + 1 : Nat) : Int) = (i : Int) + 1 := by omega
        have e2 : (i : Int) + 1 - 1 = (i : Int) := by omega
        have g1 : (0 : Int) < (i : Int) + 1 := by omega
        have g2 : (0 : Int) ≤ (i : Int) := by omega
        have g3 : (i : Int) < (N : Int) := by omega
        have g4 : (t.1 == oa) = false := by simpa using hx
        generalize t.1 = tk at *
        clear hx ht
        go_big_quiet (fail)
        go_wp2
        go_meet
        case rel => exact ⟨rfl, hq.drewN _, ho.drewN _⟩
    case rest =>
      clear hq ho
      obtain ⟨rfl, hq, ho⟩ := hcut
      have hf := unhide hfH
      have yo0 := ho.o.cell 0
      have yo1 := ho.o.cell 1
      have yo2 := ho.o.cell 2
      simp only [List.getElem?_cons_zero, List.getElem?_cons_succ] at yo0 yo1 yo2
      have r1 := r.quiet hq
      have cg0 := r1.blk.cell 0
      have cg1 := r1.blk.cell 1
      have cg2 := r1.blk.cell 2
      simp only [List.getElem?_cons_zero, List.getElem?_cons_succ] at cg0 cg1 cg2
      rw [unhide hNH] at cg0 cg1 cg2
      have lg := r.blk.lt
      have la : a < w.heap.size := by obtain ⟨_, _, h⟩ := r.ks; exact h.lt
      have lb : b < w.heap.size := by obtain ⟨_, _, h⟩ := r.hs; exact h.lt
      have lv : v < w.heap.size := by obtain ⟨_, _, h⟩ := r.vs; exact h.lt
      have m1 : g ≠ w.heap.size + 1 + 1 := by omega
      have m2 : a ≠ w.heap.size + 1 + 1 := by omega
      have m3 : b ≠ w.heap.size + 1 + 1 := by omega
      have m4 : v ≠ w.heap.size + 1 + 1 := by omega
      have m5 := Ne.symm m1
      have m6 := Ne.symm m2
      have m7 := Ne.symm m3
      have m8 := Ne.symm m4
      have hsp := gspan_any wc g a b v ts p (-9223372036854775808) 9223372036854775807 r1 hf
      unfold ptr at hsp
      have hspH := hide hsp
      clear hsp
      go_wp2_with fail
      refine (unhide hspH).mono ?_
      clear hspH
      rintro e w2 ⟨rfl, hq2⟩
      have ho2 : Own3 w w2 7 oa ob oc os ot := ⟨hq2.blk ho.o, hq2.blk ho.r, hq2.blk ho.w⟩
      have hqq : Quiet w w2 := Quiet.trans hq hq2
      clear ho hq hq2 yo0 yo1 yo2 cg0 cg1 cg2 r1
      have ho := ho2
      have hq := hqq
      clear ho2 hqq
      have zo0 := ho.o.cell 0
      have zo1 := ho.o.cell 1
      have zo2 := ho.o.cell 2
      have zo4 := ho.o.cell 4
      have zw0 := ho.w.cell 0
      have zw1 := ho.w.cell 1
      have zw2 := ho.w.cell 2
      have zw3 := ho.w.cell 3
      have zr0 := ho.r.cell 0
      have zr1 := ho.r.cell 1
      have zr2 := ho.r.cell 2
      have zr3 := ho.r.cell 3
      simp only [List.getElem?_cons_zero, List.getElem?_cons_succ] at zo0 zo1 zo2 zo4 zw0 zw1 zw2 zw3 zr0 zr1 zr2 zr3
      have fw0 := ho.w.frozen 0
      have fw1 := ho.w.frozen 1
      have fw2 := ho.w.frozen 2
      have fw3 := ho.w.frozen 3
      have fr0 := ho.r.frozen 0
      have fr1 := ho.r.frozen 1
      have fr2 := ho.r.frozen 2
      have fr3 := ho.r.frozen 3
      have nw : w.heap.size + 1 ≠ w.heap.size + 2 := by omega
      have nw' : w.heap.size + 2 ≠ w.heap.size + 1 := by omega
      go_wp2
      exact bodyPost_ret (v := .tuple #[ansv 0 0 0 (mpairs (mrng (-9223372036854775808) 9223372036854775807 (kv ts))), .string p]) (results_blk_tmp (u := 63) (cs := [.int .i64 0, .int .i64 0, .int .i64 0, .string (mpairs (mrng (-9223372036854775808) 9223372036854775807 (kv ts)))]) Try.results31 rfl Try.isAgg63 Try.sizeOf63 (((((ho.r.set_other (show w.heap.size + 1 ≠ w.heap.size + 1 + 1 by omega) _).set 0 _).set 1 _).set 2 _).set 3 _)) rfl ⟨rfl, ((((((Quiet.chg hq _).setCell (.inr (by dsimp only; omega)) _).setCell (.inr (by dsimp only; omega)) _).setCell (.inr (by dsimp only; omega)) _).setCell (.inr (by dsimp only; omega)) _).setCell (.inr (by dsimp only; omega)) _), (r.quiet (show Quiet w _ from (((((hq.setCell (.inr (by dsimp only; omega)) _).setCell (.inr (by dsimp only; omega)) _).setCell (.inr (by dsimp only; omega)) _).setCell (.inr (by dsimp only; omega)) _).setCell (.inr (by dsimp only; omega)) _)))⟩

set_option maxRecDepth 100000 in
set_option maxHeartbeats 16000000 in
theorem owed_level_bad (w : World) (g a b v : Nat) (ts : List K3) (p : ByteArray) (r : Gh w g a b v ts p) (J : Nat) (oa : Int) (hct : Cut ts oa J) (ob oc : Int) (os ot : ByteArray) (has : Bool) (hhas : HasAt ts oa J has) (hbad : oa < 0 ∨ 8 ≤ oa) :
    Calls Try.prog 31 #[ptr g, opv 9 oa ob oc os ot, .string p] w fun e w' => e = .returned (.tuple #[ansv 4 0 0 ⟨#[]⟩, .string p]) ∧ Chg (gown g a b v) w w' ∧ Gh w' g a b v ts p := by
  have hhasH := hide hhas
  clear hhas
  have hbadH := hide hbad
  clear hbad
  unfold ptr opv
  have hl := r.len
  have hJ := hct.le
  generalize hN : ts.length = N at hl hJ
  have hNH := hide hN
  clear hN
  have ow := own3_new w 9 oa ob oc os ot
  have q0 : Quiet w (((w.alloc (.cells #[.int .i64 9, .int .i64 oa, .int .i64 ob, .int .i64 oc, .string os, .string ot] 44)).alloc (.cells #[.int .i64 0, .int .i64 0, .int .i64 0, .string ⟨#[]⟩] 63)).alloc (.cells #[.int .i64 0, .int .i64 0, .int .i64 0, .string ⟨#[]⟩] 63)) := (((Chg.refl _ _).alloc _).alloc _).alloc _
  have owH := hide ow
  have q0H := hide q0
  clear ow q0
  go_enter Try.func31, Try.ntmps31
  go_upto_block 0 with fail
  go_cut [9] (fun i wx => i = .int .i64 J ∧ Quiet w wx ∧ Own3 w wx 9 oa ob oc os ot)
  case first =>
    go_wp2
    go_loopg [9] 13 (fun gg i wr => ∃ j : Nat, j ≤ J ∧ gg = 13 - j ∧ i = .int .i64 j ∧ Quiet w wr ∧ Own3 w wr 9 oa ob oc os ot)
    case atStart => exact ⟨0, Nat.zero_le _, rfl, rfl, unhide q0H, unhide owH⟩
    case round =>
      obtain ⟨j, hj, hg, rfl, hq, ho⟩ := hrel
      have hgH := hide hg
      clear hg
      have r1 := r.quiet hq
      have cg := r1.blk.cell 0
      simp only [List.getElem?_cons_zero] at cg
      rw [unhide hNH] at cg
      have co := ho.o.cell 1
      simp only [List.getElem?_cons_zero, List.getElem?_cons_succ] at co
      by_cases hjN : j < N
      · have hjl : j < ts.length := by rw [unhide hNH]; exact hjN
        have hc := (r1.get j ts[j] (List.getElem?_eq_getElem hjl)).1
        have g1 : decide (j < N) = true := by simpa using hjN
        have g2 : (j : Int) < (N : Int) := by omega
        have g3 : (0 : Int) ≤ (j : Int) := by omega
        by_cases hjJ : j < J
        · have hle : ts[j].1 ≤ oa := hct.lo j hjl hjJ
          generalize ts[j].1 = tk at *
          go_wp2
          go_big_quiet (fail)
          go_wp2
          go_roundg (13 - (j + 1))
          case measure => have := unhide hgH; omega
          case rel => exact ⟨j + 1, by omega, rfl, by go_num, hq.drewN _, ho.drewN _⟩
        · have hgt : oa < ts[j].1 := hct.hi j hjl (by omega)
          generalize ts[j].1 = tk at *
          go_wp2
          go_big_quiet (fail)
          go_wp2
          go_meet
          case rel => exact ⟨by rw [show j = J by omega], hq.drewN _, ho.drewN _⟩
      · have g1 : decide (j < N) = false := by simpa using hjN
        have g2 : ¬ (j : Int) < (N : Int) := by omega
        go_wp2
        go_big_quiet (fail)
        go_wp2
        go_meet
        case rel => exact ⟨by rw [show j = J by omega], hq.drewN _, ho.drewN _⟩
  case rest =>
    obtain ⟨rfl, hq, ho⟩ := hcut
    go_wp2
    go_cut [10] (fun h wx => h = .bool has ∧ Quiet w wx ∧ Own3 w wx 9 oa ob oc os ot)
    case first =>
      have r1 := r.quiet hq
      have cg := r1.blk.cell 0
      simp only [List.getElem?_cons_zero] at cg
      rw [unhide hNH] at cg
      have co := ho.o.cell 1
      simp only [List.getElem?_cons_zero, List.getElem?_cons_succ] at co
      rcases unhide hhasH with ⟨rfl, i, t, rfl, ht, hx⟩ | ⟨rfl, rfl | ⟨i, t, rfl, ht, hx⟩⟩
      · have hc := (r1.get i t ht).1
        rw [hx] at hc
        have e1 : ((i + 1 : Nat) : Int) = (i : Int) + 1 := by omega
        have e2 : (i : Int) + 1 - 1 = (i : Int) := by omega
        have g1 : (0 : Int) < (i : Int) + 1 := by omega
        have g2 : (0 : Int) ≤ (i : Int) := by omega
        have g3 : (i : Int) < (N : Int) := by omega
        clear hx ht
        go_big_quiet (fail)
        go_wp2
        go_meet
        case rel => exact ⟨rfl, hq.drewN _, ho.drewN _⟩
      · go_big_quiet (fail)
        go_wp2
        go_meet
        case rel => exact ⟨rfl, hq.drewN _, ho.drewN _⟩
      · have hc := (r1.get i t ht).1
        have e1 : ((i + 1 : Nat) : Int) = (i : Int) + 1 := by omega
        have e2 : (i : Int) + 1 - 1 = (i : Int) := by omega
        have g1 : (0 : Int) < (i : Int) + 1 := by omega
        have g2 : (0 : Int) ≤ (i : Int) := by omega
        have g3 : (i : Int) < (N : Int) := by omega
        have g4 : (t.1 == oa) = false := by simpa using hx
        generalize t.1 = tk at *
        clear hx ht
        go_big_quiet (fail)
        go_wp2
        go_meet
        case rel => exact ⟨rfl, hq.drewN _, ho.drewN _⟩
    case rest =>
      clear hq ho
      obtain ⟨rfl, hq, ho⟩ := hcut
      have hbad := unhide hbadH
      have zo0 := ho.o.cell 0
      have zo1 := ho.o.cell 1
      have zo2 := ho.o.cell 2
      have zo4 := ho.o.cell 4
      have zw0 := ho.w.cell 0
      have zw1 := ho.w.cell 1
      have zw2 := ho.w.cell 2
      have zw3 := ho.w.cell 3
      have zr0 := ho.r.cell 0
      have zr1 := ho.r.cell 1
      have zr2 := ho.r.cell 2
      have zr3 := ho.r.cell 3
      simp only [List.getElem?_cons_zero, List.getElem?_cons_succ] at zo0 zo1 zo2 zo4 zw0 zw1 zw2 zw3 zr0 zr1 zr2 zr3
      have fw0 := ho.w.frozen 0
      have fw1 := ho.w.frozen 1
      have fw2 := ho.w.frozen 2
      have fw3 := ho.w.frozen 3
      have fr0 := ho.r.frozen 0
      have fr1 := ho.r.frozen 1
      have fr2 := ho.r.frozen 2
      have fr3 := ho.r.frozen 3
      have nw : w.heap.size + 1 ≠ w.heap.size + 2 := by omega
      have nw' : w.heap.size + 2 ≠ w.heap.size + 1 := by omega
      have hb2 : oa < 0 ∨ (0 ≤ oa ∧ 8 ≤ oa) := by omega
      clear hbad
      rcases hb2 with hb2 | ⟨hb2, hb3⟩
      all_goals
        go_wp2
        exact bodyPost_ret (v := .tuple #[ansv 4 0 0 ⟨#[]⟩, .string p]) (results_blk_tmp (u := 63) (cs := [.int .i64 4, .int .i64 0, .int .i64 0, .string ⟨#[]⟩]) Try.results31 rfl Try.isAgg63 Try.sizeOf63 (((((ho.r.set_other (show w.heap.size + 1 ≠ w.heap.size + 1 + 1 by omega) _).set 0 _).set 1 _).set 2 _).set 3 _)) rfl ⟨rfl, ((((((Quiet.chg hq _).setCell (.inr (by dsimp only; omega)) _).setCell (.inr (by dsimp only; omega)) _).setCell (.inr (by dsimp only; omega)) _).setCell (.inr (by dsimp only; omega)) _).setCell (.inr (by dsimp only; omega)) _), (r.quiet (show Quiet w _ from (((((hq.setCell (.inr (by dsimp only; omega)) _).setCell (.inr (by dsimp only; omega)) _).setCell (.inr (by dsimp only; omega)) _).setCell (.inr (by dsimp only; omega)) _).setCell (.inr (by dsimp only; omega)) _)))⟩

set_option maxRecDepth 100000 in
set_option maxHeartbeats 16000000 in
theorem owed_level (w : World) (g a b v : Nat) (ts : List K3) (p : ByteArray) (r : Gh w g a b v ts p) (J : Nat) (oa : Int) (hct : Cut ts oa J) (ob oc : Int) (os ot : ByteArray) (has : Bool) (hhas : HasAt ts oa J has) (hf : Fit ts) (l : Nat) (hla : oa = l) (hl8 : l < 8) :
    Calls Try.prog 31 #[ptr g, opv 9 oa ob oc os ot, .string p] w fun e w' => e = .returned (.tuple #[ansv 0 0 0 (levelT l ts), .string p]) ∧ Chg (gown g a b v) w w' ∧ Gh w' g a b v ts p := by
  have hhasH := hide hhas
  clear hhas
  have hfH := hide hf
  clear hf
  have hlaH := hide hla
  clear hla
  have hl8H := hide hl8
  clear hl8
  unfold ptr opv
  have hl := r.len
  have hJ := hct.le
  generalize hN : ts.length = N at hl hJ
  have hNH := hide hN
  clear hN
  have ow := own3_new w 9 oa ob oc os ot
  have q0 : Quiet w (((w.alloc (.cells #[.int .i64 9, .int .i64 oa, .int .i64 ob, .int .i64 oc, .string os, .string ot] 44)).alloc (.cells #[.int .i64 0, .int .i64 0, .int .i64 0, .string ⟨#[]⟩] 63)).alloc (.cells #[.int .i64 0, .int .i64 0, .int .i64 0, .string ⟨#[]⟩] 63)) := (((Chg.refl _ _).alloc _).alloc _).alloc _
  have owH := hide ow
  have q0H := hide q0
  clear ow q0
  go_enter Try.func31, Try.ntmps31
  go_upto_block 0 with fail
  go_cut [9] (fun i wx => i = .int .i64 J ∧ Quiet w wx ∧ Own3 w wx 9 oa ob oc os ot)
  case first =>
    go_wp2
    go_loopg [9] 13 (fun gg i wr => ∃ j : Nat, j ≤ J ∧ gg = 13 - j ∧ i = .int .i64 j ∧ Quiet w wr ∧ Own3 w wr 9 oa ob oc os ot)
    case atStart => exact ⟨0, Nat.zero_le _, rfl, rfl, unhide q0H, unhide owH⟩
    case round =>
      obtain ⟨j, hj, hg, rfl, hq, ho⟩ := hrel
      have hgH := hide hg
      clear hg
      have r1 := r.quiet hq
      have cg := r1.blk.cell 0
      simp only [List.getElem?_cons_zero] at cg
      rw [unhide hNH] at cg
      have co := ho.o.cell 1
      simp only [List.getElem?_cons_zero, List.getElem?_cons_succ] at co
      by_cases hjN : j < N
      · have hjl : j < ts.length := by rw [unhide hNH]; exact hjN
        have hc := (r1.get j ts[j] (List.getElem?_eq_getElem hjl)).1
        have g1 : decide (j < N) = true := by simpa using hjN
        have g2 : (j : Int) < (N : Int) := by omega
        have g3 : (0 : Int) ≤ (j : Int) := by omega
        by_cases hjJ : j < J
        · have hle : ts[j].1 ≤ oa := hct.lo j hjl hjJ
          generalize ts[j].1 = tk at *
          go_wp2
          go_big_quiet (fail)
          go_wp2
          go_roundg (13 - (j + 1))
          case measure => have := unhide hgH; omega
          case rel => exact ⟨j + 1, by omega, rfl, by go_num, hq.drewN _, ho.drewN _⟩
        · have hgt : oa < ts[j].1 := hct.hi j hjl (by omega)
          generalize ts[j].1 = tk at *
          go_wp2
          go_big_quiet (fail)
          go_wp2
          go_meet
          case rel => exact ⟨by rw [show j = J by omega], hq.drewN _, ho.drewN _⟩
      · have g1 : decide (j < N) = false := by simpa using hjN
        have g2 : ¬ (j : Int) < (N : Int) := by omega
        go_wp2
        go_big_quiet (fail)
        go_wp2
        go_meet
        case rel => exact ⟨by rw [show j = J by omega], hq.drewN _, ho.drewN _⟩
  case rest =>
    obtain ⟨rfl, hq, ho⟩ := hcut
    go_wp2
    go_cut [10] (fun h wx => h = .bool has ∧ Quiet w wx ∧ Own3 w wx 9 oa ob oc os ot)
    case first =>
      have r1 := r.quiet hq
      have cg := r1.blk.cell 0
      simp only [List.getElem?_cons_zero] at cg
      rw [unhide hNH] at cg
      have co := ho.o.cell 1
      simp only [List.getElem?_cons_zero, List.getElem?_cons_succ] at co
      rcases unhide hhasH with ⟨rfl, i, t, rfl, ht, hx⟩ | ⟨rfl, rfl | ⟨i, t, rfl, ht, hx⟩⟩
      · have hc := (r1.get i t ht).1
        rw [hx] at hc
        have e1 : ((i + 1 : Nat) : Int) = (i : Int) + 1 := by omega
        have e2 : (i : Int) + 1 - 1 = (i : Int) := by omega
        have g1 : (0 : Int) < (i : Int) + 1 := by omega
        have g2 : (0 : Int) ≤ (i : Int) := by omega
        have g3 : (i : Int) < (N : Int) := by omega
        clear hx ht
        go_big_quiet (fail)
        go_wp2
        go_meet
        case rel => exact ⟨rfl, hq.drewN _, ho.drewN _⟩
      · go_big_quiet (fail)
        go_wp2
        go_meet
        case rel => exact ⟨rfl, hq.drewN _, ho.drewN _⟩
      · have hc := (r1.get i t ht).1
        have e1 : ((i + 1 : Nat) : Int) = (i : Int) + 1 := by omega
        have e2 : (i : Int) + 1 - 1 = (i : Int) := by omega
        have g1 : (0 : Int) < (i : Int) + 1 := by omega
        have g2 : (0 : Int) ≤ (i : Int) := by omega
        have g3 : (i : Int) < (N : Int) := by omega
        have g4 : (t.1 == oa) = false := by simpa using hx
        generalize t.1 = tk at *
        clear hx ht
        go_big_quiet (fail)
        go_wp2
        go_meet
        case rel => exact ⟨rfl, hq.drewN _, ho.drewN _⟩
    case rest =>
      clear hq ho
      obtain ⟨rfl, hq, ho⟩ := hcut
      have hf := unhide hfH
      have hla := unhide hlaH
      have hl8 := unhide hl8H
      subst hla
      have q4 : Quiet w (wc.setCell ⟨w.heap.size + 1 + 1, 0, none⟩ (.int .i64 4)) := hq.setCell (.inr (by dsimp only; omega)) _
      have hlv := glevel_any (wc.setCell ⟨w.heap.size + 1 + 1, 0, none⟩ (.int .i64 4)) g a b v ts p (r.quiet q4) hf l hl8
      unfold ptr at hlv
      have hlvH := hide hlv
      have q4H := hide q4
      have ho4 : Blk (wc.setCell ⟨w.heap.size + 1 + 1, 0, none⟩ (.int .i64 4)) (w.heap.size + 1) 63 _ := ho.r.set_other (show w.heap.size + 1 ≠ w.heap.size + 1 + 1 by omega) _
      have ho5 : Blk (wc.setCell ⟨w.heap.size + 1 + 1, 0, none⟩ (.int .i64 4)) (w.heap.size + 2) 63 _ := ho.w.set 0 _
      have ho4H := hide ho4
      have ho5H := hide ho5
      clear hlv q4 ho4 ho5
      have x0 : (0 : Int) ≤ (l : Int) := by omega
      have x1 : (l : Int) < 8 := by omega
      have zo0 := ho.o.cell 0
      have zo1 := ho.o.cell 1
      have zo2 := ho.o.cell 2
      have zo4 := ho.o.cell 4
      have zw0 := ho.w.cell 0
      have zw1 := ho.w.cell 1
      have zw2 := ho.w.cell 2
      have zw3 := ho.w.cell 3
      have zr0 := ho.r.cell 0
      have zr1 := ho.r.cell 1
      have zr2 := ho.r.cell 2
      have zr3 := ho.r.cell 3
      simp only [List.getElem?_cons_zero, List.getElem?_cons_succ] at zo0 zo1 zo2 zo4 zw0 zw1 zw2 zw3 zr0 zr1 zr2 zr3
      have fw0 := ho.w.frozen 0
      have fw1 := ho.w.frozen 1
      have fw2 := ho.w.frozen 2
      have fw3 := ho.w.frozen 3
      have fr0 := ho.r.frozen 0
      have fr1 := ho.r.frozen 1
      have fr2 := ho.r.frozen 2
      have fr3 := ho.r.frozen 3
      have nw : w.heap.size + 1 ≠ w.heap.size + 2 := by omega
      have nw' : w.heap.size + 2 ≠ w.heap.size + 1 := by omega
      go_wp2_with fail
      refine (unhide hlvH).mono ?_
      clear hlvH
      rintro e w2 ⟨rfl, hq2⟩
      have hr2 := hq2.blk (unhide ho4H)
      have hw2 := hq2.blk (unhide ho5H)
      have hqq : Quiet w w2 := Quiet.trans (unhide q4H) hq2
      clear hq2 zw0 zw1 zw2 zw3 zr0 zr1 zr2 zr3 fw0 fw1 fw2 fw3 fr0 fr1 fr2 fr3 ho hq zo0 zo1 zo2 zo4
      have hq := hqq
      have zw0 := hw2.cell 0
      have zw1 := hw2.cell 1
      have zw2 := hw2.cell 2
      have zw3 := hw2.cell 3
      have zr0 := hr2.cell 0
      have zr1 := hr2.cell 1
      have zr2 := hr2.cell 2
      have zr3 := hr2.cell 3
      simp only [List.set_cons_zero, List.getElem?_cons_zero, List.getElem?_cons_succ] at zw0 zw1 zw2 zw3 zr0 zr1 zr2 zr3
      have fw0 := hw2.frozen 0
      have fw1 := hw2.frozen 1
      have fw2 := hw2.frozen 2
      have fw3 := hw2.frozen 3
      have fr0 := hr2.frozen 0
      have fr1 := hr2.frozen 1
      have fr2 := hr2.frozen 2
      have fr3 := hr2.frozen 3
      go_wp2
      exact bodyPost_ret (v := .tuple #[ansv 0 0 0 (levelT l ts), .string p]) (results_blk_tmp (u := 63) (cs := [.int .i64 0, .int .i64 0, .int .i64 0, .string (levelT l ts)]) Try.results31 rfl Try.isAgg63 Try.sizeOf63 ((((((((hr2.set_other (show w.heap.size + 1 ≠ w.heap.size + 1 + 1 by omega) _).set_other (show w.heap.size + 1 ≠ w.heap.size + 1 + 1 by omega) _).set_other (show w.heap.size + 1 ≠ w.heap.size + 1 + 1 by omega) _).set_other (show w.heap.size + 1 ≠ w.heap.size + 1 + 1 by omega) _).set 0 _).set 1 _).set 2 _).set 3 _)) rfl ⟨rfl, (((((((((Quiet.chg hq _).setCell (.inr (by dsimp only; omega)) _).setCell (.inr (by dsimp only; omega)) _).setCell (.inr (by dsimp only; omega)) _).setCell (.inr (by dsimp only; omega)) _).setCell (.inr (by dsimp only; omega)) _).setCell (.inr (by dsimp only; omega)) _).setCell (.inr (by dsimp only; omega)) _).setCell (.inr (by dsimp only; omega)) _), (r.quiet (show Quiet w _ from ((((((((hq.setCell (.inr (by dsimp only; omega)) _).setCell (.inr (by dsimp only; omega)) _).setCell (.inr (by dsimp only; omega)) _).setCell (.inr (by dsimp only; omega)) _).setCell (.inr (by dsimp only; omega)) _).setCell (.inr (by dsimp only; omega)) _).setCell (.inr (by dsimp only; omega)) _).setCell (.inr (by dsimp only; omega)) _)))⟩
end Go.Proofs.Qxb6500361a
