/-
  owed, a theorem a kind and case. Written by gen_owed.py.
-/
import Derived.Test.Qxb6500361aOwedH
namespace Go.Proofs.Qxb6500361a
open Go.RowKit Go.Qx
set_option linter.unusedSimpArgs false
set_option linter.unusedVariables false

set_option maxRecDepth 100000 in
set_option maxHeartbeats 16000000 in
theorem owed_put_long (w : World) (g a b v : Nat) (ts : List K3) (p : ByteArray) (r : Gh w g a b v ts p) (J : Nat) (oa : Int) (hct : Cut ts oa J) (ob oc : Int) (os ot : ByteArray) (has : Bool) (hhas : HasAt ts oa J has) (hbig : 8 < os.size) :
    Calls Try.prog 31 #[ptr g, opv 2 oa ob oc os ot, .string p] w fun e w' => e = .returned (.tuple #[ansv 1 0 0 ⟨#[]⟩, .string p]) ∧ Chg (gown g a b v) w w' ∧ Gh w' g a b v ts p := by
  have hhasH := hide hhas
  clear hhas
  have hbigH := hide hbig
  clear hbig
  unfold ptr opv
  have hl := r.len
  have hJ := hct.le
  generalize hN : ts.length = N at hl hJ
  have hNH := hide hN
  clear hN
  have ow := own3_new w 2 oa ob oc os ot
  have q0 : Quiet w (((w.alloc (.cells #[.int .i64 2, .int .i64 oa, .int .i64 ob, .int .i64 oc, .string os, .string ot] 44)).alloc (.cells #[.int .i64 0, .int .i64 0, .int .i64 0, .string ⟨#[]⟩] 63)).alloc (.cells #[.int .i64 0, .int .i64 0, .int .i64 0, .string ⟨#[]⟩] 63)) := (((Chg.refl _ _).alloc _).alloc _).alloc _
  have owH := hide ow
  have q0H := hide q0
  clear ow q0
  go_enter Try.func31, Try.ntmps31
  go_upto_block 0 with fail
  go_cut [9] (fun i wx => i = .int .i64 J ∧ Quiet w wx ∧ Own3 w wx 2 oa ob oc os ot)
  case first =>
    go_wp2
    go_loopg [9] 13 (fun gg i wr => ∃ j : Nat, j ≤ J ∧ gg = 13 - j ∧ i = .int .i64 j ∧ Quiet w wr ∧ Own3 w wr 2 oa ob oc os ot)
    case atStart => exact ⟨0, Nat.zero_le _, rfl, rfl, unhide q0H, unhide owH⟩
    case round =>
      obtain ⟨j, hj, hg, rfl, hq, ho⟩ := hrel
      have hgH := hide hg
      clear hg
      have r1 := r.quiet hq
      have cg := r1.blk.cell 0
      simp only [List.getElem?_cons_zero] at cg
      rw [unhide hNH] at cg
      have co := ho.o.cell 1
      simp only [List.getElem?_cons_zero, List.getElem?_cons_succ] at co
      by_cases hjN : j < N
      · have hjl : j < ts.length := by rw [unhide hNH]; exact hjN
        have hc := (r1.get j ts[j] (List.getElem?_eq_getElem hjl)).1
        have g1 : decide (j < N) = true := by simpa using hjN
        have g2 : (j : Int) < (N : Int) := by omega
        have g3 : (0 : Int) ≤ (j : Int) := by omega
        by_cases hjJ : j < J
        · have hle : ts[j].1 ≤ oa := hct.lo j hjl hjJ
          generalize ts[j].1 = tk at *
          go_wp2
          go_big_quiet (fail)
          go_wp2
          go_roundg (13 - (j + 1))
          case measure => have := unhide hgH; omega
          case rel => exact ⟨j + 1, by omega, rfl, by go_num, hq.drewN _, ho.drewN _⟩
        · have hgt : oa < ts[j].1 := hct.hi j hjl (by omega)
          generalize ts[j].1 = tk at *
          go_wp2
          go_big_quiet (fail)
          go_wp2
          go_meet
          case rel => exact ⟨by rw [show j = J by omega], hq.drewN _, ho.drewN _⟩
      · have g1 : decide (j < N) = false := by simpa using hjN
        have g2 : ¬ (j : Int) < (N : Int) := by omega
        go_wp2
        go_big_quiet (fail)
        go_wp2
        go_meet
        case rel => exact ⟨by rw [show j = J by omega], hq.drewN _, ho.drewN _⟩
  case rest =>
    obtain ⟨rfl, hq, ho⟩ := hcut
    go_wp2
    go_cut [10] (fun h wx => h = .bool has ∧ Quiet w wx ∧ Own3 w wx 2 oa ob oc os ot)
    case first =>
      have r1 := r.quiet hq
      have cg := r1.blk.cell 0
      simp only [List.getElem?_cons_zero] at cg
      rw [unhide hNH] at cg
      have co := ho.o.cell 1
      simp only [List.getElem?_cons_zero, List.getElem?_cons_succ] at co
      rcases unhide hhasH with ⟨rfl, i, t, rfl, ht, hx⟩ | ⟨rfl, rfl | ⟨i, t, rfl, ht, hx⟩⟩
      · have hc := (r1.get i t ht).1
        rw [hx] at hc
        have e1 : ((i + 1 : Nat) : Int) = (i : Int) + 1 := by omega
        have e2 : (i : Int) + 1 - 1 = (i : Int) := by omega
        have g1 : (0 : Int) < (i : Int) + 1 := by omega
        have g2 : (0 : Int) ≤ (i : Int) := by omega
        have g3 : (i : Int) < (N : Int) := by omega
        clear hx ht
        go_big_quiet (fail)
        go_wp2
        go_meet
        case rel => exact ⟨rfl, hq.drewN _, ho.drewN _⟩
      · go_big_quiet (fail)
        go_wp2
        go_meet
        case rel => exact ⟨rfl, hq.drewN _, ho.drewN _⟩
      · have hc := (r1.get i t ht).1
        have e1 : ((i + 1 : Nat) : Int) = (i : Int) + 1 := by omega
        have e2 : (i : Int) + 1 - 1 = (i : Int) := by omega
        have g1 : (0 : Int) < (i : Int) + 1 := by omega
        have g2 : (0 : Int) ≤ (i : Int) := by omega
        have g3 : (i : Int) < (N : Int) := by omega
        have g4 : (t.1 == oa) = false := by simpa using hx
        generalize t.1 = tk at *
        clear hx ht
        go_big_quiet (fail)
        go_wp2
        go_meet
        case rel => exact ⟨rfl, hq.drewN _, ho.drewN _⟩
    case rest =>
      clear hq ho
      obtain ⟨rfl, hq, ho⟩ := hcut
      have hbig := unhide hbigH
      have zo0 := ho.o.cell 0
      have zo1 := ho.o.cell 1
      have zo2 := ho.o.cell 2
      have zo4 := ho.o.cell 4
      have zw0 := ho.w.cell 0
      have zw1 := ho.w.cell 1
      have zw2 := ho.w.cell 2
      have zw3 := ho.w.cell 3
      have zr0 := ho.r.cell 0
      have zr1 := ho.r.cell 1
      have zr2 := ho.r.cell 2
      have zr3 := ho.r.cell 3
      simp only [List.getElem?_cons_zero, List.getElem?_cons_succ] at zo0 zo1 zo2 zo4 zw0 zw1 zw2 zw3 zr0 zr1 zr2 zr3
      have fw0 := ho.w.frozen 0
      have fw1 := ho.w.frozen 1
      have fw2 := ho.w.frozen 2
      have fw3 := ho.w.frozen 3
      have fr0 := ho.r.frozen 0
      have fr1 := ho.r.frozen 1
      have fr2 := ho.r.frozen 2
      have fr3 := ho.r.frozen 3
      have nw : w.heap.size + 1 ≠ w.heap.size + 2 := by omega
      have nw' : w.heap.size + 2 ≠ w.heap.size + 1 := by omega
      have hbig2 : (8 : Int) < (os.size : Int) := by omega
      clear hbig
      go_wp2
      exact bodyPost_ret (v := .tuple #[ansv 1 0 0 ⟨#[]⟩, .string p]) (results_blk_tmp (u := 63) (cs := [.int .i64 1, .int .i64 0, .int .i64 0, .string ⟨#[]⟩]) Try.results31 rfl Try.isAgg63 Try.sizeOf63 (((((ho.r.set_other (show w.heap.size + 1 ≠ w.heap.size + 1 + 1 by omega) _).set 0 _).set 1 _).set 2 _).set 3 _)) rfl ⟨rfl, ((((((Quiet.chg hq _).setCell (.inr (by dsimp only; omega)) _).setCell (.inr (by dsimp only; omega)) _).setCell (.inr (by dsimp only; omega)) _).setCell (.inr (by dsimp only; omega)) _).setCell (.inr (by dsimp only; omega)) _), (r.quiet (show Quiet w _ from (((((hq.setCell (.inr (by dsimp only; omega)) _).setCell (.inr (by dsimp only; omega)) _).setCell (.inr (by dsimp only; omega)) _).setCell (.inr (by dsimp only; omega)) _).setCell (.inr (by dsimp only; omega)) _)))⟩

set_option maxRecDepth 100000 in
set_option maxHeartbeats 16000000 in
theorem owed_put_full (w : World) (g a b v : Nat) (ts : List K3) (p : ByteArray) (r : Gh w g a b v ts p) (J : Nat) (oa : Int) (hct : Cut ts oa J) (ob oc : Int) (os ot : ByteArray) (has : Bool) (hhas : HasAt ts oa J has) (hno : has = false) (hs8 : os.size ≤ 8) (hfull : 12 ≤ ts.length) :
    Calls Try.prog 31 #[ptr g, opv 2 oa ob oc os ot, .string p] w fun e w' => e = .returned (.tuple #[ansv 2 0 0 ⟨#[]⟩, .string p]) ∧ Chg (gown g a b v) w w' ∧ Gh w' g a b v ts p := by
  have hhasH := hide hhas
  clear hhas
  have hnoH := hide hno
  clear hno
  have hs8H := hide hs8
  clear hs8
  have hfullH := hide hfull
  clear hfull
  unfold ptr opv
  have hl := r.len
  have hJ := hct.le
  generalize hN : ts.length = N at hl hJ
  have hNH := hide hN
  clear hN
  have ow := own3_new w 2 oa ob oc os ot
  have q0 : Quiet w (((w.alloc (.cells #[.int .i64 2, .int .i64 oa, .int .i64 ob, .int .i64 oc, .string os, .string ot] 44)).alloc (.cells #[.int .i64 0, .int .i64 0, .int .i64 0, .string ⟨#[]⟩] 63)).alloc (.cells #[.int .i64 0, .int .i64 0, .int .i64 0, .string ⟨#[]⟩] 63)) := (((Chg.refl _ _).alloc _).alloc _).alloc _
  have owH := hide ow
  have q0H := hide q0
  clear ow q0
  go_enter Try.func31, Try.ntmps31
  go_upto_block 0 with fail
  go_cut [9] (fun i wx => i = .int .i64 J ∧ Quiet w wx ∧ Own3 w wx 2 oa ob oc os ot)
  case first =>
    go_wp2
    go_loopg [9] 13 (fun gg i wr => ∃ j : Nat, j ≤ J ∧ gg = 13 - j ∧ i = .int .i64 j ∧ Quiet w wr ∧ Own3 w wr 2 oa ob oc os ot)
    case atStart => exact ⟨0, Nat.zero_le _, rfl, rfl, unhide q0H, unhide owH⟩
    case round =>
      obtain ⟨j, hj, hg, rfl, hq, ho⟩ := hrel
      have hgH := hide hg
      clear hg
      have r1 := r.quiet hq
      have cg := r1.blk.cell 0
      simp only [List.getElem?_cons_zero] at cg
      rw [unhide hNH] at cg
      have co := ho.o.cell 1
      simp only [List.getElem?_cons_zero, List.getElem?_cons_succ] at co
      by_cases hjN : j < N
      · have hjl : j < ts.length := by rw [unhide hNH]; exact hjN
        have hc := (r1.get j ts[j] (List.getElem?_eq_getElem hjl)).1
        have g1 : decide (j < N) = true := by simpa using hjN
        have g2 : (j : Int) < (N : Int) := by omega
        have g3 : (0 : Int) ≤ (j : Int) := by omega
        by_cases hjJ : j < J
        · have hle : ts[j].1 ≤ oa := hct.lo j hjl hjJ
          generalize ts[j].1 = tk at *
          go_wp2
          go_big_quiet (fail)
          go_wp2
          go_roundg (13 - (j + 1))
          case measure => have := unhide hgH; omega
          case rel => exact ⟨j + 1, by omega, rfl, by go_num, hq.drewN _, ho.drewN _⟩
        · have hgt : oa < ts[j].1 := hct.hi j hjl (by omega)
          generalize ts[j].1 = tk at *
          go_wp2
          go_big_quiet (fail)
          go_wp2
          go_meet
          case rel => exact ⟨by rw [show j = J by omega], hq.drewN _, ho.drewN _⟩
      · have g1 : decide (j < N) = false := by simpa using hjN
        have g2 : ¬ (j : Int) < (N : Int) := by omega
        go_wp2
        go_big_quiet (fail)
        go_wp2
        go_meet
        case rel => exact ⟨by rw [show j = J by omega], hq.drewN _, ho.drewN _⟩
  case rest =>
    obtain ⟨rfl, hq, ho⟩ := hcut
    go_wp2
    go_cut [10] (fun h wx => h = .bool has ∧ Quiet w wx ∧ Own3 w wx 2 oa ob oc os ot)
    case first =>
      have r1 := r.quiet hq
      have cg := r1.blk.cell 0
      simp only [List.getElem?_cons_zero] at cg
      rw [unhide hNH] at cg
      have co := ho.o.cell 1
      simp only [List.getElem?_cons_zero, List.getElem?_cons_succ] at co
      rcases unhide hhasH with ⟨rfl, i, t, rfl, ht, hx⟩ | ⟨rfl, rfl | ⟨i, t, rfl, ht, hx⟩⟩
      · have hc := (r1.get i t ht).1
        rw [hx] at hc
        have e1 : ((i + 1 : Nat) : Int) = (i : Int) + 1 := by omega
        have e2 : (i : Int) + 1 - 1 = (i : Int) := by omega
        have g1 : (0 : Int) < (i : Int) + 1 := by omega
        have g2 : (0 : Int) ≤ (i : Int) := by omega
        have g3 : (i : Int) < (N : Int) := by omega
        clear hx ht
        go_big_quiet (fail)
        go_wp2
        go_meet
        case rel => exact ⟨rfl, hq.drewN _, ho.drewN _⟩
      · go_big_quiet (fail)
        go_wp2
        go_meet
        case rel => exact ⟨rfl, hq.drewN _, ho.drewN _⟩
      · have hc := (r1.get i t ht).1
        have e1 : ((i + 1 : Nat) : Int) = (i : Int) + 1 := by omega
        have e2 : (i : Int) + 1 - 1 = (i : Int) := by omega
        have g1 : (0 : Int) < (i : Int) + 1 := by omega
        have g2 : (0 : Int) ≤ (i : Int) := by omega
        have g3 : (i : Int) < (N : Int) := by omega
        have g4 : (t.1 == oa) = false := by simpa using hx
        generalize t.1 = tk at *
        clear hx ht
        go_big_quiet (fail)
        go_wp2
        go_meet
        case rel => exact ⟨rfl, hq.drewN _, ho.drewN _⟩
    case rest =>
      clear hq ho
      obtain ⟨rfl, hq, ho⟩ := hcut
      have hno := unhide hnoH
      have hs8 := unhide hs8H
      have hfull := unhide hfullH
      have zo0 := ho.o.cell 0
      have zo1 := ho.o.cell 1
      have zo2 := ho.o.cell 2
      have zo4 := ho.o.cell 4
      have zw0 := ho.w.cell 0
      have zw1 := ho.w.cell 1
      have zw2 := ho.w.cell 2
      have zw3 := ho.w.cell 3
      have zr0 := ho.r.cell 0
      have zr1 := ho.r.cell 1
      have zr2 := ho.r.cell 2
      have zr3 := ho.r.cell 3
      simp only [List.getElem?_cons_zero, List.getElem?_cons_succ] at zo0 zo1 zo2 zo4 zw0 zw1 zw2 zw3 zr0 zr1 zr2 zr3
      have fw0 := ho.w.frozen 0
      have fw1 := ho.w.frozen 1
      have fw2 := ho.w.frozen 2
      have fw3 := ho.w.frozen 3
      have fr0 := ho.r.frozen 0
      have fr1 := ho.r.frozen 1
      have fr2 := ho.r.frozen 2
      have fr3 := ho.r.frozen 3
      have nw : w.heap.size + 1 ≠ w.heap.size + 2 := by omega
      have nw' : w.heap.size + 2 ≠ w.heap.size + 1 := by omega
      have r1 := r.quiet hq
      have cg0 := r1.blk.cell 0
      have cg1 := r1.blk.cell 1
      have cg2 := r1.blk.cell 2
      simp only [List.getElem?_cons_zero, List.getElem?_cons_succ] at cg0 cg1 cg2
      rw [unhide hNH] at cg0 cg1 cg2
      have lg := r.blk.lt
      have la : a < w.heap.size := by obtain ⟨_, _, h⟩ := r.ks; exact h.lt
      have lb : b < w.heap.size := by obtain ⟨_, _, h⟩ := r.hs; exact h.lt
      have lv : v < w.heap.size := by obtain ⟨_, _, h⟩ := r.vs; exact h.lt
      have m1 : g ≠ w.heap.size + 1 + 1 := by omega
      have m2 : a ≠ w.heap.size + 1 + 1 := by omega
      have m3 : b ≠ w.heap.size + 1 + 1 := by omega
      have m4 : v ≠ w.heap.size + 1 + 1 := by omega
      have m5 := Ne.symm m1
      have m6 := Ne.symm m2
      have m7 := Ne.symm m3
      have m8 := Ne.symm m4
      subst hno
      have hs82 : (os.size : Int) ≤ 8 := by omega
      have hN12 : (12 : Int) ≤ (N : Int) := by have := unhide hNH; omega
      clear hs8 hfull
      go_wp2
      exact bodyPost_ret (v := .tuple #[ansv 2 0 0 ⟨#[]⟩, .string p]) (results_blk_tmp (u := 63) (cs := [.int .i64 2, .int .i64 0, .int .i64 0, .string ⟨#[]⟩]) Try.results31 rfl Try.isAgg63 Try.sizeOf63 (((((ho.r.set_other (show w.heap.size + 1 ≠ w.heap.size + 1 + 1 by omega) _).set 0 _).set 1 _).set 2 _).set 3 _)) rfl ⟨rfl, ((((((Quiet.chg hq _).setCell (.inr (by dsimp only; omega)) _).setCell (.inr (by dsimp only; omega)) _).setCell (.inr (by dsimp only; omega)) _).setCell (.inr (by dsimp only; omega)) _).setCell (.inr (by dsimp only; omega)) _), (r.quiet (show Quiet w _ from (((((hq.setCell (.inr (by dsimp only; omega)) _).setCell (.inr (by dsimp only; omega)) _).setCell (.inr (by dsimp only; omega)) _).setCell (.inr (by dsimp only; omega)) _).setCell (.inr (by dsimp only; omega)) _)))⟩

theorem Gh.setVal {w : World} {g a b v : Nat} {ts : List K3} {p : ByteArray} (r : Gh w g a b v ts p) (i : Nat) (t : K3) (ht : ts[i]? = some t) (s : ByteArray) : Gh (w.setCell ⟨v, i, none⟩ (.string s)) g a b v (ts.set i (t.1, s, t.2.2)) p := by
  obtain ⟨n1, n2, n3, n4, n5, n6⟩ := r.nes
  obtain ⟨s1, k1, k2⟩ := r.ks
  obtain ⟨s2, h1, h2⟩ := r.hs
  obtain ⟨s3, v1, v2⟩ := r.vs
  have hil : i < ts.length := (List.getElem?_eq_some_iff.1 ht).1
  have hit : ts[i] = t := (List.getElem?_eq_some_iff.1 ht).2
  have ek : kCells (ts.set i (t.1, s, t.2.2)) = kCells ts := by
    unfold kCells; rw [List.map_set]
    apply List.ext_getElem?
    intro j
    rw [List.getElem?_set]
    by_cases hj : i = j
    · subst hj; simp [ht, hil, hit]
    · simp [hj]
  have eh : hCells (ts.set i (t.1, s, t.2.2)) = hCells ts := by
    unfold hCells; rw [List.map_set]
    apply List.ext_getElem?
    intro j
    rw [List.getElem?_set]
    by_cases hj : i = j
    · subst hj; simp [ht, hil, hit]
    · simp [hj]
  have ev : vCells (ts.set i (t.1, s, t.2.2)) = (vCells ts).set i (.string s) := by
    unfold vCells; rw [List.map_set]
  refine ⟨?_, ⟨s1, ?_, ?_⟩, ⟨s2, ?_, ?_⟩, ⟨s3, ?_, ?_⟩, r.nes⟩
  · rw [List.length_set]; exact r.blk.set_other n3 _
  · rw [ek]; exact k1
  · rw [ek]; exact k2.set_other n5 _
  · rw [eh]; exact h1
  · rw [eh]; exact h2.set_other n6 _
  · rw [ev]; simpa using v1
  · rw [ev]
    have := v2.set i (.string s)
    rw [List.set_append_left _ _ (by simpa [vCells] using hil)] at this
    exact this

set_option maxRecDepth 100000 in
set_option maxHeartbeats 16000000 in
theorem owed_put_has (w : World) (g a b v : Nat) (ts : List K3) (p : ByteArray) (r : Gh w g a b v ts p) (J : Nat) (oa : Int) (hct : Cut ts oa J) (ob oc : Int) (os ot : ByteArray) (has : Bool) (hhas : HasAt ts oa J has) (hno : has = true) (hs8 : os.size ≤ 8) (i : Nat) (t : K3) (hJi : J = i + 1) (hti : ts[i]? = some t) :
    Calls Try.prog 31 #[ptr g, opv 2 oa ob oc os ot, .string p] w fun e w' => e = .returned (.tuple #[ansv 0 0 0 ⟨#[]⟩, .string p]) ∧ Chg (gown g a b v) w w' ∧ Gh w' g a b v (ts.set i (t.1, os, t.2.2)) p := by
  have hhasH := hide hhas
  clear hhas
  have hnoH := hide hno
  clear hno
  have hs8H := hide hs8
  clear hs8
  have hJiH := hide hJi
  clear hJi
  have htiH := hide hti
  clear hti
  unfold ptr opv
  have hl := r.len
  have hJ := hct.le
  generalize hN : ts.length = N at hl hJ
  have hNH := hide hN
  clear hN
  have ow := own3_new w 2 oa ob oc os ot
  have q0 : Quiet w (((w.alloc (.cells #[.int .i64 2, .int .i64 oa, .int .i64 ob, .int .i64 oc, .string os, .string ot] 44)).alloc (.cells #[.int .i64 0, .int .i64 0, .int .i64 0, .string ⟨#[]⟩] 63)).alloc (.cells #[.int .i64 0, .int .i64 0, .int .i64 0, .string ⟨#[]⟩] 63)) := (((Chg.refl _ _).alloc _).alloc _).alloc _
  have owH := hide ow
  have q0H := hide q0
  clear ow q0
  go_enter Try.func31, Try.ntmps31
  go_upto_block 0 with fail
  go_cut [9] (fun i wx => i = .int .i64 J ∧ Quiet w wx ∧ Own3 w wx 2 oa ob oc os ot)
  case first =>
    go_wp2
    go_loopg [9] 13 (fun gg i wr => ∃ j : Nat, j ≤ J ∧ gg = 13 - j ∧ i = .int .i64 j ∧ Quiet w wr ∧ Own3 w wr 2 oa ob oc os ot)
    case atStart => exact ⟨0, Nat.zero_le _, rfl, rfl, unhide q0H, unhide owH⟩
    case round =>
      obtain ⟨j, hj, hg, rfl, hq, ho⟩ := hrel
      have hgH := hide hg
      clear hg
      have r1 := r.quiet hq
      have cg := r1.blk.cell 0
      simp only [List.getElem?_cons_zero] at cg
      rw [unhide hNH] at cg
      have co := ho.o.cell 1
      simp only [List.getElem?_cons_zero, List.getElem?_cons_succ] at co
      by_cases hjN : j < N
      · have hjl : j < ts.length := by rw [unhide hNH]; exact hjN
        have hc := (r1.get j ts[j] (List.getElem?_eq_getElem hjl)).1
        have g1 : decide (j < N) = true := by simpa using hjN
        have g2 : (j : Int) < (N : Int) := by omega
        have g3 : (0 : Int) ≤ (j : Int) := by omega
        by_cases hjJ : j < J
        · have hle : ts[j].1 ≤ oa := hct.lo j hjl hjJ
          generalize ts[j].1 = tk at *
          go_wp2
          go_big_quiet (fail)
          go_wp2
          go_roundg (13 - (j + 1))
          case measure => have := unhide hgH; omega
          case rel => exact ⟨j + 1, by omega, rfl, by go_num, hq.drewN _, ho.drewN _⟩
        · have hgt : oa < ts[j].1 := hct.hi j hjl (by omega)
          generalize ts[j].1 = tk at *
          go_wp2
          go_big_quiet (fail)
          go_wp2
          go_meet
          case rel => exact ⟨by rw [show j = J by omega], hq.drewN _, ho.drewN _⟩
      · have g1 : decide (j < N) = false := by simpa using hjN
        have g2 : ¬ (j : Int) < (N : Int) := by omega
        go_wp2
        go_big_quiet (fail)
        go_wp2
        go_meet
        case rel => exact ⟨by rw [show j = J by omega], hq.drewN _, ho.drewN _⟩
  case rest =>
    obtain ⟨rfl, hq, ho⟩ := hcut
    go_wp2
    go_cut [10] (fun h wx => h = .bool has ∧ Quiet w wx ∧ Own3 w wx 2 oa ob oc os ot)
    case first =>
      have r1 := r.quiet hq
      have cg := r1.blk.cell 0
      simp only [List.getElem?_cons_zero] at cg
      rw [unhide hNH] at cg
      have co := ho.o.cell 1
      simp only [List.getElem?_cons_zero, List.getElem?_cons_succ] at co
      rcases unhide hhasH with ⟨rfl, i, t, rfl, ht, hx⟩ | ⟨rfl, rfl | ⟨i, t, rfl, ht, hx⟩⟩
      · have hc := (r1.get i t ht).1
        rw [hx] at hc
        have e1 : ((i + 1 : Nat) : Int) = (i : Int) + 1 := by omega
        have e2 : (i : Int) + 1 - 1 = (i : Int) := by omega
        have g1 : (0 : Int) < (i : Int) + 1 := by omega
        have g2 : (0 : Int) ≤ (i : Int) := by omega
        have g3 : (i : Int) < (N : Int) := by omega
        clear hx ht
        go_big_quiet (fail)
        go_wp2
        go_meet
        case rel => exact ⟨rfl, hq.drewN _, ho.drewN _⟩
      · go_big_quiet (fail)
        go_wp2
        go_meet
        case rel => exact ⟨rfl, hq.drewN _, ho.drewN _⟩
      · have hc := (r1.get i t ht).1
        have e1 : ((i + 1 : Nat) : Int) = (i : Int) + 1 := by omega
        have e2 : (i : Int) + 1 - 1 = (i : Int) := by omega
        have g1 : (0 : Int) < (i : Int) + 1 := by omega
        have g2 : (0 : Int) ≤ (i : Int) := by omega
        have g3 : (i : Int) < (N : Int) := by omega
        have g4 : (t.1 == oa) = false := by simpa using hx
        generalize t.1 = tk at *
        clear hx ht
        go_big_quiet (fail)
        go_wp2
        go_meet
        case rel => exact ⟨rfl, hq.drewN _, ho.drewN _⟩
    case rest =>
      clear hq ho
      obtain ⟨rfl, hq, ho⟩ := hcut
      have hno := unhide hnoH
      have hs8 := unhide hs8H
      have hJi := unhide hJiH
      have hti := unhide htiH
      have yo0 := ho.o.cell 0
      have yo1 := ho.o.cell 1
      have yo2 := ho.o.cell 2
      simp only [List.getElem?_cons_zero, List.getElem?_cons_succ] at yo0 yo1 yo2
      have r1 := r.quiet hq
      have cg0 := r1.blk.cell 0
      have cg1 := r1.blk.cell 1
      have cg2 := r1.blk.cell 2
      simp only [List.getElem?_cons_zero, List.getElem?_cons_succ] at cg0 cg1 cg2
      rw [unhide hNH] at cg0 cg1 cg2
      have lg := r.blk.lt
      have la : a < w.heap.size := by obtain ⟨_, _, h⟩ := r.ks; exact h.lt
      have lb : b < w.heap.size := by obtain ⟨_, _, h⟩ := r.hs; exact h.lt
      have lv : v < w.heap.size := by obtain ⟨_, _, h⟩ := r.vs; exact h.lt
      have m1 : g ≠ w.heap.size + 1 + 1 := by omega
      have m2 : a ≠ w.heap.size + 1 + 1 := by omega
      have m3 : b ≠ w.heap.size + 1 + 1 := by omega
      have m4 : v ≠ w.heap.size + 1 + 1 := by omega
      have m5 := Ne.symm m1
      have m6 := Ne.symm m2
      have m7 := Ne.symm m3
      have m8 := Ne.symm m4
      subst hJi
      have hti1 := (r1.get i t hti).1
      have hti3 := (r1.get i t hti).2.2
      have e1 : ((i + 1 : Nat) : Int) = (i : Int) + 1 := by omega
      have e2 : (i : Int) + 1 - 1 = (i : Int) := by omega
      have x1 : (0 : Int) < (i : Int) + 1 := by omega
      have x2 : (0 : Int) ≤ (i : Int) := by omega
      have x3 : (i : Int) < (N : Int) := by omega
      have e4 : IntKind.i64.wrap ((i : Int) + 1 - 1) = (i : Int) := by rw [IntKind.wrap_i64]; omega
      have e5 : IntKind.i64.wrap (i : Int) = (i : Int) := by rw [IntKind.wrap_i64]; omega
      have htiK := hide hti
      clear hti
      subst hno
      have yo4 := ho.o.cell 4
      simp only [List.getElem?_cons_zero, List.getElem?_cons_succ] at yo4
      have hs82 : (os.size : Int) ≤ 8 := by omega
      clear hs8
      obtain ⟨spv, hv12, bv⟩ := r1.vs
      have fv := bv.frozen i
      have ne3 := r1.nes.2.2.1
      have ne3' := Ne.symm ne3
      have nov : v ≠ w.heap.size := by omega
      have nov' := Ne.symm nov
      go_wp2
      go_region_held3 (fun w' => w'.cell? ⟨g, 2, none⟩ = some (.slice (some ⟨v, 0, none⟩) N 12) ∧ w'.cell? ⟨w.heap.size, 4, none⟩ = some (.string os)) (go_keep) (fail)
      rename_i hHeld
      clear hHeld
      have gh2 := (r1.setVal i t (unhide htiK) os).quiet ((Chg.refl _ _).drew)
      have chw : Chg (gown g a b v) w (wc.setCell ⟨v, i, none⟩ (.string os)).drew := ((Quiet.chg hq _).setCell (.inl (.inr (.inr (.inr rfl)))) _).drew
      have ho2 : Own3 w (wc.setCell ⟨v, i, none⟩ (.string os)).drew 2 oa ob oc os ot := ⟨(ho.o.set_other nov' _).drew, (ho.r.set_other (show w.heap.size + 1 ≠ v by omega) _).drew, (ho.w.set_other (show w.heap.size + 2 ≠ v by omega) _).drew⟩
      clear ho hq r1 cg0 cg1 cg2 yo0 yo1 yo2 yo4 bv fv hti1 hti3
      generalize (wc.setCell ⟨v, i, none⟩ (.string os)).drew = wx at gh2 chw ho2 ⊢
      have ho := ho2
      have hgh := gh2
      clear ho2 gh2
      have zo0 := ho.o.cell 0
      have zo1 := ho.o.cell 1
      have zo2 := ho.o.cell 2
      have zo4 := ho.o.cell 4
      have zw0 := ho.w.cell 0
      have zw1 := ho.w.cell 1
      have zw2 := ho.w.cell 2
      have zw3 := ho.w.cell 3
      have zr0 := ho.r.cell 0
      have zr1 := ho.r.cell 1
      have zr2 := ho.r.cell 2
      have zr3 := ho.r.cell 3
      simp only [List.getElem?_cons_zero, List.getElem?_cons_succ] at zo0 zo1 zo2 zo4 zw0 zw1 zw2 zw3 zr0 zr1 zr2 zr3
      have fw0 := ho.w.frozen 0
      have fw1 := ho.w.frozen 1
      have fw2 := ho.w.frozen 2
      have fw3 := ho.w.frozen 3
      have fr0 := ho.r.frozen 0
      have fr1 := ho.r.frozen 1
      have fr2 := ho.r.frozen 2
      have fr3 := ho.r.frozen 3
      have nw : w.heap.size + 1 ≠ w.heap.size + 2 := by omega
      have nw' : w.heap.size + 2 ≠ w.heap.size + 1 := by omega
      go_wp2
      exact bodyPost_ret (v := .tuple #[ansv 0 0 0 ⟨#[]⟩, .string p]) (results_blk_tmp (u := 63) (cs := [.int .i64 0, .int .i64 0, .int .i64 0, .string ⟨#[]⟩]) Try.results31 rfl Try.isAgg63 Try.sizeOf63 ((((ho.r.set 0 _).set 1 _).set 2 _).set 3 _)) rfl ⟨rfl, ((((chw.setCell (.inr (by dsimp only; omega)) _).setCell (.inr (by dsimp only; omega)) _).setCell (.inr (by dsimp only; omega)) _).setCell (.inr (by dsimp only; omega)) _), (hgh.of_chg (S := fun k => w.heap.size ≤ k) (((((Chg.refl _ _).setCell (.inl (by dsimp only; omega)) _).setCell (.inl (by dsimp only; omega)) _).setCell (.inl (by dsimp only; omega)) _).setCell (.inl (by dsimp only; omega)) _) (by rintro x (rfl | rfl | rfl | rfl) h <;> omega))⟩
end Go.Proofs.Qxb6500361a
