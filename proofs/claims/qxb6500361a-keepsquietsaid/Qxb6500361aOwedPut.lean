/-
  owed, a theorem a kind and case. Written by gen_owed.py.
-/
import Derived.Test.Qxb6500361aOwedI0
import Derived.Test.Qxb6500361aOwedI1
import Derived.Test.Qxb6500361aOwedI2
namespace Go.Proofs.Qxb6500361a
open Go.RowKit Go.Qx
set_option linter.unusedSimpArgs false
set_option linter.unusedVariables false

theorem extract_drop (p : ByteArray) (u : Nat) : p.extract u p.size = str (p.data.toList.drop u) := by
  rw [ByteArray.ext_iff, ByteArray.data_extract]
  apply Array.toList_inj.1
  show (p.data.extract u p.size).toList = p.data.toList.drop u
  rw [Array.toList_extract]
  have h : p.data.toList.length = p.size := by simp
  rw [← h]
  simp [List.extract_eq_take_drop]
  exact List.take_of_length_le (by rw [List.length_drop, h]; omega)

set_option maxRecDepth 100000 in
set_option maxHeartbeats 16000000 in
theorem owed_put (w : World) (g a b v : Nat) (ts : List K3) (p : ByteArray) (r : Gh w g a b v ts p) (J : Nat) (oa : Int) (hct : Cut ts oa J) (ob oc : Int) (os ot : ByteArray) (has : Bool) (hhas : HasAt ts oa J has) (hno : has = false) (hs8 : os.size ≤ 8) (hroom : ts.length < 12) (hp : p.size ≤ 32) :
    Calls Try.prog 31 #[ptr g, opv 2 oa ob oc os ot, .string p] w fun e w' => e = .returned (.tuple #[ansv 0 0 0 ⟨#[]⟩, .string (str (toss 7 p.data.toList).2)]) ∧ Chg (gown g a b v) w w' ∧ Gh w' g a b v (ts.take J ++ (oa, os, (toss 7 p.data.toList).1) :: ts.drop J) p := by
  have hhasH := hide hhas
  clear hhas
  have hnoH := hide hno
  clear hno
  have hs8H := hide hs8
  clear hs8
  have hroomH := hide hroom
  clear hroom
  have hpH := hide hp
  clear hp
  unfold ptr opv
  have hl := r.len
  have hJ := hct.le
  generalize hN : ts.length = N at hl hJ
  have hNH := hide hN
  clear hN
  have ow := own3_new w 2 oa ob oc os ot
  have q0 : Quiet w (((w.alloc (.cells #[.int .i64 2, .int .i64 oa, .int .i64 ob, .int .i64 oc, .string os, .string ot] 44)).alloc (.cells #[.int .i64 0, .int .i64 0, .int .i64 0, .string ⟨#[]⟩] 63)).alloc (.cells #[.int .i64 0, .int .i64 0, .int .i64 0, .string ⟨#[]⟩] 63)) := (((Chg.refl _ _).alloc _).alloc _).alloc _
  have owH := hide ow
  have q0H := hide q0
  clear ow q0
  go_enter Try.func31, Try.ntmps31
  go_upto_block 0 with fail
  go_cut [9] (fun i wx => i = .int .i64 J ∧ Quiet w wx ∧ Own3 w wx 2 oa ob oc os ot)
  case first =>
    go_wp2
    go_loopg [9] 13 (fun gg i wr => ∃ j : Nat, j ≤ J ∧ gg = 13 - j ∧ i = .int .i64 j ∧ Quiet w wr ∧ Own3 w wr 2 oa ob oc os ot)
    case atStart => exact ⟨0, Nat.zero_le _, rfl, rfl, unhide q0H, unhide owH⟩
    case round =>
      obtain ⟨j, hj, hg, rfl, hq, ho⟩ := hrel
      have hgH := hide hg
      clear hg
      have r1 := r.quiet hq
      have cg := r1.blk.cell 0
      simp only [List.getElem?_cons_zero] at cg
      rw [unhide hNH] at cg
      have co := ho.o.cell 1
      simp only [List.getElem?_cons_zero, List.getElem?_cons_succ] at co
      by_cases hjN : j < N
      · have hjl : j < ts.length := by rw [unhide hNH]; exact hjN
        have hc := (r1.get j ts[j] (List.getElem?_eq_getElem hjl)).1
        have g1 : decide (j < N) = true := by simpa using hjN
        have g2 : (j : Int) < (N : Int) := by omega
        have g3 : (0 : Int) ≤ (j : Int) := by omega
        by_cases hjJ : j < J
        · have hle : ts[j].1 ≤ oa := hct.lo j hjl hjJ
          generalize ts[j].1 = tk at *
          go_wp2
          go_big_quiet (fail)
          go_wp2
          go_roundg (13 - (j + 1))
          case measure => have := unhide hgH; omega
          case rel => exact ⟨j + 1, by omega, rfl, by go_num, hq.drewN _, ho.drewN _⟩
        · have hgt : oa < ts[j].1 := hct.hi j hjl (by omega)
          generalize ts[j].1 = tk at *
          go_wp2
          go_big_quiet (fail)
          go_wp2
          go_meet
          case rel => exact ⟨by rw [show j = J by omega], hq.drewN _, ho.drewN _⟩
      · have g1 : decide (j < N) = false := by simpa using hjN
        have g2 : ¬ (j : Int) < (N : Int) := by omega
        go_wp2
        go_big_quiet (fail)
        go_wp2
        go_meet
        case rel => exact ⟨by rw [show j = J by omega], hq.drewN _, ho.drewN _⟩
  case rest =>
    obtain ⟨rfl, hq, ho⟩ := hcut
    go_wp2
    go_cut [10] (fun h wx => h = .bool has ∧ Quiet w wx ∧ Own3 w wx 2 oa ob oc os ot)
    case first =>
      have r1 := r.quiet hq
      have cg := r1.blk.cell 0
      simp only [List.getElem?_cons_zero] at cg
      rw [unhide hNH] at cg
      have co := ho.o.cell 1
      simp only [List.getElem?_cons_zero, List.getElem?_cons_succ] at co
      rcases unhide hhasH with ⟨rfl, i, t, rfl, ht, hx⟩ | ⟨rfl, rfl | ⟨i, t, rfl, ht, hx⟩⟩
      · have hc := (r1.get i t ht).1
        rw [hx] at hc
        have e1 : ((i + 1 : Nat) : Int) = (i : Int) + 1 := by omega
        have e2 : (i : Int) + 1 - 1 = (i : Int) := by omega
        have g1 : (0 : Int) < (i : Int) + 1 := by omega
        have g2 : (0 : Int) ≤ (i : Int) := by omega
        have g3 : (i : Int) < (N : Int) := by omega
        clear hx ht
        go_big_quiet (fail)
        go_wp2
        go_meet
        case rel => exact ⟨rfl, hq.drewN _, ho.drewN _⟩
      · go_big_quiet (fail)
        go_wp2
        go_meet
        case rel => exact ⟨rfl, hq.drewN _, ho.drewN _⟩
      · have hc := (r1.get i t ht).1
        have e1 : ((i + 1 : Nat) : Int) = (i : Int) + 1 := by omega
        have e2 : (i : Int) + 1 - 1 = (i : Int) := by omega
        have g1 : (0 : Int) < (i : Int) + 1 := by omega
        have g2 : (0 : Int) ≤ (i : Int) := by omega
        have g3 : (i : Int) < (N : Int) := by omega
        have g4 : (t.1 == oa) = false := by simpa using hx
        generalize t.1 = tk at *
        clear hx ht
        go_big_quiet (fail)
        go_wp2
        go_meet
        case rel => exact ⟨rfl, hq.drewN _, ho.drewN _⟩
    case rest =>
      clear hq ho
      obtain ⟨rfl, hq, ho⟩ := hcut
      have hno := unhide hnoH
      have hs8 := unhide hs8H
      have hroom := unhide hroomH
      have hp := unhide hpH
      have yo0 := ho.o.cell 0
      have yo1 := ho.o.cell 1
      have yo2 := ho.o.cell 2
      simp only [List.getElem?_cons_zero, List.getElem?_cons_succ] at yo0 yo1 yo2
      have r1 := r.quiet hq
      have cg0 := r1.blk.cell 0
      have cg1 := r1.blk.cell 1
      have cg2 := r1.blk.cell 2
      simp only [List.getElem?_cons_zero, List.getElem?_cons_succ] at cg0 cg1 cg2
      rw [unhide hNH] at cg0 cg1 cg2
      have lg := r.blk.lt
      have la : a < w.heap.size := by obtain ⟨_, _, h⟩ := r.ks; exact h.lt
      have lb : b < w.heap.size := by obtain ⟨_, _, h⟩ := r.hs; exact h.lt
      have lv : v < w.heap.size := by obtain ⟨_, _, h⟩ := r.vs; exact h.lt
      have m1 : g ≠ w.heap.size + 1 + 1 := by omega
      have m2 : a ≠ w.heap.size + 1 + 1 := by omega
      have m3 : b ≠ w.heap.size + 1 + 1 := by omega
      have m4 : v ≠ w.heap.size + 1 + 1 := by omega
      have m5 := Ne.symm m1
      have m6 := Ne.symm m2
      have m7 := Ne.symm m3
      have m8 := Ne.symm m4
      subst hno
      have gm := r1.gm
      have yo4 := ho.o.cell 4
      simp only [List.getElem?_cons_zero, List.getElem?_cons_succ] at yo4
      have hsz : (os.size : Int) ≤ 8 := by omega
      have hN12' : N < 12 := by rw [← unhide hNH]; exact hroom
      have hN12 : (N : Int) < 12 := by omega
      have htoss := toss_any wc p hp
      have hts : Hid ((toss 7 p.data.toList).2 = p.data.toList.drop (p.size - (toss 7 p.data.toList).2.length)) := toss_drop 7 p.data.toList
      have htl : (toss 7 p.data.toList).2.length ≤ p.size := (toss_bounds 7 p.data.toList).2.2
      generalize htr : (toss 7 p.data.toList).2 = tr at *
      generalize hth : (toss 7 p.data.toList).1 = th at *
      have htrH := hide htr
      have hthH := hide hth
      clear htr hth
      have htH := hide htoss
      clear htoss hs8 hroom
      go_wp2_with fail
      refine (unhide htH).mono ?_
      rintro e w2 ⟨rfl, he2⟩
      subst he2
      clear htH
      have chw : Chg (gown g a b v) w w2 := Quiet.chg hq _
      clear r1 cg0 cg1 cg2 yo0 yo1 yo2 yo4
      go_wp2
      refine wp_of_blind ?_
      refine ins_r15 w g a b v ts p oa ob oc os ot th J N hNH (by omega) hN12' lg la lb lv _ chw ho gm _ _ _ _ _ _ _ _ _ _ _ _ _ _ _ _ _ _ _ _ _ _ _ _ _ _ _ _ _ _ _ _ _ _ _ _ _ _ _ _ _ _ _ _ _ _ _ _ _ _ _ _ _ _ _ _ _ _ _ _ _ _ _ _ _ _ _ _ _ _ _ _ _ _ _ _ _ _ _ _ _ _ _ _ _ _ _ _ _ _ _ _ _ _ _ _ _ _ _ _ _ _ _ _ _ _ _ _ _ _ _ _ _ _ _ _ _ _ _ _ _ _ _ _ _ _ _ _ _ _ _ _ _ _ _ _ _ _ _ _ _ _ _ _ _ _ _ _ _ _ _ _ _ _ _ _ _ _ _ _ _ _ _ _ _ _ _ _ _ _ _ _ _ _ _ _ _ _ _ _ _ _ _ _ _ _ _ _ _ _ _ _ _ _ _ _ _ _ _ _ _ _ _ _ _ _ _ _ _ _ _ _ _ _ _ _ _ _ _ _ _ _ _ _ _ _ _ _ _ _ _ _ _ _ _ _ _ _ _ _ _ _ _ _ _ _ _ _ _ _ _ _ _ _ _ _ _ _ _ _ _ _ _ _ _ _ _ _ _ _ _ _ _ _ _ (hide ?_)
      intro x81 x82 x83 x84 x85 x86 x87 x88 x89 x90 x91 x92 x93 x94 x95 x96 x97 x98 x99 x100 wx hx
      clear chw ho gm
      obtain ⟨chw, ho, gm⟩ := hx
      dsimp only
      go_wp2
      refine wp_of_blind ?_
      refine ins_r16 w g a b v ts p oa ob oc os ot th J N hNH (by omega) hN12' lg la lb lv _ chw ho gm _ _ _ _ _ _ _ _ _ _ _ _ _ _ _ _ _ _ _ _ _ _ _ _ _ _ _ _ _ _ _ _ _ _ _ _ _ _ _ _ _ _ _ _ _ _ _ _ _ _ _ _ _ _ _ _ _ _ _ _ _ _ _ _ _ _ _ _ _ _ _ _ _ _ _ _ _ _ _ _ _ _ _ _ _ _ _ _ _ _ _ _ _ _ _ _ _ _ _ _ _ _ _ _ _ _ _ _ _ _ _ _ _ _ _ _ _ _ _ _ _ _ _ _ _ _ _ _ _ _ _ _ _ _ _ _ _ _ _ _ _ _ _ _ _ _ _ _ _ _ _ _ _ _ _ _ _ _ _ _ _ _ _ _ _ _ _ _ _ _ _ _ _ _ _ _ _ _ _ _ _ _ _ _ _ _ _ _ _ _ _ _ _ _ _ _ _ _ _ _ _ _ _ _ _ _ _ _ _ _ _ _ _ _ _ _ _ _ _ _ _ _ _ _ _ _ _ _ _ _ _ _ _ _ _ _ _ _ _ _ _ _ _ _ _ _ _ _ _ _ _ _ _ _ _ _ _ _ _ _ _ _ _ _ _ _ _ _ _ _ _ _ _ _ _ (hide ?_)
      intro x101 x102 x103 x104 x105 x106 x107 x108 x109 x110 x111 x112 x113 x114 x115 x116 x117 x118 x119 wx hx
      clear chw ho gm
      obtain ⟨chw, ho, gm⟩ := hx
      dsimp only
      go_wp2
      refine wp_of_blind ?_
      refine ins_r17 w g a b v ts p oa ob oc os ot th J N hNH (by omega) hN12' lg la lb lv _ chw ho gm _ _ _ _ _ _ _ _ _ _ _ _ _ _ _ _ _ _ _ _ _ _ _ _ _ _ _ _ _ _ _ _ _ _ _ _ _ _ _ _ _ _ _ _ _ _ _ _ _ _ _ _ _ _ _ _ _ _ _ _ _ _ _ _ _ _ _ _ _ _ _ _ _ _ _ _ _ _ _ _ _ _ _ _ _ _ _ _ _ _ _ _ _ _ _ _ _ _ _ _ _ _ _ _ _ _ _ _ _ _ _ _ _ _ _ _ _ _ _ _ _ _ _ _ _ _ _ _ _ _ _ _ _ _ _ _ _ _ _ _ _ _ _ _ _ _ _ _ _ _ _ _ _ _ _ _ _ _ _ _ _ _ _ _ _ _ _ _ _ _ _ _ _ _ _ _ _ _ _ _ _ _ _ _ _ _ _ _ _ _ _ _ _ _ _ _ _ _ _ _ _ _ _ _ _ _ _ _ _ _ _ _ _ _ _ _ _ _ _ _ _ _ _ _ _ _ _ _ _ _ _ _ _ _ _ _ _ _ _ _ _ _ _ _ _ _ _ _ _ _ _ _ _ _ _ _ _ _ _ _ _ _ _ _ _ _ _ _ _ _ _ _ _ _ _ (hide ?_)
      intro x120 x121 x122 x123 x124 x125 x126 x127 x128 x129 x130 x131 x132 x133 x134 x135 x136 x137 x138 x139 wx hx
      clear chw ho gm
      obtain ⟨chw, ho, gm⟩ := hx
      dsimp only
      have zo0 := ho.o.cell 0
      have zo1 := ho.o.cell 1
      have zo2 := ho.o.cell 2
      have zo4 := ho.o.cell 4
      have zw0 := ho.w.cell 0
      have zw1 := ho.w.cell 1
      have zw2 := ho.w.cell 2
      have zw3 := ho.w.cell 3
      have zr0 := ho.r.cell 0
      have zr1 := ho.r.cell 1
      have zr2 := ho.r.cell 2
      have zr3 := ho.r.cell 3
      simp only [List.getElem?_cons_zero, List.getElem?_cons_succ] at zo0 zo1 zo2 zo4 zw0 zw1 zw2 zw3 zr0 zr1 zr2 zr3
      have fw0 := ho.w.frozen 0
      have fw1 := ho.w.frozen 1
      have fw2 := ho.w.frozen 2
      have fw3 := ho.w.frozen 3
      have fr0 := ho.r.frozen 0
      have fr1 := ho.r.frozen 1
      have fr2 := ho.r.frozen 2
      have fr3 := ho.r.frozen 3
      have nw : w.heap.size + 1 ≠ w.heap.size + 2 := by omega
      have nw' : w.heap.size + 2 ≠ w.heap.size + 1 := by omega
      have htu0 : (0 : Int) ≤ ((p.size - tr.length : Nat) : Int) := by omega
      have htu1 : ((p.size - tr.length : Nat) : Int) ≤ (p.size : Int) := by omega
      go_wp2
      have hgh : Gh wx g a b v (ts.take J ++ (oa, os, th) :: ts.drop J) p := gm.gh (by simp [kCells]) (by simp [hCells]) (by simp [vCells])
      refine bodyPost_ret (results_blk_tmp (u := 63) (cs := [.int .i64 0, .int .i64 0, .int .i64 0, .string ⟨#[]⟩]) Try.results31 rfl Try.isAgg63 Try.sizeOf63 ((((ho.r.set 0 _).set 1 _).set 2 _).set 3 _)) rfl ⟨?_, ((((chw.setCell (.inr (by dsimp only; omega)) _).setCell (.inr (by dsimp only; omega)) _).setCell (.inr (by dsimp only; omega)) _).setCell (.inr (by dsimp only; omega)) _), ?_⟩
      · rw [unhide htrH]
        have ex : p.extract (p.size - tr.length) p.size = str tr := (extract_drop p _).trans (congrArg str (unhide hts).symm)
        rw [← ex]
        rfl
      · rw [unhide hthH]
        exact (hgh.of_chg (S := fun k => w.heap.size ≤ k) (((((Chg.refl _ _).setCell (.inl (by dsimp only; omega)) _).setCell (.inl (by dsimp only; omega)) _).setCell (.inl (by dsimp only; omega)) _).setCell (.inl (by dsimp only; omega)) _) (by rintro x (rfl | rfl | rfl | rfl) h <;> omega))
end Go.Proofs.Qxb6500361a
