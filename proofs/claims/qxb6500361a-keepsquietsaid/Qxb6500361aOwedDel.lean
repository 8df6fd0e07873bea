/-
  owed, a theorem a kind and case. Written by gen_owed.py.
-/
import Derived.Test.Qxb6500361aOwedD0
import Derived.Test.Qxb6500361aOwedD1
import Derived.Test.Qxb6500361aOwedD2
namespace Go.Proofs.Qxb6500361a
open Go.RowKit Go.Qx
set_option linter.unusedSimpArgs false
set_option linter.unusedVariables false

theorem map_erase (f : K3 → Value) : ∀ (l : List K3) (i : Nat), (l.map f).eraseIdx i = (l.eraseIdx i).map f
  | [], _ => rfl
  | _ :: _, 0 => rfl
  | x :: l, i + 1 => by simp [map_erase f l i]

set_option maxRecDepth 100000 in
set_option maxHeartbeats 16000000 in
theorem owed_del (w : World) (g a b v : Nat) (ts : List K3) (p : ByteArray) (r : Gh w g a b v ts p) (J : Nat) (oa : Int) (hct : Cut ts oa J) (ob oc : Int) (os ot : ByteArray) (has : Bool) (hhas : HasAt ts oa J has) (hno : has = true) (i : Nat) (t : K3) (hJi : J = i + 1) (hti : ts[i]? = some t) :
    Calls Try.prog 31 #[ptr g, opv 4 oa ob oc os ot, .string p] w fun e w' => e = .returned (.tuple #[ansv 0 0 0 ⟨#[]⟩, .string p]) ∧ Chg (gown g a b v) w w' ∧ Gh w' g a b v (ts.eraseIdx i) p := by
  have hhasH := hide hhas
  clear hhas
  have hnoH := hide hno
  clear hno
  have hJiH := hide hJi
  clear hJi
  have htiH := hide hti
  clear hti
  unfold ptr opv
  have hl := r.len
  have hJ := hct.le
  generalize hN : ts.length = N at hl hJ
  have hNH := hide hN
  clear hN
  have ow := own3_new w 4 oa ob oc os ot
  have q0 : Quiet w (((w.alloc (.cells #[.int .i64 4, .int .i64 oa, .int .i64 ob, .int .i64 oc, .string os, .string ot] 44)).alloc (.cells #[.int .i64 0, .int .i64 0, .int .i64 0, .string ⟨#[]⟩] 63)).alloc (.cells #[.int .i64 0, .int .i64 0, .int .i64 0, .string ⟨#[]⟩] 63)) := (((Chg.refl _ _).alloc _).alloc _).alloc _
  have owH := hide ow
  have q0H := hide q0
  clear ow q0
  go_enter Try.func31, Try.ntmps31
  go_upto_block 0 with fail
  go_cut [9] (fun i wx => i = .int .i64 J ∧ Quiet w wx ∧ Own3 w wx 4 oa ob oc os ot)
  case first =>
    go_wp2
    go_loopg [9] 13 (fun gg i wr => ∃ j : Nat, j ≤ J ∧ gg = 13 - j ∧ i = .int .i64 j ∧ Quiet w wr ∧ Own3 w wr 4 oa ob oc os ot)
    case atStart => exact ⟨0, Nat.zero_le _, rfl, rfl, unhide q0H, unhide owH⟩
    case round =>
      obtain ⟨j, hj, hg, rfl, hq, ho⟩ := hrel
      have hgH := hide hg
      clear hg
      have r1 := r.quiet hq
      have cg := r1.blk.cell 0
      simp only [List.getElem?_cons_zero] at cg
      rw [unhide hNH] at cg
      have co := ho.o.cell 1
      simp only [List.getElem?_cons_zero, List.getElem?_cons_succ] at co
      by_cases hjN : j < N
      · have hjl : j < ts.length := by rw [unhide hNH]; exact hjN
        have hc := (r1.get j ts[j] (List.getElem?_eq_getElem hjl)).1
        have g1 : decide (j < N) = true := by simpa using hjN
        have g2 : (j : Int) < (N : Int) := by omega
        have g3 : (0 : Int) ≤ (j : Int) := by omega
        by_cases hjJ : j < J
        · have hle : ts[j].1 ≤ oa := hct.lo j hjl hjJ
          generalize ts[j].1 = tk at *
          go_wp2
          go_big_quiet (fail)
          go_wp2
          go_roundg (13 - (j + 1))
          case measure => have := unhide hgH; omega
          case rel => exact ⟨j + 1, by omega, rfl, by go_num, hq.drewN _, ho.drewN _⟩
        · have hgt : oa < ts[j].1 := hct.hi j hjl (by omega)
          generalize ts[j].1 = tk at *
          go_wp2
          go_big_quiet (fail)
          go_wp2
          go_meet
          case rel => exact ⟨by rw [show j = J by omega], hq.drewN _, ho.drewN _⟩
      · have g1 : decide (j < N) = false := by simpa using hjN
        have g2 : ¬ (j : Int) < (N : Int) := by omega
        go_wp2
        go_big_quiet (fail)
        go_wp2
        go_meet
        case rel => exact ⟨by rw [show j = J by omega], hq.drewN _, ho.drewN _⟩
  case rest =>
    obtain ⟨rfl, hq, ho⟩ := hcut
    go_wp2
    go_cut [10] (fun h wx => h = .bool has ∧ Quiet w wx ∧ Own3 w wx 4 oa ob oc os ot)
    case first =>
      have r1 := r.quiet hq
      have cg := r1.blk.cell 0
      simp only [List.getElem?_cons_zero] at cg
      rw [unhide hNH] at cg
      have co := ho.o.cell 1
      simp only [List.getElem?_cons_zero, List.getElem?_cons_succ] at co
      rcases unhide hhasH with ⟨rfl, i, t, rfl, ht, hx⟩ | ⟨rfl, rfl | ⟨i, t, rfl, ht, hx⟩⟩
      · have hc := (r1.get i t ht).1
        rw [hx] at hc
        have e1 : ((i + 1 : Nat) : Int) = (i : Int) + 1 := by omega
        have e2 : (i : Int) + 1 - 1 = (i : Int) := by omega
        have g1 : (0 : Int) < (i : Int) + 1 := by omega
        have g2 : (0 : Int) ≤ (i : Int) := by omega
        have g3 : (i : Int) < (N : Int) := by omega
        clear hx ht
        go_big_quiet (fail)
        go_wp2
        go_meet
        case rel => exact ⟨rfl, hq.drewN _, ho.drewN _⟩
      · go_big_quiet (fail)
        go_wp2
        go_meet
        case rel => exact ⟨rfl, hq.drewN _, ho.drewN _⟩
      · have hc := (r1.get i t ht).1
        have e1 : ((i + 1 : Nat) : Int) = (i : Int) + 1 := by omega
        have e2 : (i : Int) + 1 - 1 = (i : Int) := by omega
        have g1 : (0 : Int) < (i : Int) + 1 := by omega
        have g2 : (0 : Int) ≤ (i : Int) := by omega
        have g3 : (i : Int) < (N : Int) := by omega
        have g4 : (t.1 == oa) = false := by simpa using hx
        generalize t.1 = tk at *
        clear hx ht
        go_big_quiet (fail)
        go_wp2
        go_meet
        case rel => exact ⟨rfl, hq.drewN _, ho.drewN _⟩
    case rest =>
      clear hq ho
      obtain ⟨rfl, hq, ho⟩ := hcut
      have hno := unhide hnoH
      have hJi := unhide hJiH
      have hti := unhide htiH
      have yo0 := ho.o.cell 0
      have yo1 := ho.o.cell 1
      have yo2 := ho.o.cell 2
      simp only [List.getElem?_cons_zero, List.getElem?_cons_succ] at yo0 yo1 yo2
      have r1 := r.quiet hq
      have cg0 := r1.blk.cell 0
      have cg1 := r1.blk.cell 1
      have cg2 := r1.blk.cell 2
      simp only [List.getElem?_cons_zero, List.getElem?_cons_succ] at cg0 cg1 cg2
      rw [unhide hNH] at cg0 cg1 cg2
      have lg := r.blk.lt
      have la : a < w.heap.size := by obtain ⟨_, _, h⟩ := r.ks; exact h.lt
      have lb : b < w.heap.size := by obtain ⟨_, _, h⟩ := r.hs; exact h.lt
      have lv : v < w.heap.size := by obtain ⟨_, _, h⟩ := r.vs; exact h.lt
      have m1 : g ≠ w.heap.size + 1 + 1 := by omega
      have m2 : a ≠ w.heap.size + 1 + 1 := by omega
      have m3 : b ≠ w.heap.size + 1 + 1 := by omega
      have m4 : v ≠ w.heap.size + 1 + 1 := by omega
      have m5 := Ne.symm m1
      have m6 := Ne.symm m2
      have m7 := Ne.symm m3
      have m8 := Ne.symm m4
      subst hJi
      have hti1 := (r1.get i t hti).1
      have hti3 := (r1.get i t hti).2.2
      have e1 : ((i + 1 : Nat) : Int) = (i : Int) + 1 := by omega
      have e2 : (i : Int) + 1 - 1 = (i : Int) := by omega
      have x1 : (0 : Int) < (i : Int) + 1 := by omega
      have x2 : (0 : Int) ≤ (i : Int) := by omega
      have x3 : (i : Int) < (N : Int) := by omega
      have e4 : IntKind.i64.wrap ((i : Int) + 1 - 1) = (i : Int) := by rw [IntKind.wrap_i64]; omega
      have e5 : IntKind.i64.wrap (i : Int) = (i : Int) := by rw [IntKind.wrap_i64]; omega
      clear hti
      subst hno
      have gm := r1.gm
      have chw : Chg (gown g a b v) w wc := Quiet.chg hq _
      clear r1 cg0 cg1 cg2 hti1 hti3 yo1 yo2
      go_wp2
      refine wp_of_blind ?_
      refine del_r26 w g a b v ts p oa ob oc os ot i N hNH (by omega) hl lg la lb lv _ chw ho gm _ _ _ _ _ _ _ _ _ _ _ _ _ _ _ _ _ _ _ _ _ _ _ _ _ _ _ _ _ _ _ _ _ _ _ _ _ _ _ _ _ _ _ _ _ _ _ _ _ _ _ _ _ _ _ _ _ _ _ _ _ _ _ _ _ _ _ _ _ _ _ _ _ _ _ _ _ _ _ _ _ _ _ _ _ _ _ _ _ _ _ _ _ _ _ _ _ _ _ _ _ _ _ _ _ _ _ _ _ _ _ _ _ _ _ _ _ _ _ _ _ _ _ _ _ _ _ _ _ _ _ _ _ _ _ _ _ _ _ _ _ _ _ _ _ _ _ _ _ _ _ _ _ _ _ _ _ _ _ _ _ _ _ _ _ _ _ _ _ _ _ _ _ _ _ _ _ _ _ _ _ _ _ _ _ _ _ _ _ _ _ _ _ _ _ _ _ _ _ _ _ _ _ _ _ _ _ _ _ _ _ _ _ _ _ _ _ _ _ _ _ _ _ _ _ _ _ _ _ _ _ _ _ _ _ _ _ _ _ _ _ _ _ _ _ _ _ _ _ _ _ _ _ _ _ _ _ _ _ _ _ _ _ _ _ _ _ _ _ _ _ _ _ _ _ _ _ (hide ?_)
      intro x162 x163 x164 x165 x166 x167 x168 x169 x170 x171 x172 x173 x174 x175 x176 x177 x178 wx hx
      clear chw ho gm
      obtain ⟨chw, ho, gm⟩ := hx
      dsimp only
      go_wp2
      refine wp_of_blind ?_
      refine del_r27 w g a b v ts p oa ob oc os ot i N hNH (by omega) hl lg la lb lv _ chw ho gm _ _ _ _ _ _ _ _ _ _ _ _ _ _ _ _ _ _ _ _ _ _ _ _ _ _ _ _ _ _ _ _ _ _ _ _ _ _ _ _ _ _ _ _ _ _ _ _ _ _ _ _ _ _ _ _ _ _ _ _ _ _ _ _ _ _ _ _ _ _ _ _ _ _ _ _ _ _ _ _ _ _ _ _ _ _ _ _ _ _ _ _ _ _ _ _ _ _ _ _ _ _ _ _ _ _ _ _ _ _ _ _ _ _ _ _ _ _ _ _ _ _ _ _ _ _ _ _ _ _ _ _ _ _ _ _ _ _ _ _ _ _ _ _ _ _ _ _ _ _ _ _ _ _ _ _ _ _ _ _ _ _ _ _ _ _ _ _ _ _ _ _ _ _ _ _ _ _ _ _ _ _ _ _ _ _ _ _ _ _ _ _ _ _ _ _ _ _ _ _ _ _ _ _ _ _ _ _ _ _ _ _ _ _ _ _ _ _ _ _ _ _ _ _ _ _ _ _ _ _ _ _ _ _ _ _ _ _ _ _ _ _ _ _ _ _ _ _ _ _ _ _ _ _ _ _ _ _ _ _ _ _ _ _ _ _ _ _ _ _ _ _ _ _ _ _ _ (hide ?_)
      intro x179 x180 x181 x182 x183 x184 x185 x186 x187 x188 x189 x190 x191 x192 x193 x194 x195 wx hx
      clear chw ho gm
      obtain ⟨chw, ho, gm⟩ := hx
      dsimp only
      go_wp2
      refine wp_of_blind ?_
      refine del_r28 w g a b v ts p oa ob oc os ot i N hNH (by omega) hl lg la lb lv _ chw ho gm _ _ _ _ _ _ _ _ _ _ _ _ _ _ _ _ _ _ _ _ _ _ _ _ _ _ _ _ _ _ _ _ _ _ _ _ _ _ _ _ _ _ _ _ _ _ _ _ _ _ _ _ _ _ _ _ _ _ _ _ _ _ _ _ _ _ _ _ _ _ _ _ _ _ _ _ _ _ _ _ _ _ _ _ _ _ _ _ _ _ _ _ _ _ _ _ _ _ _ _ _ _ _ _ _ _ _ _ _ _ _ _ _ _ _ _ _ _ _ _ _ _ _ _ _ _ _ _ _ _ _ _ _ _ _ _ _ _ _ _ _ _ _ _ _ _ _ _ _ _ _ _ _ _ _ _ _ _ _ _ _ _ _ _ _ _ _ _ _ _ _ _ _ _ _ _ _ _ _ _ _ _ _ _ _ _ _ _ _ _ _ _ _ _ _ _ _ _ _ _ _ _ _ _ _ _ _ _ _ _ _ _ _ _ _ _ _ _ _ _ _ _ _ _ _ _ _ _ _ _ _ _ _ _ _ _ _ _ _ _ _ _ _ _ _ _ _ _ _ _ _ _ _ _ _ _ _ _ _ _ _ _ _ _ _ _ _ _ _ _ _ _ _ _ _ _ _ (hide ?_)
      intro x196 x197 x198 x199 x200 x201 x202 x203 x204 x205 x206 x207 x208 x209 x210 x211 x212 wx hx
      clear chw ho gm
      obtain ⟨chw, ho, gm⟩ := hx
      dsimp only
      clear yo0
      have zo0 := ho.o.cell 0
      have zo1 := ho.o.cell 1
      have zo2 := ho.o.cell 2
      have zo4 := ho.o.cell 4
      have zw0 := ho.w.cell 0
      have zw1 := ho.w.cell 1
      have zw2 := ho.w.cell 2
      have zw3 := ho.w.cell 3
      have zr0 := ho.r.cell 0
      have zr1 := ho.r.cell 1
      have zr2 := ho.r.cell 2
      have zr3 := ho.r.cell 3
      simp only [List.getElem?_cons_zero, List.getElem?_cons_succ] at zo0 zo1 zo2 zo4 zw0 zw1 zw2 zw3 zr0 zr1 zr2 zr3
      have fw0 := ho.w.frozen 0
      have fw1 := ho.w.frozen 1
      have fw2 := ho.w.frozen 2
      have fw3 := ho.w.frozen 3
      have fr0 := ho.r.frozen 0
      have fr1 := ho.r.frozen 1
      have fr2 := ho.r.frozen 2
      have fr3 := ho.r.frozen 3
      have nw : w.heap.size + 1 ≠ w.heap.size + 2 := by omega
      have nw' : w.heap.size + 2 ≠ w.heap.size + 1 := by omega
      go_wp2
      have hgh : Gh wx g a b v (ts.eraseIdx i) p := gm.gh (map_erase _ _ _) (map_erase _ _ _) (map_erase _ _ _)
      exact bodyPost_ret (v := .tuple #[ansv 0 0 0 ⟨#[]⟩, .string p]) (results_blk_tmp (u := 63) (cs := [.int .i64 0, .int .i64 0, .int .i64 0, .string ⟨#[]⟩]) Try.results31 rfl Try.isAgg63 Try.sizeOf63 ((((ho.r.set 0 _).set 1 _).set 2 _).set 3 _)) rfl ⟨rfl, ((((chw.setCell (.inr (by dsimp only; omega)) _).setCell (.inr (by dsimp only; omega)) _).setCell (.inr (by dsimp only; omega)) _).setCell (.inr (by dsimp only; omega)) _), (hgh.of_chg (S := fun k => w.heap.size ≤ k) (((((Chg.refl _ _).setCell (.inl (by dsimp only; omega)) _).setCell (.inl (by dsimp only; omega)) _).setCell (.inl (by dsimp only; omega)) _).setCell (.inl (by dsimp only; omega)) _) (by rintro x (rfl | rfl | rfl | rfl) h <;> omega))⟩

set_option maxRecDepth 100000 in
set_option maxHeartbeats 16000000 in
theorem owed_del_none (w : World) (g a b v : Nat) (ts : List K3) (p : ByteArray) (r : Gh w g a b v ts p) (J : Nat) (oa : Int) (hct : Cut ts oa J) (ob oc : Int) (os ot : ByteArray) (has : Bool) (hhas : HasAt ts oa J has) (hno : has = false) :
    Calls Try.prog 31 #[ptr g, opv 4 oa ob oc os ot, .string p] w fun e w' => e = .returned (.tuple #[ansv 3 0 0 ⟨#[]⟩, .string p]) ∧ Chg (gown g a b v) w w' ∧ Gh w' g a b v ts p := by
  have hhasH := hide hhas
  clear hhas
  have hnoH := hide hno
  clear hno
  unfold ptr opv
  have hl := r.len
  have hJ := hct.le
  generalize hN : ts.length = N at hl hJ
  have hNH := hide hN
  clear hN
  have ow := own3_new w 4 oa ob oc os ot
  have q0 : Quiet w (((w.alloc (.cells #[.int .i64 4, .int .i64 oa, .int .i64 ob, .int .i64 oc, .string os, .string ot] 44)).alloc (.cells #[.int .i64 0, .int .i64 0, .int .i64 0, .string ⟨#[]⟩] 63)).alloc (.cells #[.int .i64 0, .int .i64 0, .int .i64 0, .string ⟨#[]⟩] 63)) := (((Chg.refl _ _).alloc _).alloc _).alloc _
  have owH := hide ow
  have q0H := hide q0
  clear ow q0
  go_enter Try.func31, Try.ntmps31
  go_upto_block 0 with fail
  go_cut [9] (fun i wx => i = .int .i64 J ∧ Quiet w wx ∧ Own3 w wx 4 oa ob oc os ot)
  case first =>
    go_wp2
    go_loopg [9] 13 (fun gg i wr => ∃ j : Nat, j ≤ J ∧ gg = 13 - j ∧ i = .int .i64 j ∧ Quiet w wr ∧ Own3 w wr 4 oa ob oc os ot)
    case atStart => exact ⟨0, Nat.zero_le _, rfl, rfl, unhide q0H, unhide owH⟩
    case round =>
      obtain ⟨j, hj, hg, rfl, hq, ho⟩ := hrel
      have hgH := hide hg
      clear hg
      have r1 := r.quiet hq
      have cg := r1.blk.cell 0
      simp only [List.getElem?_cons_zero] at cg
      rw [unhide hNH] at cg
      have co := ho.o.cell 1
      simp only [List.getElem?_cons_zero, List.getElem?_cons_succ] at co
      by_cases hjN : j < N
      · have hjl : j < ts.length := by rw [unhide hNH]; exact hjN
        have hc := (r1.get j ts[j] (List.getElem?_eq_getElem hjl)).1
        have g1 : decide (j < N) = true := by simpa using hjN
        have g2 : (j : Int) < (N : Int) := by omega
        have g3 : (0 : Int) ≤ (j : Int) := by omega
        by_cases hjJ : j < J
        · have hle : ts[j].1 ≤ oa := hct.lo j hjl hjJ
          generalize ts[j].1 = tk at *
          go_wp2
          go_big_quiet (fail)
          go_wp2
          go_roundg (13 - (j + 1))
          case measure => have := unhide hgH; omega
          case rel => exact ⟨j + 1, by omega, rfl, by go_num, hq.drewN _, ho.drewN _⟩
        · have hgt : oa < ts[j].1 := hct.hi j hjl (by omega)
          generalize ts[j].1 = tk at *
          go_wp2
          go_big_quiet (fail)
          go_wp2
          go_meet
          case rel => exact ⟨by rw [show j = J by omega], hq.drewN _, ho.drewN _⟩
      · have g1 : decide (j < N) = false := by simpa using hjN
        have g2 : ¬ (j : Int) < (N : Int) := by omega
        go_wp2
        go_big_quiet (fail)
        go_wp2
        go_meet
        case rel => exact ⟨by rw [show j = J by omega], hq.drewN _, ho.drewN _⟩
  case rest =>
    obtain ⟨rfl, hq, ho⟩ := hcut
    go_wp2
    go_cut [10] (fun h wx => h = .bool has ∧ Quiet w wx ∧ Own3 w wx 4 oa ob oc os ot)
    case first =>
      have r1 := r.quiet hq
      have cg := r1.blk.cell 0
      simp only [List.getElem?_cons_zero] at cg
      rw [unhide hNH] at cg
      have co := ho.o.cell 1
      simp only [List.getElem?_cons_zero, List.getElem?_cons_succ] at co
      rcases unhide hhasH with ⟨rfl, i, t, rfl, ht, hx⟩ | ⟨rfl, rfl | ⟨i, t, rfl, ht, hx⟩⟩
      · have hc := (r1.get i t ht).1
        rw [hx] at hc
        have e1 : ((i + 1 : Nat) : Int) = (i : Int) + 1 := by omega
        have e2 : (i : Int) + 1 - 1 = (i : Int) := by omega
        have g1 : (0 : Int) < (i : Int) + 1 := by omega
        have g2 : (0 : Int) ≤ (i : Int) := by omega
        have g3 : (i : Int) < (N : Int) := by omega
        clear hx ht
        go_big_quiet (fail)
        go_wp2
        go_meet
        case rel => exact ⟨rfl, hq.drewN _, ho.drewN _⟩
      · go_big_quiet (fail)
        go_wp2
        go_meet
        case rel => exact ⟨rfl, hq.drewN _, ho.drewN _⟩
      · have hc := (r1.get i t ht).1
        have e1 : ((i + 1 : Nat) : Int) = (i : Int) + 1 := by omega
        have e2 : (i : Int) + 1 - 1 = (i : Int) := by omega
        have g1 : (0 : Int) < (i : Int) + 1 := by omega
        have g2 : (0 : Int) ≤ (i : Int) := by omega
        have g3 : (i : Int) < (N : Int) := by omega
        have g4 : (t.1 == oa) = false := by simpa using hx
        generalize t.1 = tk at *
        clear hx ht
        go_big_quiet (fail)
        go_wp2
        go_meet
        case rel => exact ⟨rfl, hq.drewN _, ho.drewN _⟩
    case rest =>
      clear hq ho
      obtain ⟨rfl, hq, ho⟩ := hcut
      have hno := unhide hnoH
      have zo0 := ho.o.cell 0
      have zo1 := ho.o.cell 1
      have zo2 := ho.o.cell 2
      have zo4 := ho.o.cell 4
      have zw0 := ho.w.cell 0
      have zw1 := ho.w.cell 1
      have zw2 := ho.w.cell 2
      have zw3 := ho.w.cell 3
      have zr0 := ho.r.cell 0
      have zr1 := ho.r.cell 1
      have zr2 := ho.r.cell 2
      have zr3 := ho.r.cell 3
      simp only [List.getElem?_cons_zero, List.getElem?_cons_succ] at zo0 zo1 zo2 zo4 zw0 zw1 zw2 zw3 zr0 zr1 zr2 zr3
      have fw0 := ho.w.frozen 0
      have fw1 := ho.w.frozen 1
      have fw2 := ho.w.frozen 2
      have fw3 := ho.w.frozen 3
      have fr0 := ho.r.frozen 0
      have fr1 := ho.r.frozen 1
      have fr2 := ho.r.frozen 2
      have fr3 := ho.r.frozen 3
      have nw : w.heap.size + 1 ≠ w.heap.size + 2 := by omega
      have nw' : w.heap.size + 2 ≠ w.heap.size + 1 := by omega
      subst hno
      go_wp2
      exact bodyPost_ret (v := .tuple #[ansv 3 0 0 ⟨#[]⟩, .string p]) (results_blk_tmp (u := 63) (cs := [.int .i64 3, .int .i64 0, .int .i64 0, .string ⟨#[]⟩]) Try.results31 rfl Try.isAgg63 Try.sizeOf63 ((((ho.r.set 0 _).set 1 _).set 2 _).set 3 _)) rfl ⟨rfl, (((((Quiet.chg hq _).setCell (.inr (by dsimp only; omega)) _).setCell (.inr (by dsimp only; omega)) _).setCell (.inr (by dsimp only; omega)) _).setCell (.inr (by dsimp only; omega)) _), (r.quiet (show Quiet w _ from ((((hq.setCell (.inr (by dsimp only; omega)) _).setCell (.inr (by dsimp only; omega)) _).setCell (.inr (by dsimp only; omega)) _).setCell (.inr (by dsimp only; omega)) _)))⟩
end Go.Proofs.Qxb6500361a
