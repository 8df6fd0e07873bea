/-
  The node's Check: true under the invariant.
-/
import Derived.Test.Qxb6500367aLaw
namespace Go.Proofs.Qxb6500367a
open Go.RowKit Go.Qx
set_option linter.unusedSimpArgs false
set_option linter.unusedVariables false

def cntTo (g : List Bool) (k : Nat) : Int := cntP (g.take k)

theorem cntTo_succ (g : List Bool) (k : Nat) (hk : k < g.length) : cntTo g (k + 1) = cntTo g k + if g[k] then 1 else 0 := by
  unfold cntTo cntP
  rw [List.take_succ_eq_append_getElem hk, List.countP_append]
  cases g[k] <;> simp

theorem cntTo_bound (g : List Bool) (k : Nat) : 0 ≤ cntTo g k ∧ cntTo g k ≤ k := by
  unfold cntTo cntP
  have := List.countP_le_length (p := fun b => b) (l := g.take k)
  rw [List.length_take] at this
  omega

set_option maxRecDepth 100000 in
set_option maxHeartbeats 4000000 in
theorem check_any (w : World) (x a b : Nat) (s : Nd) (r : Rep w x a b s) (h : Inv s) : Calls Try.prog 47 #[ptr x] w fun e w' => e = .returned (.bool true) ∧ Quiet w w' := by
  obtain ⟨c0, c1, c2, c3, c4, c5, c6, c7⟩ := r.cells
  have hn1 := r.n1
  have hn4 := r.n4
  have hil := r.il
  have hc0 := h.c0
  have hc1 := h.c1
  have hql := r.ql
  have i1 : (1 : Int) ≤ (s.n : Int) := by omega
  have i2 : (s.n : Int) ≤ 4 := by omega
  have i3 : (0 : Int) ≤ (s.id : Int) := by omega
  have i4 : (s.id : Int) < (s.n : Int) := by omega
  have i5 : (s.q.length : Int) ≤ (s.n : Int) := by omega
  have p0 : (0 : Int) ≤ s.phase := by rcases h.ph with e | e | e <;> omega
  have p1 : s.phase ≤ 2 := by rcases h.ph with e | e | e <;> omega
  have n1 : ((s.n : Int) == (s.n : Int)) = true := by simp
  have n2 : ((s.n : Int) != (s.n : Int)) = false := by simp
  have d1 : decide ((s.n : Int) < 1) = false := by simp; omega
  have d2 : decide (4 < (s.n : Int)) = false := by simp; omega
  have d3 : decide ((s.id : Int) < 0) = false := by simp
  have d4 : decide ((s.n : Int) ≤ (s.id : Int)) = false := by simp; omega
  have d5 : decide ((s.n : Int) < (s.q.length : Int)) = false := by simp; omega
  unfold ptr
  go_enter Try.func47, Try.ntmps47
  go_wp2
  go_big_quiet (fail)
  go_wp2
  go_big_quiet (fail)
  go_wp2
  have hNl : Hid (s.q.length = s.q.length) := rfl
  generalize hN : s.q.length = N at *
  have hNH := hide hN
  clear hN hNl
  go_loopw [91] (fun i wr => ∃ k : Nat, k ≤ N ∧ i = .int .i64 k ∧ Quiet w wr) (fun i _ => 5 - (intOf i).toNat)
  case atStart => exact ⟨0, Nat.zero_le _, rfl, (Chg.refl _ _).drewN _⟩
  case round =>
    obtain ⟨k, hk, rfl, hq⟩ := hrel
    clear c0 c1 c2 c3 c4 c5 c6 c7
    have r1 := r.quiet hq
    obtain ⟨c0, c1, c2, c3, c4, c5, c6, c7⟩ := r1.cells
    have hNN := unhide hNH
    rw [hNN] at c5
    have k0 : (0 : Int) ≤ (k : Int) := by omega
    by_cases hlt : k < N
    · have hkl : k < s.q.length := by omega
      have k1 : (k : Int) < (N : Int) := by omega
      have hg := r1.get k s.q[k] (List.getElem?_eq_getElem hkl)
      have hu := h.rng s.q[k] (List.getElem_mem hkl)
      have hprev : ∀ j, j < k → ∃ vt vi, vi ≠ s.q[k].2 ∧ beforeP (vt, vi) s.q[k] = true ∧ ∀ V, Quiet w V → V.cell? ⟨a, j * 2, none⟩ = some (.int .i64 vt) ∧ V.cell? ⟨a, j * 2 + 1, none⟩ = some (.int .i64 vi) := by
        intro j hj
        have hjl : j < s.q.length := by omega
        exact ⟨s.q[j].1, s.q[j].2, List.pairwise_iff_getElem.1 h.ids j k hjl hkl hj, List.pairwise_iff_getElem.1 h.sorted j k hjl hkl hj, fun V qV => (r.quiet qV).get j s.q[j] (List.getElem?_eq_getElem hjl)⟩
      generalize s.q[k] = u at *
      obtain ⟨ut, ui⟩ := u
      obtain ⟨g1, g2⟩ := hg
      obtain ⟨u0, u1, u2, u3⟩ := hu
      simp only at g1 g2 u0 u1 u2 u3 hprev
      have e1 : decide (ui < 0) = false := by simp; omega
      have e2 : decide ((s.n : Int) ≤ ui) = false := by simp; omega
      have e3 : decide (ut < 1) = false := by simp; omega
      have e4 : decide (s.clock < ut) = false := by simp; omega
      have hprevH := hide hprev
      clear hprev hNN d1 d2 d3 d4 d5
      have bH := Blk.new wr 91 [.int .i64 ut, .int .i64 ui]
      have rA := r1.quiet ((Chg.refl _ wr).alloc (.cells #[.int .i64 ut, .int .i64 ui] 91))
      have qA : Quiet w (wr.alloc (.cells #[.int .i64 ut, .int .i64 ui] 91)) := hq.alloc _
      obtain ⟨k0', k1', k2', k3', k4', k5', k6', k7'⟩ := rA.cells
      rw [unhide hNH] at k5'
      go_wp2
      clear c0 c1 c2 c3 c4 c5 c6 c7 g1 g2
      generalize wr.alloc (.cells #[.int .i64 ut, .int .i64 ui] 91) = wa at *
      have m0 := bH.cell 0
      have m1 := bH.cell 1
      simp at m0 m1
      generalize wr.heap.size = H at *
      go_big_quiet (fail)
      have bH1 := bH.drewN nq
      have qB := qA.drewN nq
      have rB := rA.quiet ((Chg.refl _ _).drewN nq)
      clear k0' k1' k2' k3' k4' k5' k6' k7' m0 m1 bH rA
      generalize wa.drewN nq = wb at *
      obtain ⟨k0', k1', k2', k3', k4', k5', k6', k7'⟩ := rB.cells
      rw [unhide hNH] at k5'
      have m0 := bH1.cell 0
      have m1 := bH1.cell 1
      simp at m0 m1
      cases k with
      | zero =>
        go_wp2
        go_big_quiet (fail)
        have bC := bH1.drewN nq
        have qC : Quiet w (wb.drewN nq) := qB.drewN nq
        clear k0' k1' k2' k3' k4' k5' k6' k7' m0 m1 bH1 rB
        generalize wb.drewN nq = wc at *
        go_wp2
        go_loopw [138] (fun i wr2 => ∃ j : Nat, j ≤ 0 ∧ i = .int .i64 j ∧ Quiet w wr2) (fun i _ => 5 - (intOf i).toNat)
        case atStart => exact ⟨0, Nat.zero_le _, rfl, qC⟩
        case round =>
          obtain ⟨j, hj, rfl, qj⟩ := hrel
          obtain rfl : j = 0 := by omega
          go_wp2
          go_roundw
          case rel => exact ⟨1, by omega, rfl, qj⟩
          case measure => simp [intOf]
      | succ kk =>
        obtain ⟨vt, vi, v1, v2, v3⟩ := unhide hprevH kk (by omega)
        obtain ⟨v4, v5⟩ := v3 _ qB
        have e0 : ((kk + 1 : Nat) : Int) = (kk : Int) + 1 := by omega
        rw [e0] at *
        have mw : IntKind.i64.wrap (kk : Int) = kk := by rw [IntKind.wrap_i64]; omega
        have mw1 : IntKind.i64.wrap ((kk : Int) + 1 - 1) = kk := by rw [IntKind.wrap_i64]; omega
        have mi0 : (0 : Int) ≤ (kk : Int) := by omega
        have mi1 : (kk : Int) < (N : Int) := by omega
        have mi2 : (0 : Int) < (kk : Int) + 1 := by omega
        have hbf := fun W => before_any W vt vi ut ui
        rw [v2] at hbf
        clear v1 v2
        go_wp2
        go_region_held3 (fun w' => w'.cell? ⟨H, 0, none⟩ = some (.int .i64 ut) ∧ w'.cell? ⟨H, 1, none⟩ = some (.int .i64 ui) ∧ w'.cell? ⟨x, 5, none⟩ = some (.slice (some ⟨a, 0, none⟩) N s.n) ∧ w'.cell? ⟨a, kk * 2, none⟩ = some (.int .i64 vt) ∧ w'.cell? ⟨a, kk * 2 + 1, none⟩ = some (.int .i64 vi)) (first | exact ⟨Quiet.cell hq2 m0, Quiet.cell hq2 m1, Quiet.cell hq2 k5', Quiet.cell hq2 v4, Quiet.cell hq2 v5⟩ | go_keep) (first | (go_at_call 56; refine (hbf _).mono ?_; rintro e w2 ⟨rfl, hq2⟩))
        rename_i hHeld
        clear hHeld
        have bC : Blk w2 H 91 [.int .i64 ut, .int .i64 ui] := hq2.blk bH1.drew
        have qC : Quiet w w2 := Quiet.trans (Chg.drew qB) hq2
        clear k0' k1' k2' k3' k4' k5' k6' k7' m0 m1 bH1 rB v3 v4 v5 hbf hq2
        go_wp2
        go_loopw [138] (fun i wr2 => ∃ j : Nat, j ≤ kk + 1 ∧ i = .int .i64 j ∧ Quiet w wr2 ∧ Blk wr2 H 91 [.int .i64 ut, .int .i64 ui]) (fun i _ => 5 - (intOf i).toNat)
        case atStart => exact ⟨0, Nat.zero_le _, rfl, qC, bC⟩
        case round =>
          obtain ⟨j, hj, rfl, qj, bj⟩ := hrel
          have rj := r.quiet qj
          obtain ⟨_, _, _, _, _, k5', _, _⟩ := rj.cells
          rw [unhide hNH] at k5'
          have m1 := bj.cell 1
          simp at m1
          have j0 : (0 : Int) ≤ (j : Int) := by omega
          by_cases hjk : j < kk + 1
          · obtain ⟨vt, vi, v1, v2, v3⟩ := unhide hprevH j hjk
            obtain ⟨v4, v5⟩ := v3 _ qj
            have v6 : (vi == ui) = false := by simpa using v1
            have j1 : (j : Int) < (kk : Int) + 1 := by omega
            have j2 : (j : Int) < (N : Int) := by omega
            clear v1 v2 v3
            go_wp2
            go_big_quiet (fail)
            go_wp2
            go_roundw
            case rel => exact ⟨j + 1, by omega, by go_num, qj.drewN _, bj.drewN _⟩
            case measure => simp [intOf]; omega
          · have j1 : ¬ (j : Int) < (kk : Int) + 1 := by omega
            go_wp2
            go_roundw
            case rel => first | exact ⟨kk + 1 + 1, by omega, by go_num, qj⟩ | exact ⟨_, _, _, _, _, ⟨kk + 1 + 1, by omega, by go_num⟩, rfl, rfl, rfl, rfl, rfl⟩
            case measure => simp [intOf]; omega

    · have r1 : Rep wr x a b s := r.quiet hq
      have hq0 := hide hq
      clear hq hNN
      have j1 : ¬ (k : Int) < (N : Int) := by omega
      have hgl := r.gl
      have hcn : Hid (cntTo s.got s.n = s.acks) := by show _ = _; unfold cntTo; rw [List.take_of_length_le (by omega), h.cnt]
      have hgi := r1.gots s.id hil
      have hgid := h.gid
      rw [hgid] at hgi
      clear hgid
      go_wp2
      go_loopw [6, 158] (fun v i wr2 => ∃ j : Nat, j ≤ s.n ∧ i = .int .i64 j ∧ v = .int .i64 (cntTo s.got j) ∧ wr2 = wr) (fun _ i _ => 5 - (intOf i).toNat)
      case atStart => exact ⟨0, Nat.zero_le _, rfl, rfl, rfl⟩
      case round =>
        obtain ⟨j, hj, rfl, rfl, rfl⟩ := hrel
        have j0 : (0 : Int) ≤ (j : Int) := by omega
        have hcb := cntTo_bound s.got j
        by_cases hjn : j < s.n
        · have j2 : (j : Int) < (s.n : Int) := by omega
          have hg := r1.gots j hjn
          have hst := cntTo_succ s.got j (by omega)
          rw [List.getD_eq_getElem?_getD, List.getElem?_eq_getElem (by omega), Option.getD_some] at hg
          have hstH := hide hst
          clear hst
          cases hb : s.got[j] with
          | true =>
            rw [hb] at hg hstH
            clear hb
            go_wp2
            go_roundw
            case rel => exact ⟨j + 1, by omega, by go_num, by rw [unhide hstH]; simp⟩
            case measure => simp [intOf]; omega
          | false =>
            rw [hb] at hg hstH
            clear hb
            go_wp2
            go_roundw
            case rel => exact ⟨j + 1, by omega, by go_num, by rw [unhide hstH]; simp⟩
            case measure => simp [intOf]; omega
        · have j2 : ¬ (j : Int) < (s.n : Int) := by omega
          have hcj : (cntTo s.got j == s.acks) = true := by
            rw [beq_iff_eq, ← unhide hcn, show j = s.n by omega]
          have hcj2 : (cntTo s.got j != s.acks) = false := by rw [bne, hcj]; rfl
          generalize cntTo s.got j = cj at *
          go_wp2
          go_big_quiet (fail)
          have rz := r1.quiet ((Chg.refl _ _).drewN nq)
          have qz : Quiet w (wr.drewN nq) := (unhide hq0).drewN nq
          clear c0 c1 c2 c3 c4 c5 c6 c7 hgi
          generalize wr.drewN nq = wz at *
          obtain ⟨c0, c1, c2, c3, c4, c5, c6, c7⟩ := rz.cells
          have hhe := held_any wz x a b s rz s.id
          rw [← h.mine] at hhe
          unfold ptr at hhe
          have mm : (s.mine == s.mine) = true := by simp
          have mm2 : (s.mine != s.mine) = false := by simp
          go_wp2_with fail
          refine hhe.mono ?_
          rintro e wy ⟨rfl, qy⟩
          have ry := rz.quiet qy
          have qwy : Quiet w wy := Quiet.trans qz qy
          clear c0 c1 c2 c3 c4 c5 c6 c7 hhe
          obtain ⟨c0, c1, c2, c3, c4, c5, c6, c7⟩ := ry.cells
          go_wp2
          have hhd := fun V (qV : Quiet wy V) => head_any V x a b s (ry.quiet qV)
          unfold ptr at hhd
          have hw1 : IntKind.i64.wrap ((s.n : Int) - 1) = (s.n : Int) - 1 := by rw [IntKind.wrap_i64]; omega
          have hcase : ((s.phase == 0) = true ∧ (s.mine == 0) = true ∧ (s.acks != 0) = false ∧ (s.phase == 2) = false ∧ (s.phase == 1) = false)
            ∨ ((s.phase == 0) = false ∧ (s.mine == 0) = false ∧ (s.phase == 2) = false ∧ (s.phase == 1) = true ∧ (s.acks == (s.n : Int) - 1) = true ∧ (headP s.q == (s.id : Int)) = false)
            ∨ ((s.phase == 0) = false ∧ (s.mine == 0) = false ∧ (s.phase == 2) = false ∧ (s.phase == 1) = true ∧ (s.acks == (s.n : Int) - 1) = false)
            ∨ ((s.phase == 0) = false ∧ (s.mine == 0) = false ∧ (s.phase == 2) = true ∧ (s.phase == 1) = false ∧ (s.acks != (s.n : Int) - 1) = false) := by
            have z1 := h.idle
            rcases h.ph with e | e | e
            · left
              have z2 := h.idle0 e
              have z3 := z1.1 e
              simp [e, z2, z3]
            · right
              have z3 : ¬ s.mine = 0 := fun z => by have := z1.2 z; omega
              by_cases z4 : s.acks = (s.n : Int) - 1
              · left
                have z5 := h.wait e z4
                simp [e, z3, z4, z5]
              · right; left
                simp [e, z3, z4]
            · right; right; right
              have z3 : ¬ s.mine = 0 := fun z => by have := z1.2 z; omega
              have z4 := h.ins e
              simp [e, z3, z4]
          generalize headP s.q = hp at *
          have qwyH := hide qwy
          clear h r r1 rz ry qy qz qwy hcj hcj2
          rcases hcase with ⟨f1, f2, f3, f4, f5⟩ | ⟨f1, f2, f3, f4, f5, f6⟩ | ⟨f1, f2, f3, f4, f5⟩ | ⟨f1, f2, f3, f4, f5⟩
          all_goals
            go_big_quiet (fail)
            go_wp2
            go_big_quiet (fail)
            go_wp2_with fail
            refine (hhd _ ((Chg.refl _ wy).drewN _)).mono ?_
            rintro e wx ⟨rfl, qx⟩
            have x0 := Quiet.cell qx c0
            have x1 := Quiet.cell qx c1
            have x3 := Quiet.cell qx c3
            have x7 := Quiet.cell qx c7
            clear c0 c1 c2 c3 c4 c5 c6 c7 hhd
            go_wp2
            go_big_quiet (fail)
            go_wp2
            go_ret
            exact ⟨rfl, (Quiet.trans ((unhide qwyH).drewN _) qx).drewN _⟩
end Go.Proofs.Qxb6500367a
