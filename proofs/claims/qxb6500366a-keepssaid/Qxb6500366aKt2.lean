/-
  KEEPS: step at Turn and at Mirror. (gen6kt2.py)
-/
import Derived.Test.Qxb6500366aKt
namespace Go.Proofs.Qxb6500366a
open Go.RowKit Go.Qx
set_option linter.unusedVariables false
set_option linter.unusedSimpArgs false

theorem turn_law {d : Pt} (h : d = (1, 0) ∨ d = (0, 1) ∨ d = (-1, 0) ∨ d = (0, -1)) (r : Nat) (hr : r < 4) : sideP (d.1 * (quart d r).1 + d.2 * (quart d r).2) (d.1 * (quart d r).2 - d.2 * (quart d r).1) r = 1 := by
  rcases (by omega : r = 0 ∨ r = 1 ∨ r = 2 ∨ r = 3) with rfl | rfl | rfl | rfl <;> rcases h with rfl | rfl | rfl | rfl <;> decide
theorem unit_bd {d : Pt} (h : d = (1, 0) ∨ d = (0, 1) ∨ d = (-1, 0) ∨ d = (0, -1)) : -1 ≤ d.1 ∧ d.1 ≤ 1 ∧ -1 ≤ d.2 ∧ d.2 ≤ 1 := by
  rcases h with rfl | rfl | rfl | rfl <;> decide
theorem RepG.dir {w : World} {g gx gy : Nat} {tr : List Pt} {d : Pt} (h : RepG w g gx gy tr d) (q : Pt) : RepG ((w.setCell ⟨g, 2, none⟩ (.int .i64 q.1)).setCell ⟨g, 3, none⟩ (.int .i64 q.2)) g gx gy tr q := by
  have cS : Chg (fun k => k = g) w ((w.setCell ⟨g, 2, none⟩ (.int .i64 q.1)).setCell ⟨g, 3, none⟩ (.int .i64 q.2)) := ((Chg.refl (fun k => k = g) w).setCell (p := ⟨g, 2, none⟩) (.inl rfl) _).setCell (p := ⟨g, 3, none⟩) (.inl rfl) _
  obtain ⟨cs, B1, h1, h2⟩ := h.xs
  obtain ⟨ds, B2, h3, h4⟩ := h.ys
  exact ⟨(h.own.set 2 _).set 3 _, ⟨cs, cS.blk B1 (fun e => h.nx e.symm), h1, h2⟩, ⟨ds, cS.blk B2 (fun e => h.ny e.symm), h3, h4⟩, h.few, h.nx, h.ny, h.xy⟩

set_option maxRecDepth 100000 in
set_option maxHeartbeats 8000000 in
theorem step_turn (w : World) (x tb mb g gx gy : Nat) (tr : List Pt) (d : Pt) (E N M : Int) (R : ByteArray) (a b c : Int) (s t : ByteArray) (G : RepG w g gx gy tr d) (I : Inv tr d) (RX : Rep w x tb mb tr (quart d (modP a))) :
    Calls Try.prog 14 #[ptr x, ptr g, opv 2 a b c s t, ansv E N M R] w (stepPost w g gx gy tr (quart d (modP a))) := by
  have hq0 : Hid (Quiet w ((w.alloc (.cells #[.int .i64 2, .int .i64 a, .int .i64 b, .int .i64 c, .string s, .string t] 39)).alloc (.cells #[.int .i64 E, .int .i64 N, .int .i64 M, .string R] 36))) := Chg.alloc (Chg.alloc (Chg.refl (fun _ => False) w) _) _
  have bo : Hid (Blk ((w.alloc (.cells #[.int .i64 2, .int .i64 a, .int .i64 b, .int .i64 c, .string s, .string t] 39)).alloc (.cells #[.int .i64 E, .int .i64 N, .int .i64 M, .string R] 36)) w.heap.size 39 [.int .i64 2, .int .i64 a, .int .i64 b, .int .i64 c, .string s, .string t]) := (Blk.new w 39 [.int .i64 2, .int .i64 a, .int .i64 b, .int .i64 c, .string s, .string t]).alloc _
  have ba : Hid (Blk ((w.alloc (.cells #[.int .i64 2, .int .i64 a, .int .i64 b, .int .i64 c, .string s, .string t] 39)).alloc (.cells #[.int .i64 E, .int .i64 N, .int .i64 M, .string R] 36)) (w.heap.size + 1) 36 [.int .i64 E, .int .i64 N, .int .i64 M, .string R]) := by
    have h := Blk.new (w.alloc (.cells #[.int .i64 2, .int .i64 a, .int .i64 b, .int .i64 c, .string s, .string t] 39)) 36 [.int .i64 E, .int .i64 N, .int .i64 M, .string R]
    rw [show (w.alloc (.cells #[.int .i64 2, .int .i64 a, .int .i64 b, .int .i64 c, .string s, .string t] 39)).heap.size = w.heap.size + 1 by simp] at h
    exact h
  obtain ⟨W0, hW0⟩ : ∃ W, ((w.alloc (.cells #[.int .i64 2, .int .i64 a, .int .i64 b, .int .i64 c, .string s, .string t] 39)).alloc (.cells #[.int .i64 E, .int .i64 N, .int .i64 M, .string R] 36)) = W := ⟨_, rfl⟩
  rw [hW0] at hq0 bo ba
  have G0 := G.quiet (unhide hq0)
  obtain ⟨hm, hml⟩ := modP_spec a
  have hmb : -4 < a.tmod 4 ∧ a.tmod 4 < 4 := by
    have h1 := Int.lt_tmod_of_pos a (show (0 : Int) < 4 by decide)
    have h2 := Int.tmod_lt_of_pos a (show (0 : Int) < 4 by decide)
    omega
  have um1 : wrap64 (a.tmod 4 + 4) = a.tmod 4 + 4 := by unfold wrap64; omega
  have um2 : wrap64 (a.tmod 4) = a.tmod 4 := by unfold wrap64; omega
  have um3 : wrap64 ((modP a : Nat) : Int) = ((modP a : Nat) : Int) := wrap_small _ (by omega)
  have o0 := (unhide bo).cell 0
  have o1 := (unhide bo).cell 1
  have o2 := (unhide bo).cell 2
  have a0 := (unhide ba).cell 0
  have a1 := (unhide ba).cell 1
  simp at o0 o1 o2 a0 a1
  obtain ⟨g0, g1, g2, g3⟩ := G0.cells
  clear hmb
  have R0 : Rep W0 x tb mb tr (quart d (modP a)) := RX.quiet (unhide hq0)
  have ud := unit_bd I.dir
  have uq := unit_bd (dir_quart I.dir (modP a))
  have tl := turn_law I.dir (modP a) hml
  have hhd := hide (heading_any W0 x tb mb _ tr _ R0 ((inv_turn I (modP a)).dsmall))
  generalize quart d (modP a) = q at *
  have m1 := mul_abs (a := d.1) (b := q.1) (c := 1) (d := 1) ⟨ud.1, ud.2.1⟩ ⟨uq.1, uq.2.1⟩ (by decide) (by decide)
  have m2 := mul_abs (a := d.2) (b := q.2) (c := 1) (d := 1) ⟨ud.2.2.1, ud.2.2.2⟩ ⟨uq.2.2.1, uq.2.2.2⟩ (by decide) (by decide)
  have m3 := mul_abs (a := d.1) (b := q.2) (c := 1) (d := 1) ⟨ud.1, ud.2.1⟩ ⟨uq.2.2.1, uq.2.2.2⟩ (by decide) (by decide)
  have m4 := mul_abs (a := d.2) (b := q.1) (c := 1) (d := 1) ⟨ud.2.2.1, ud.2.2.2⟩ ⟨uq.1, uq.2.1⟩ (by decide) (by decide)
  obtain ⟨M1, hM1⟩ : ∃ z, d.1 * q.1 = z := ⟨_, rfl⟩
  obtain ⟨M2, hM2⟩ : ∃ z, d.2 * q.2 = z := ⟨_, rfl⟩
  obtain ⟨M3, hM3⟩ : ∃ z, d.1 * q.2 = z := ⟨_, rfl⟩
  obtain ⟨M4, hM4⟩ : ∃ z, d.2 * q.1 = z := ⟨_, rfl⟩
  rw [hM1] at m1 tl
  rw [hM2] at m2 tl
  rw [hM3] at m3 tl
  rw [hM4] at m4 tl
  obtain ⟨D, hD⟩ : ∃ z, M1 + M2 = z := ⟨_, rfl⟩
  obtain ⟨C, hC⟩ : ∃ z, M3 - M4 = z := ⟨_, rfl⟩
  rw [hD, hC] at tl
  have hsd := fun W => side_any W D C (modP a) hml (by omega) (by omega)
  rw [tl] at hsd
  generalize modP a = r at *
  have w1 : wrap64 (d.1 * q.1) = M1 := by rw [hM1]; unfold wrap64; omega
  have w2 : wrap64 (d.2 * q.2) = M2 := by rw [hM2]; unfold wrap64; omega
  have w3 : wrap64 (d.1 * q.2) = M3 := by rw [hM3]; unfold wrap64; omega
  have w4 : wrap64 (d.2 * q.1) = M4 := by rw [hM4]; unfold wrap64; omega
  have w5 : wrap64 (M1 + M2) = D := by rw [hD]; unfold wrap64; omega
  have w6 : wrap64 (M3 - M4) = C := by rw [hC]; unfold wrap64; omega
  have v1 : IntKind.i64.wrap (d.1 * q.1) = M1 := by rw [IntKind.wrap_i64, hM1]; omega
  have v2 : IntKind.i64.wrap (d.2 * q.2) = M2 := by rw [IntKind.wrap_i64, hM2]; omega
  have v3 : IntKind.i64.wrap (d.1 * q.2) = M3 := by rw [IntKind.wrap_i64, hM3]; omega
  have v4 : IntKind.i64.wrap (d.2 * q.1) = M4 := by rw [IntKind.wrap_i64, hM4]; omega
  have v5 : IntKind.i64.wrap (M1 + M2) = D := by rw [IntKind.wrap_i64, hD]; omega
  have v6 : IntKind.i64.wrap (M3 - M4) = C := by rw [IntKind.wrap_i64, hC]; omega
  have wH := hide (⟨w1, w2, w3, w4, w5, w6, v1, v2, v3, v4, v5, v6⟩ : _ ∧ _ ∧ _ ∧ _ ∧ _ ∧ _ ∧ _ ∧ _ ∧ _ ∧ _ ∧ _ ∧ _)
  have G0H := hide G0
  unfold ptr at hhd
  clear G0 G I R0 RX ud uq tl m1 m2 m3 m4 hM1 hM2 hM3 hM4 hD hC w1 w2 w3 w4 w5 w6 v1 v2 v3 v4 v5 v6 hml
  unfold ptr opv ansv ansC
  go_enter Try.func14, Try.ntmps14
  go_wp2_with fail
  refine (unhide hhd).mono ?_
  clear hhd hm um1 um2 um3 o0 o1 o2 a0 a1 g0 g1 g2 g3
  rintro e w2 ⟨rfl, q2⟩
  have G2 := (unhide G0H).quiet q2
  obtain ⟨g0, g1, g2, g3⟩ := G2.cells
  have q2H : Hid (Quiet w w2) := Quiet.trans (unhide hq0) q2
  have G2H := hide G2
  clear G2 q2
  obtain ⟨w1, w2', w3, w4, w5, w6, v1, v2, v3, v4, v5, v6⟩ := unhide wH
  go_wp2
  go_quiet ((go_at_call 38; exact Calls.quiet_of_same (hsd _)))
  clear w1 w2' w3 w4 w5 w6 v1 v2 v3 v4 v5 v6 hsd
  have f2 := (unhide G2H).own.frozen 2
  have f3 := (unhide G2H).own.frozen 3
  have fin : Hid (stepPost w g gx gy tr q (.returned (.bool true)) (((w2.drewN nq).setCell ⟨g, 2, none⟩ (.int .i64 q.1)).setCell ⟨g, 3, none⟩ (.int .i64 q.2))) := by
    have G3 := (unhide G2H).quiet ((Chg.refl _ _).drewN nq)
    refine ⟨rfl, ?_, G3.dir q⟩
    exact ((Chg.drewN (Quiet.chg (unhide q2H) (ownG g gx gy)) nq).setCell (p := ⟨g, 2, none⟩) (.inl (.inl rfl)) _).setCell (p := ⟨g, 3, none⟩) (.inl (.inl rfl)) _
  go_wp2
  go_ret
  exact unhide fin

structure MirG (w wr : World) (g gx gy : Nat) (d : Pt) (tr : List Pt) (i : Nat) : Prop where
  chg : Chg (ownG g gx gy) w wr
  own : Blk wr g 32 [.slice (some ⟨gx, 0, none⟩) tr.length 24, .slice (some ⟨gy, 0, none⟩) tr.length 24, .int .i64 d.1, .int .i64 d.2]
  xs : ∃ cs, Blk wr gx 3 cs ∧ cs.length = 24 ∧ ∀ i (h : i < tr.length), cs[i]? = some (.int .i64 tr[i].1)
  ys : ∃ cs, Blk wr gy 3 cs ∧ cs.length = 24 ∧ ∀ q, q < tr.length → cs[q]? = some (.int .i64 (mirTo tr i q).2)

theorem MirG.next {w wr : World} {g gx gy : Nat} {d : Pt} {tr : List Pt} {i : Nat} (h : MirG w wr g gx gy d tr i) (hny : g ≠ gy) (hxy : gx ≠ gy) (hi : i < tr.length) (hf : tr.length ≤ 24) (k : Nat) {y : Int} (hy : y = -(tr.getD i (0, 0)).2) : MirG w ((wr.drewN k).setCell ⟨gy, i, none⟩ (.int .i64 y)) g gx gy d tr (i + 1) := by
  obtain ⟨cs, B, hl, hr⟩ := h.ys
  obtain ⟨ds, B2, hl2, hr2⟩ := h.xs
  refine ⟨Chg.setCell (h.chg.drewN k) (p := ⟨gy, i, none⟩) (.inl (.inr (.inr rfl))) _, (h.own.drewN k).set_other (a := ⟨gy, i, none⟩) hny _, ⟨ds, (B2.drewN k).set_other (a := ⟨gy, i, none⟩) hxy _, hl2, hr2⟩, cs.set i (.int .i64 y), (B.drewN k).set _ _, by simpa using hl, ?_⟩
  intro q hq
  have u2 := hr q hq
  by_cases e : q = i
  · subst e
    rw [List.getElem?_set_self (by omega)]
    unfold mirTo
    rw [if_pos (by omega), hy]
    rfl
  · rw [List.getElem?_set_ne (by omega), u2]
    unfold mirTo
    by_cases h3 : q < i
    · rw [if_pos h3, if_pos (by omega)]
    · rw [if_neg h3, if_neg (by omega)]

set_option maxRecDepth 100000 in
set_option maxHeartbeats 8000000 in
theorem step_mirror (w : World) (x tb mb g gx gy : Nat) (tr : List Pt) (d : Pt) (E N M : Int) (R : ByteArray) (a b c : Int) (s t : ByteArray) (G : RepG w g gx gy tr d) (I : Inv tr d)  :
    Calls Try.prog 14 #[ptr x, ptr g, opv 3 a b c s t, ansv E N M R] w (stepPost w g gx gy (tr.map conjP) (conjP d)) := by
  have hq0 : Hid (Quiet w ((w.alloc (.cells #[.int .i64 3, .int .i64 a, .int .i64 b, .int .i64 c, .string s, .string t] 39)).alloc (.cells #[.int .i64 E, .int .i64 N, .int .i64 M, .string R] 36))) := Chg.alloc (Chg.alloc (Chg.refl (fun _ => False) w) _) _
  have bo : Hid (Blk ((w.alloc (.cells #[.int .i64 3, .int .i64 a, .int .i64 b, .int .i64 c, .string s, .string t] 39)).alloc (.cells #[.int .i64 E, .int .i64 N, .int .i64 M, .string R] 36)) w.heap.size 39 [.int .i64 3, .int .i64 a, .int .i64 b, .int .i64 c, .string s, .string t]) := (Blk.new w 39 [.int .i64 3, .int .i64 a, .int .i64 b, .int .i64 c, .string s, .string t]).alloc _
  have ba : Hid (Blk ((w.alloc (.cells #[.int .i64 3, .int .i64 a, .int .i64 b, .int .i64 c, .string s, .string t] 39)).alloc (.cells #[.int .i64 E, .int .i64 N, .int .i64 M, .string R] 36)) (w.heap.size + 1) 36 [.int .i64 E, .int .i64 N, .int .i64 M, .string R]) := by
    have h := Blk.new (w.alloc (.cells #[.int .i64 3, .int .i64 a, .int .i64 b, .int .i64 c, .string s, .string t] 39)) 36 [.int .i64 E, .int .i64 N, .int .i64 M, .string R]
    rw [show (w.alloc (.cells #[.int .i64 3, .int .i64 a, .int .i64 b, .int .i64 c, .string s, .string t] 39)).heap.size = w.heap.size + 1 by simp] at h
    exact h
  obtain ⟨W0, hW0⟩ : ∃ W, ((w.alloc (.cells #[.int .i64 3, .int .i64 a, .int .i64 b, .int .i64 c, .string s, .string t] 39)).alloc (.cells #[.int .i64 E, .int .i64 N, .int .i64 M, .string R] 36)) = W := ⟨_, rfl⟩
  rw [hW0] at hq0 bo ba
  have G0 := G.quiet (unhide hq0)
  obtain ⟨hm, hml⟩ := modP_spec a
  have hmb : -4 < a.tmod 4 ∧ a.tmod 4 < 4 := by
    have h1 := Int.lt_tmod_of_pos a (show (0 : Int) < 4 by decide)
    have h2 := Int.tmod_lt_of_pos a (show (0 : Int) < 4 by decide)
    omega
  have um1 : wrap64 (a.tmod 4 + 4) = a.tmod 4 + 4 := by unfold wrap64; omega
  have um2 : wrap64 (a.tmod 4) = a.tmod 4 := by unfold wrap64; omega
  have um3 : wrap64 ((modP a : Nat) : Int) = ((modP a : Nat) : Int) := wrap_small _ (by omega)
  have o0 := (unhide bo).cell 0
  have o1 := (unhide bo).cell 1
  have o2 := (unhide bo).cell 2
  have a0 := (unhide ba).cell 0
  have a1 := (unhide ba).cell 1
  simp at o0 o1 o2 a0 a1
  obtain ⟨g0, g1, g2, g3⟩ := G0.cells
  clear hmb
  have M0 : Hid (MirG w W0 g gx gy d tr 0) := by
    obtain ⟨cs, BT, hcs, hrow⟩ := G0.ys
    refine ⟨Quiet.chg (unhide hq0) _, G0.own, G0.xs, cs, BT, hcs, fun q hq => ?_⟩
    unfold mirTo
    rw [if_neg (by omega), getD_get tr q hq]; exact hrow q hq
  have smH := hide I.small
  have ud := unit_bd I.dir
  have udH := hide ud
  have fH := hide (⟨G0.nx, G0.ny, G0.xy, G0.few⟩ : _ ∧ _ ∧ _ ∧ _)
  generalize modP a = r at *
  clear G0 G I ud hml
  unfold ptr opv ansv ansC
  go_enter Try.func14, Try.ntmps14
  go_wp2
  clear g0 g1 g2 g3 o0 o1 o2 a0 a1 hm um1 um2 um3 bo ba
  go_loopw [211] (fun z wr => ∃ i : Nat, i ≤ tr.length ∧ z = .int .i64 i ∧ MirG w wr g gx gy d tr i) (fun z _ => tr.length + 1 - (intOf z).toNat)
  case atStart => exact ⟨0, by omega, rfl, unhide M0⟩
  case round =>
    clear M0
    obtain ⟨i, hi, rfl, M⟩ := hrel
    by_cases hlt : i < tr.length
    · have k1 : (i : Int) < (tr.length : Int) := by omega
      have i0 : (0 : Int) ≤ (i : Int) := by omega
      obtain ⟨cs, B, hl, hr⟩ := M.ys
      have u2 := hr i hlt
      have e2 : mirTo tr i i = tr.getD i (0, 0) := by unfold mirTo; rw [if_neg (by omega)]
      rw [e2] at u2
      have hc := (B.cell i).trans u2
      have fz := B.frozen i
      have y1 := M.own.cell 1
      simp at y1
      have few := (unhide fH).2.2.2
      have hsm := unhide smH _ (List.getElem_mem hlt)
      rw [← getD_get tr i hlt] at hsm
      obtain ⟨s1, s2, s3, s4⟩ := hsm
      obtain ⟨Y, hY⟩ : ∃ Y, (tr.getD i (0, 0)).2 = Y := ⟨_, rfl⟩
      rw [hY] at s3 s4 hc
      have wn : wrap64 (-Y) = -Y := by unfold wrap64; omega
      have wn' : IntKind.i64.wrap (-Y) = -Y := by rw [IntKind.wrap_i64]; omega
      have MN : Hid (∀ k, MirG w ((wr.drewN k).setCell ⟨gy, i, none⟩ (.int .i64 (-Y))) g gx gy d tr (i + 1)) := fun k => M.next (unhide fH).2.1 (unhide fH).2.2.1 hlt (unhide fH).2.2.2 k (by rw [hY])
      have lt5 : i + 1 < 1073741824 := by omega
      have hltH := hide hlt
      clear M B hr u2 e2 hl hi hlt few hY s1 s2 s3 s4
      have wi : wrap64 ((i : Int) + 1) = (i : Int) + 1 := wrap_small (i + 1) lt5
      clear lt5
      go_wp2
      refine wp_region_noPanic ?_
      try simp only [List.append_eq, List.cons_append, List.nil_append]
      refine wp_region_mix [(0, true), (1, true), (2, true), (3, true), (4, true), (5, true), (6, true), (7, true), (8, true), (9, true), (10, true), (11, true), (12, true), (13, true)] [14] (by kernel_rfl) (by kernel_rfl) (fun _ _ _ _ _ h => h) ?_
      simp only [pickM, pickO, List.getElem?_cons_zero, List.getElem?_cons_succ]
      repeat (first | (refine wpMix_read rfl (fun K hK => ?_)) | (refine wpMix_pure rfl (fun K hK => ?_))
              go_big_quiet_op
              first | (refine hK _ ?_; clear hK K))
      refine wpMix_nil ?_
      intro _ hw'
      obtain ⟨nq, hw''⟩ := hw'
      subst hw''
      go_wp2
      refine NoPanic.normal ?_
      go_wp2
      go_roundw
      case rel => exact ⟨i + 1, unhide hltH, by simp; try exact wi, unhide MN _⟩
      case measure =>
        have h := unhide hltH
        first
          | exact meas_plain h
          | exact meas_next h wi
    · have k1 : ¬ (i : Int) < (tr.length : Int) := by omega
      obtain rfl : i = tr.length := by omega
      obtain ⟨cs, B, hl, hr⟩ := M.ys
      obtain ⟨ds, B2, hl2, hr2⟩ := M.xs
      obtain ⟨s1, s2, s3, s4⟩ := unhide udH
      have y3 := M.own.cell 3
      have f3 := M.own.frozen 3
      simp at y3
      have wn : wrap64 (-d.2) = -d.2 := by unfold wrap64; omega
      have fin : Hid (stepPost w g gx gy (tr.map conjP) (conjP d) (.returned (.bool true)) (wr.setCell ⟨g, 3, none⟩ (.int .i64 (-d.2)))) := by
        refine ⟨rfl, M.chg.setCell (p := ⟨g, 3, none⟩) (.inl (.inl rfl)) _, ?_, ⟨ds, B2.set_other (a := ⟨g, 3, none⟩) (Ne.symm (unhide fH).1) _, hl2, ?_⟩, ⟨cs, B.set_other (a := ⟨g, 3, none⟩) (Ne.symm (unhide fH).2.1) _, hl, ?_⟩, by rw [List.length_map]; exact (unhide fH).2.2.2, (unhide fH).1, (unhide fH).2.1, (unhide fH).2.2.1⟩
        · rw [List.length_map]; exact M.own.set 3 _
        · intro q hq
          rw [List.length_map] at hq
          rw [List.getElem_map]; exact hr2 q hq
        · intro q hq
          rw [List.length_map] at hq
          have h := hr q hq
          unfold mirTo at h
          rw [if_pos hq, getD_get tr q hq] at h
          rw [List.getElem_map]; exact h
      clear M B hl hr hi hlt s1 s2 s3 s4 B2 hl2 hr2
      go_wp2
      go_ret
      exact unhide fin
end Go.Proofs.Qxb6500366a
