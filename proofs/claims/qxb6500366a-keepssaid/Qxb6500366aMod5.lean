/-
  THE MODEL TURTLE: Reach, Area2. (gen6mod5.py)
-/
import Derived.Test.Qxb6500366aMod
namespace Go.Proofs.Qxb6500366a
open Go.RowKit Go.Qx
set_option linter.unusedVariables false
set_option linter.unusedSimpArgs false

theorem mul_unit {x : Int} {u : Int} (hu : -1 ≤ u ∧ u ≤ 1) (hx : -1048576 ≤ x ∧ x ≤ 1048576) : -1048576 ≤ x * u ∧ x * u ≤ 1048576 := by
  have h := mul_abs (c := 1048576) (d := 1) hx hu (by decide) (by decide)
  omega
theorem quart_unit (j : Nat) (hj : j < 4) : -1 ≤ (quart (1, 0) j).1 ∧ (quart (1, 0) j).1 ≤ 1 ∧ -1 ≤ (quart (1, 0) j).2 ∧ (quart (1, 0) j).2 ≤ 1 := by
  rcases (by omega : j = 0 ∨ j = 1 ∨ j = 2 ∨ j = 3) with rfl | rfl | rfl | rfl <;> decide

set_option maxHeartbeats 4000000 in
theorem reachM_any (w : World) (m rb : Nat) (tr : List Pt) (d : Pt) (R : RepM w m rb tr d) (hsm : ∀ p ∈ tr, Small p) (k : Int) : Calls Try.prog 57 #[ptr m, .int .i64 k] w fun e w' => e = .returned (.int .i64 (bestTo tr (quart (1, 0) (modP k)) tr.length)) ∧ Quiet w w' := by
  have RH := hide R
  have smH := hide hsm
  have hs := hide (spin_any w (1, 0) (by unfold Small; decide) k)
  have qu := hide (quart_unit (modP k) (modP_spec k).2)
  have fH := hide R.few
  unfold ptv at hs
  clear R hsm
  unfold ptr
  generalize quart (1, 0) (modP k) = D at *
  go_enter Try.func57, Try.ntmps57
  go_wp2_with fail
  refine (unhide hs).mono ?_
  clear hs
  rintro e w1 ⟨rfl, Q1⟩
  have q0 : Hid (Quiet w (w1.alloc (.cells #[.int .i64 D.1, .int .i64 D.2] 75))) := Chg.alloc Q1 _
  have B0 : Hid (Blk (w1.alloc (.cells #[.int .i64 D.1, .int .i64 D.2] 75)) w1.heap.size 75 [.int .i64 D.1, .int .i64 D.2]) := Blk.new w1 75 [.int .i64 D.1, .int .i64 D.2]
  have R1 := (unhide RH).quiet (unhide q0)
  have c0 := R1.own.cell 0
  simp at c0
  clear R1
  have szH := hide Q1.size
  clear Q1
  go_wp2
  generalize w1.alloc (.cells #[.int .i64 D.1, .int .i64 D.2] 75) = W0 at *
  generalize w1.heap.size = db at *
  clear c0
  go_loopw [17, 6] (fun z c wr => ∃ i : Nat, i ≤ tr.length ∧ z = .int .i64 (i : Int) ∧ c = .int .i64 (bestTo tr D i) ∧ Quiet w wr ∧ Blk wr db 75 [.int .i64 D.1, .int .i64 D.2]) (fun z _ _ => tr.length + 1 - (intOf z).toNat)
  case atStart => exact ⟨0, by omega, rfl, rfl, unhide q0, unhide B0⟩
  case round =>
    clear q0 B0
    obtain ⟨i, hi, rfl, rfl, Q, B⟩ := hrel
    by_cases hlt : i < tr.length
    · have g1 : (i : Int) < (tr.length : Int) := by omega
      have i0 : (0 : Int) ≤ (i : Int) := by omega
      have few := unhide fH
      have R1 := (unhide RH).quiet Q
      obtain ⟨r0, r1⟩ := R1.at i hlt
      obtain ⟨s1, s2, s3, s4⟩ := unhide smH _ (List.getElem_mem hlt)
      obtain ⟨u1, u2, u3, u4⟩ := unhide qu
      have hst : Hid (bestTo tr D (i + 1) = if bestTo tr D i < tr[i].1 * D.1 + tr[i].2 * D.2 then tr[i].1 * D.1 + tr[i].2 * D.2 else bestTo tr D i) := by
        show _ = _
        rw [bestTo, getD_get tr i hlt]; rfl
      have m1 := mul_unit ⟨u1, u2⟩ ⟨s1, s2⟩
      have m2 := mul_unit ⟨u3, u4⟩ ⟨s3, s4⟩
      obtain ⟨X, hX⟩ : ∃ X, tr[i].1 = X := ⟨_, rfl⟩
      obtain ⟨Y, hY⟩ : ∃ Y, tr[i].2 = Y := ⟨_, rfl⟩
      rw [hX] at r0 m1 hst
      rw [hY] at r1 m2 hst
      obtain ⟨E1, hE1⟩ : ∃ E, X * D.1 = E := ⟨_, rfl⟩
      obtain ⟨E2, hE2⟩ : ∃ E, Y * D.2 = E := ⟨_, rfl⟩
      rw [hE1] at m1 hst
      rw [hE2] at m2 hst
      obtain ⟨V, hV⟩ : ∃ V, E1 + E2 = V := ⟨_, rfl⟩
      rw [hV] at hst
      have w1 : wrap64 (X * D.1) = E1 := by rw [hE1]; unfold wrap64; omega
      have w2 : wrap64 (Y * D.2) = E2 := by rw [hE2]; unfold wrap64; omega
      have w3 : wrap64 (E1 + E2) = V := by rw [hV]; unfold wrap64; omega
      have wi : wrap64 ((i : Int) + 1) = (i : Int) + 1 := wrap_small (i + 1) (by omega)
      have B1 := B.alloc (.cells #[.int .i64 X, .int .i64 Y] 75)
      have b0 := B1.cell 0
      have b1 := B1.cell 1
      simp at b0 b1
      have QH := hide Q
      have fin : Hid (Quiet w (wr.alloc (.cells #[.int .i64 X, .int .i64 Y] 75)) ∧ Blk (wr.alloc (.cells #[.int .i64 X, .int .i64 Y] 75)) db 75 [.int .i64 D.1, .int .i64 D.2]) := ⟨Chg.alloc Q _, B1⟩
      have hltH := hide hlt
      clear R1 Q B B1 m1 m2 few hi s1 s2 s3 s4 u1 u2 u3 u4 hX hY hlt
      clear hE1 hE2 hV
      generalize bestTo tr D i = b at *
      by_cases hb : b < V
      · have hstH := hide (unhide hst)
        rw [if_pos hb] at hstH
        clear hst
        go_wp2
        go_roundw
        case rel => exact ⟨i + 1, unhide hltH, by simp; try exact wi, by rw [unhide hstH]; try rw [w3], unhide fin⟩
        case measure =>
          have h := unhide hltH
          first
            | exact meas_plain h
            | exact meas_next h wi
      · have hstH := hide (unhide hst)
        rw [if_neg hb] at hstH
        clear hst
        go_wp2
        go_roundw
        case rel => exact ⟨i + 1, unhide hltH, by simp; try exact wi, by rw [unhide hstH]; try rw [w3], unhide fin⟩
        case measure =>
          have h := unhide hltH
          first
            | exact meas_plain h
            | exact meas_next h wi
    · have g1 : ¬ (i : Int) < (tr.length : Int) := by omega
      obtain rfl : i = tr.length := by omega
      have QH := hide Q
      clear Q B hlt hi
      go_wp2
      go_ret
      exact ⟨rfl, unhide QH⟩

theorem area_bd (tr : List Pt) (hs : ∀ p ∈ tr, Small p) : ∀ i, i ≤ tr.length → -(2199023255552 * (i : Int)) ≤ areaTo tr i ∧ areaTo tr i ≤ 2199023255552 * (i : Int)
  | 0, _ => by simp [areaTo]
  | i + 1, h => by
    have ih := area_bd tr hs i (by omega)
    have sm : ∀ q, q < tr.length → Small (tr.getD q (0, 0)) := fun q hq => by rw [getD_get tr q hq]; exact hs _ (List.getElem_mem hq)
    obtain ⟨a1, a2, a3, a4⟩ := sm i (by omega)
    obtain ⟨b1, b2, b3, b4⟩ : Small (prevP tr i) := by
      unfold prevP
      split
      · exact sm _ (by omega)
      · exact sm _ (by omega)
    have m1 := mul_abs (c := 1048576) (d := 1048576) ⟨b1, b2⟩ ⟨a3, a4⟩ (by decide) (by decide)
    have m2 := mul_abs (c := 1048576) (d := 1048576) ⟨a1, a2⟩ ⟨b3, b4⟩ (by decide) (by decide)
    rw [areaTo]
    unfold crossP
    push_cast
    omega

set_option maxHeartbeats 4000000 in
theorem areaM_any (w : World) (m rb : Nat) (tr : List Pt) (d : Pt) (R : RepM w m rb tr d) (hsm : ∀ p ∈ tr, Small p) (h0 : 0 < tr.length) : Calls Try.prog 58 #[ptr m] w fun e w' => e = .returned (.int .i64 (areaTo tr tr.length)) ∧ Quiet w w' := by
  have RH := hide R
  have smH := hide hsm
  have hl := hide (last_any w m rb tr d R h0)
  have fH := hide R.few
  have hp0 : prevP tr 0 = tr[tr.length - 1] := by unfold prevP; rw [if_pos rfl, getD_get tr _ (by omega)]
  rw [← hp0] at hl
  unfold ptv ptr at hl
  clear R hsm h0 hp0
  unfold ptr
  go_enter Try.func58, Try.ntmps58
  go_wp2_with fail
  refine (unhide hl).mono ?_
  clear hl
  rintro e w1 ⟨rfl, Q1⟩
  have q0 : Hid (Quiet w (w1.alloc (.cells #[.int .i64 (prevP tr 0).1, .int .i64 (prevP tr 0).2] 75))) := Chg.alloc Q1 _
  have B0 : Hid (Blk (w1.alloc (.cells #[.int .i64 (prevP tr 0).1, .int .i64 (prevP tr 0).2] 75)) w1.heap.size 75 [.int .i64 (prevP tr 0).1, .int .i64 (prevP tr 0).2]) := Blk.new w1 75 [.int .i64 (prevP tr 0).1, .int .i64 (prevP tr 0).2]
  have R1 := (unhide RH).quiet (unhide q0)
  have c0 := R1.own.cell 0
  simp at c0
  clear R1
  have szH := hide Q1.size
  clear Q1
  go_wp2
  generalize w1.alloc (.cells #[.int .i64 (prevP tr 0).1, .int .i64 (prevP tr 0).2] 75) = W0 at *
  generalize w1.heap.size = pb at *
  clear c0
  go_loopw [14, 3] (fun z c wr => ∃ i : Nat, i ≤ tr.length ∧ z = .int .i64 (i : Int) ∧ c = .int .i64 (areaTo tr i) ∧ Quiet w wr ∧ Blk wr pb 75 [.int .i64 (prevP tr i).1, .int .i64 (prevP tr i).2]) (fun z _ _ => tr.length + 1 - (intOf z).toNat)
  case atStart => exact ⟨0, by omega, rfl, rfl, unhide q0, unhide B0⟩
  case round =>
    clear q0 B0
    obtain ⟨i, hi, rfl, rfl, Q, B⟩ := hrel
    by_cases hlt : i < tr.length
    · have g1 : (i : Int) < (tr.length : Int) := by omega
      have i0 : (0 : Int) ≤ (i : Int) := by omega
      have few := unhide fH
      have R1 := (unhide RH).quiet Q
      obtain ⟨r0, r1⟩ := R1.at i hlt
      have sm : ∀ q, q < tr.length → Small (tr.getD q (0, 0)) := fun q hq => by rw [getD_get tr q hq]; exact unhide smH _ (List.getElem_mem hq)
      obtain ⟨s1, s2, s3, s4⟩ := sm i hlt
      obtain ⟨t1, t2, t3, t4⟩ : Small (prevP tr i) := by
        unfold prevP
        split
        · exact sm _ (by omega)
        · exact sm _ (by omega)
      have hn : prevP tr (i + 1) = tr.getD i (0, 0) := by unfold prevP; rw [if_neg (by omega)]; rfl
      have hnH := hide hn
      rw [getD_get tr i hlt] at s1 s2 s3 s4 hnH
      have hst : Hid (areaTo tr (i + 1) = areaTo tr i + ((prevP tr i).1 * tr[i].2 - tr[i].1 * (prevP tr i).2)) := by
        show _ = _
        rw [areaTo, getD_get tr i hlt]; rfl
      have m1 := mul_abs (c := 1048576) (d := 1048576) ⟨t1, t2⟩ ⟨s3, s4⟩ (by decide) (by decide)
      have m2 := mul_abs (c := 1048576) (d := 1048576) ⟨s1, s2⟩ ⟨t3, t4⟩ (by decide) (by decide)
      have ab := area_bd tr (unhide smH) i (by omega)
      obtain ⟨X, hX⟩ : ∃ X, tr[i].1 = X := ⟨_, rfl⟩
      obtain ⟨Y, hY⟩ : ∃ Y, tr[i].2 = Y := ⟨_, rfl⟩
      obtain ⟨P1, hP1⟩ : ∃ X, (prevP tr i).1 = X := ⟨_, rfl⟩
      obtain ⟨P2, hP2⟩ : ∃ Y, (prevP tr i).2 = Y := ⟨_, rfl⟩
      obtain ⟨A, hA⟩ : ∃ Y, areaTo tr i = Y := ⟨_, rfl⟩
      rw [hX] at r0 m2 hst
      rw [hY] at r1 m1 hst
      rw [hP1] at m1 hst B
      rw [hP2] at m2 hst B
      rw [hA] at ab hst ⊢
      obtain ⟨E1, hE1⟩ : ∃ E, P1 * Y = E := ⟨_, rfl⟩
      obtain ⟨E2, hE2⟩ : ∃ E, X * P2 = E := ⟨_, rfl⟩
      rw [hE1] at m1 hst
      rw [hE2] at m2 hst
      obtain ⟨V1, hV1⟩ : ∃ V, A + E1 = V := ⟨_, rfl⟩
      obtain ⟨V2, hV2⟩ : ∃ V, V1 - E2 = V := ⟨_, rfl⟩
      have hst2 : Hid (areaTo tr (i + 1) = V2) := by show _ = _; rw [unhide hst]; omega
      have w1 : wrap64 (P1 * Y) = E1 := by rw [hE1]; unfold wrap64; omega
      have w2 : wrap64 (X * P2) = E2 := by rw [hE2]; unfold wrap64; omega
      have w3 : wrap64 (A + E1) = V1 := by rw [hV1]; unfold wrap64; omega
      have w4 : wrap64 (V1 - E2) = V2 := by rw [hV2]; unfold wrap64; omega
      have v1 : IntKind.i64.wrap (P1 * Y) = E1 := by rw [IntKind.wrap_i64, hE1]; omega
      have v2 : IntKind.i64.wrap (X * P2) = E2 := by rw [IntKind.wrap_i64, hE2]; omega
      have v3 : IntKind.i64.wrap (A + E1) = V1 := by rw [IntKind.wrap_i64, hV1]; omega
      have v4 : IntKind.i64.wrap (V1 - E2) = V2 := by rw [IntKind.wrap_i64, hV2]; omega
      have wi : wrap64 ((i : Int) + 1) = (i : Int) + 1 := wrap_small (i + 1) (by omega)
      have B1 := B.alloc (.cells #[.int .i64 X, .int .i64 Y] 75)
      have N1 := Blk.new wr 75 [.int .i64 X, .int .i64 Y]
      obtain ⟨W1, hW1⟩ : ∃ W, (wr.alloc (.cells #[.int .i64 X, .int .i64 Y] 75)) = W := ⟨_, rfl⟩
      have hQ1 : Hid (Quiet w W1) := by rw [← hW1]; exact Chg.alloc Q _
      have hpl : Hid (w.heap.size ≤ pb) := szH
      have B1H : Hid (Blk W1 pb 75 [.int .i64 P1, .int .i64 P2]) := by rw [← hW1]; exact B1
      have N1H : Hid (Blk W1 wr.heap.size 75 [.int .i64 X, .int .i64 Y]) := by rw [← hW1]; exact N1
      have fin : Hid (∀ k, Quiet w (((W1.drewN k).setCell ⟨pb, 0, none⟩ (.int .i64 X)).setCell ⟨pb, 1, none⟩ (.int .i64 Y)) ∧ Blk (((W1.drewN k).setCell ⟨pb, 0, none⟩ (.int .i64 X)).setCell ⟨pb, 1, none⟩ (.int .i64 Y)) pb 75 [.int .i64 (prevP tr (i + 1)).1, .int .i64 (prevP tr (i + 1)).2]) := fun k => by
        refine ⟨((Chg.drewN (unhide hQ1) k).setCell (p := ⟨pb, 0, none⟩) (.inr (unhide hpl)) _).setCell (p := ⟨pb, 1, none⟩) (.inr (unhide hpl)) _, ?_⟩
        rw [unhide hnH, hX, hY]
        exact (((unhide B1H).drewN k).set 0 _).set 1 _
      have hltH := hide hlt
      clear hnH
      clear R1 Q B B1 N1 m1 m2 few hi s1 s2 s3 s4 t1 t2 t3 t4 hX hY hlt hP1 hP2 hA hE1 hE2 hV1 hV2 ab hst sm hn hQ1
      have b0 := (unhide B1H).cell 0
      have b1 := (unhide B1H).cell 1
      have f0 := (unhide B1H).frozen 0
      have f1 := (unhide B1H).frozen 1
      have n0 := (unhide N1H).cell 0
      have n1 := (unhide N1H).cell 1
      simp at b0 b1 n0 n1
      go_wp2
      refine wp_region_noPanic ?_
      try simp only [List.append_eq, List.cons_append, List.nil_append]
      refine wp_region_mix [(0, true), (1, true), (2, true), (3, true), (4, true), (5, true), (6, true), (7, true), (8, true), (9, true), (10, true), (11, true), (12, true), (13, true), (14, true)] [15] (by kernel_rfl) (by kernel_rfl) (fun _ _ _ _ _ h => h) ?_
      simp only [pickM, pickO, List.getElem?_cons_zero, List.getElem?_cons_succ]
      repeat (first | (refine wpMix_read rfl (fun K hK => ?_)) | (refine wpMix_pure rfl (fun K hK => ?_))
              go_big_quiet_op
              first | (refine hK _ ?_; clear hK K))
      refine wpMix_nil ?_
      intro _ hw'
      obtain ⟨nq, hw''⟩ := hw'
      subst hw''
      go_wp2
      refine NoPanic.normal ?_
      go_wp2
      go_roundw
      case rel => exact ⟨i + 1, unhide hltH, by simp; try exact wi, by rw [unhide hst2]; try rw [w3, w4], (unhide fin _).1, (unhide fin _).2⟩
      case measure =>
        have h := unhide hltH
        first
          | exact meas_plain h
          | exact meas_next h wi
    · have g1 : ¬ (i : Int) < (tr.length : Int) := by omega
      obtain rfl : i = tr.length := by omega
      have QH := hide Q
      clear Q B hlt hi
      go_wp2
      go_ret
      exact ⟨rfl, unhide QH⟩
end Go.Proofs.Qxb6500366a
