/-
  THE MODEL TURTLE: Reset, Mirror. (gen6mod3.py)
-/
import Derived.Test.Qxb6500366aMod
namespace Go.Proofs.Qxb6500366a
open Go.RowKit Go.Qx
set_option linter.unusedVariables false
set_option linter.unusedSimpArgs false

set_option maxHeartbeats 2000000 in
theorem resetM_any (w : World) (m rb : Nat) (tr : List Pt) (d : Pt) (R : RepM w m rb tr d) (h0 : 0 < tr.length) : Calls Try.prog 53 #[ptr m] w (voidPostM w m rb [tr.getD (tr.length - 1) (0, 0)] d) := by
  have hl : Hid (∀ V, Quiet w V → Calls Try.prog 62 #[ptr m] V fun e w' => e = .returned (ptv tr[tr.length - 1]) ∧ Quiet V w') := fun V hV => last_any V m rb tr d (R.quiet hV) h0
  rw [getD_get tr (tr.length - 1) (by omega)]
  have few := R.few
  have c0 : ∀ q : QW w, q.w.cell? ⟨m, 0, none⟩ = some (.slice (some ⟨rb, 0, none⟩) tr.length 24) := fun q => (QW.blk R.own q 0).trans rfl
  have RH := hide R
  have g0 : (0 : Int) < (tr.length : Int) := by omega
  have h0H := hide h0
  unfold ptv ptr at hl
  generalize tr[tr.length - 1] = p at *
  clear R h0 few
  unfold ptr
  go_enter Try.func53, Try.ntmps53
  go_wp2
  refine wp_region_noPanic ?_
  try simp only [List.append_eq, List.cons_append, List.nil_append]
  refine wp_region_mixq [(0, true), (1, true), (2, true), (3, true), (4, true), (5, true), (6, true)] [7] (by kernel_rfl) (by kernel_rfl) (fun _ _ _ _ _ h => h) ?_
  simp only [pickM, pickO, List.getElem?_cons_zero, List.getElem?_cons_succ]
  repeat (first | (refine wpMix_read rfl (fun K hK => ?_)) | (refine wpMix_pure rfl (fun K hK => ?_))
          go_big_quiet_op
          first | (refine hK _ ?_; clear hK K) | (apply Exists.intro; refine ⟨fun _ => ?_, ?_⟩; (· (first | (go_at_call 62; exact Calls.in_qw (unhide hl _ (QW.q _))))); refine hK _ ?_; clear hK K))
  refine wpMix_nil ?_
  intro _ hw'
  obtain ⟨qq, hw''⟩ := hw'
  subst hw''
  have hqq := qq.q
  generalize qq.w = wq at *
  have qH := hide hqq
  clear hqq c0 hl
  have R1 := (unhide RH).quiet (unhide qH)
  obtain ⟨cs, BT, hcs, hrow⟩ := R1.row
  obtain ⟨r0, r1⟩ := R1.at 0 (unhide h0H)
  have f0 := BT.frozen 0
  have f1 := BT.frozen 1
  rw [Nat.zero_mul] at r0 r1
  have B1 : Hid (Blk ((wq.setCell ⟨rb, 0, none⟩ (.int .i64 p.1)).setCell ⟨rb, 1, none⟩ (.int .i64 p.2)) m 77 [.slice (some ⟨rb, 0, none⟩) tr.length 24, .int .i64 d.1, .int .i64 d.2]) := (R1.own.set_other (a := ⟨rb, 0, none⟩) R1.ne _).set_other (a := ⟨rb, 1, none⟩) R1.ne _
  have T1 : Hid (Blk ((wq.setCell ⟨rb, 0, none⟩ (.int .i64 p.1)).setCell ⟨rb, 1, none⟩ (.int .i64 p.2)) rb 75 ((cs.set 0 (.int .i64 p.1)).set 1 (.int .i64 p.2))) := (BT.set 0 _).set 1 _
  have C1 : Hid (Chg (ownM m rb) w ((wq.setCell ⟨rb, 0, none⟩ (.int .i64 p.1)).setCell ⟨rb, 1, none⟩ (.int .i64 p.2))) := ((Quiet.chg (unhide qH) (ownM m rb)).setCell (p := ⟨rb, 0, none⟩) (.inl (.inr rfl)) _).setCell (p := ⟨rb, 1, none⟩) (.inl (.inr rfl)) _
  have csH := hide hcs
  have neH := hide R1.ne
  clear R1 BT hcs hrow RH
  go_wp2
  refine NoPanic.normal ?_
  clear r0 r1 f0 f1
  generalize (wq.setCell ⟨rb, 0, none⟩ (.int .i64 p.1)).setCell ⟨rb, 1, none⟩ (.int .i64 p.2) = W1 at *
  have y0 := (unhide B1).cell 0
  have z0 := (unhide B1).frozen 0
  simp at y0
  have fin : Hid (voidPostM w m rb [p] d (.returned (.tuple #[])) (W1.setCell ⟨m, 0, none⟩ (.slice (some ⟨rb, 0, none⟩) 1 24))) := by
    have hcs := unhide csH
    refine ⟨rfl, (unhide C1).setCell (p := ⟨m, 0, none⟩) (.inl (.inl rfl)) _, ?_, ⟨_, (unhide T1).set_other (a := ⟨m, 0, none⟩) (Ne.symm (unhide neH)) _, by simpa using hcs, ?_⟩, by simp, unhide neH⟩
    · exact (unhide B1).set 0 _
    · intro i hi
      have e : i = 0 := by simp at hi; omega
      subst e
      rw [Nat.zero_mul, List.getElem?_set_ne (by omega), List.getElem?_set_self (by omega), List.getElem?_set_self (by simp; omega)]
      exact ⟨rfl, rfl⟩
  clear B1 T1 C1
  go_wp2
  go_end0
  exact unhide fin

structure MirM (w wr : World) (m rb : Nat) (d : Pt) (tr : List Pt) (i : Nat) : Prop where
  chg : Chg (ownM m rb) w wr
  own : Blk wr m 77 [.slice (some ⟨rb, 0, none⟩) tr.length 24, .int .i64 d.1, .int .i64 d.2]
  row : ∃ cs, Blk wr rb 75 cs ∧ cs.length = 48 ∧ ∀ q, q < tr.length → cs[q * 2]? = some (.int .i64 (mirTo tr i q).1) ∧ cs[q * 2 + 1]? = some (.int .i64 (mirTo tr i q).2)

theorem MirM.next {w wr : World} {m rb : Nat} {d : Pt} {tr : List Pt} {i : Nat} (h : MirM w wr m rb d tr i) (hne : m ≠ rb) (hi : i < tr.length) (hf : tr.length ≤ 24) (k : Nat) {y : Int} (hy : y = -(tr.getD i (0, 0)).2) : MirM w ((wr.drewN k).setCell ⟨rb, i * 2 + 1, none⟩ (.int .i64 y)) m rb d tr (i + 1) := by
  obtain ⟨cs, B, hl, hr⟩ := h.row
  refine ⟨Chg.setCell (h.chg.drewN k) (p := ⟨rb, i * 2 + 1, none⟩) (.inl (.inr rfl)) _, (h.own.drewN k).set_other (a := ⟨rb, i * 2 + 1, none⟩) hne _, cs.set (i * 2 + 1) (.int .i64 y), (B.drewN k).set _ _, by simpa using hl, ?_⟩
  intro q hq
  obtain ⟨u1, u2⟩ := hr q hq
  by_cases e : q = i
  · subst e
    rw [List.getElem?_set_ne (by omega), List.getElem?_set_self (by omega), u1]
    unfold mirTo
    rw [if_neg (by omega), if_pos (by omega)]
    exact ⟨rfl, by rw [hy]; rfl⟩
  · rw [List.getElem?_set_ne (by omega), List.getElem?_set_ne (by omega), u1, u2]
    unfold mirTo
    by_cases h3 : q < i
    · rw [if_pos h3, if_pos (by omega)]; exact ⟨rfl, rfl⟩
    · rw [if_neg h3, if_neg (by omega)]; exact ⟨rfl, rfl⟩

set_option maxRecDepth 100000 in
set_option maxHeartbeats 4000000 in
theorem mirrorM_any (w : World) (m rb : Nat) (tr : List Pt) (d : Pt) (R : RepM w m rb tr d) (I : Inv tr d) : Calls Try.prog 51 #[ptr m] w (voidPostM w m rb (tr.map conjP) (conjP d)) := by
  have few := R.few
  have y0 := R.own.cell 0
  simp at y0
  have M0 : Hid (MirM w w m rb d tr 0) := by
    obtain ⟨cs, BT, hcs, hrow⟩ := R.row
    refine ⟨Chg.refl _ _, R.own, cs, BT, hcs, fun q hq => ?_⟩
    unfold mirTo
    rw [if_neg (by omega), getD_get tr q hq]; exact hrow q hq
  have smH := hide I.small
  have dH := hide I.dsmall
  have fH := hide (⟨R.ne, few⟩ : _ ∧ _)
  clear R I few
  unfold ptr
  go_enter Try.func51, Try.ntmps51
  go_wp2
  clear y0
  go_loopw [8] (fun z wr => ∃ i : Nat, i ≤ tr.length ∧ z = .int .i64 i ∧ MirM w wr m rb d tr i) (fun z _ => tr.length + 1 - (intOf z).toNat)
  case atStart => exact ⟨0, by omega, rfl, unhide M0⟩
  case round =>
    clear M0
    obtain ⟨i, hi, rfl, M⟩ := hrel
    by_cases hlt : i < tr.length
    · have g1 : (i : Int) < (tr.length : Int) := by omega
      have i0 : (0 : Int) ≤ (i : Int) := by omega
      obtain ⟨cs, B, hl, hr⟩ := M.row
      obtain ⟨u1, u2⟩ := hr i hlt
      have e2 : mirTo tr i i = tr.getD i (0, 0) := by unfold mirTo; rw [if_neg (by omega)]
      rw [e2] at u2
      have hc := (B.cell (i * 2 + 1)).trans u2
      have fz := B.frozen (i * 2 + 1)
      have y0 := M.own.cell 0
      simp at y0
      have few := (unhide fH).2
      have hsm := unhide smH _ (List.getElem_mem hlt)
      rw [← getD_get tr i hlt] at hsm
      obtain ⟨s1, s2, s3, s4⟩ := hsm
      obtain ⟨Y, hY⟩ : ∃ Y, (tr.getD i (0, 0)).2 = Y := ⟨_, rfl⟩
      rw [hY] at s3 s4 hc
      have wn : wrap64 (-Y) = -Y := by unfold wrap64; omega
      have wn' : IntKind.i64.wrap (-Y) = -Y := by rw [IntKind.wrap_i64]; omega
      have MN : Hid (∀ k, MirM w ((wr.drewN k).setCell ⟨rb, i * 2 + 1, none⟩ (.int .i64 (-Y))) m rb d tr (i + 1)) := fun k => M.next (unhide fH).1 hlt (unhide fH).2 k (by rw [hY])
      have lt5 : i + 1 < 1073741824 := by omega
      have hltH := hide hlt
      clear M B hr u1 u2 e2 hl hi hlt few hY s1 s2 s3 s4
      have wi : wrap64 ((i : Int) + 1) = (i : Int) + 1 := wrap_small (i + 1) lt5
      clear lt5
      go_wp2
      refine wp_region_noPanic ?_
      try simp only [List.append_eq, List.cons_append, List.nil_append]
      refine wp_region_mix [(0, true), (1, true), (2, true), (3, true), (4, true), (5, true), (6, true), (7, true), (8, true), (9, true), (10, true), (11, true), (12, true), (13, true), (14, true), (15, true)] [16] (by kernel_rfl) (by kernel_rfl) (fun _ _ _ _ _ h => h) ?_
      simp only [pickM, pickO, List.getElem?_cons_zero, List.getElem?_cons_succ]
      repeat (first | (refine wpMix_read rfl (fun K hK => ?_)) | (refine wpMix_pure rfl (fun K hK => ?_))
              go_big_quiet_op
              first | (refine hK _ ?_; clear hK K))
      refine wpMix_nil ?_
      intro _ hw'
      obtain ⟨nq, hw''⟩ := hw'
      subst hw''
      go_wp2
      refine NoPanic.normal ?_
      go_wp2
      go_roundw
      case rel => exact ⟨i + 1, unhide hltH, by simp; try exact wi, unhide MN _⟩
      case measure =>
        have h := unhide hltH
        first
          | exact meas_plain h
          | exact meas_next h wi
    · have g1 : ¬ (i : Int) < (tr.length : Int) := by omega
      obtain rfl : i = tr.length := by omega
      obtain ⟨cs, B, hl, hr⟩ := M.row
      obtain ⟨s1, s2, s3, s4⟩ := unhide dH
      have y2 := M.own.cell 2
      have f2 := M.own.frozen 2
      simp at y2
      have wn : wrap64 (-d.2) = -d.2 := by unfold wrap64; omega
      have fin : Hid (voidPostM w m rb (tr.map conjP) (conjP d) (.returned (.tuple #[])) (wr.setCell ⟨m, 2, none⟩ (.int .i64 (-d.2)))) := by
        refine ⟨rfl, M.chg.setCell (p := ⟨m, 2, none⟩) (.inl (.inl rfl)) _, ?_, ⟨cs, B.set_other (a := ⟨m, 2, none⟩) (Ne.symm (unhide fH).1) _, hl, ?_⟩, by rw [List.length_map]; exact (unhide fH).2, (unhide fH).1⟩
        · rw [List.length_map]; exact M.own.set 2 _
        · intro q hq
          rw [List.length_map] at hq
          have h := hr q hq
          unfold mirTo at h
          rw [if_pos hq, getD_get tr q hq] at h
          rw [List.getElem_map]; exact h
      clear M B hl hr hi hlt s1 s2 s3 s4
      go_wp2
      go_end0
      exact unhide fin
end Go.Proofs.Qxb6500366a
