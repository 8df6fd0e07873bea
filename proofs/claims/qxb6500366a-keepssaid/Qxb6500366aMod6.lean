/-
  THE MODEL TURTLE: Home, Show, Check. (gen6mod6.py)
-/
import Derived.Test.Qxb6500366aMod
import Derived.Test.Qxb6500366aCheck
namespace Go.Proofs.Qxb6500366a
open Go.RowKit Go.Qx
set_option linter.unusedVariables false
set_option linter.unusedSimpArgs false

set_option maxHeartbeats 2000000 in
theorem homeM_any (w : World) (m rb : Nat) (tr : List Pt) (d : Pt) (R : RepM w m rb tr d) (h0 : 0 < tr.length) : Calls Try.prog 59 #[ptr m] w (okPost w (decide (tr[tr.length - 1] = tr[0]))) := by
  have hl : Hid (∀ V, Quiet w V → Calls Try.prog 62 #[ptr m] V fun e w' => e = .returned (ptv tr[tr.length - 1]) ∧ Quiet V w') := fun V hV => last_any V m rb tr d (R.quiet hV) h0
  have c0 : ∀ q : QW w, q.w.cell? ⟨m, 0, none⟩ = some (.slice (some ⟨rb, 0, none⟩) tr.length 24) := fun q => (QW.blk R.own q 0).trans rfl
  have r0 : ∀ q : QW w, q.w.cell? ⟨rb, 0, none⟩ = some (.int .i64 tr[0].1) := fun q => ((R.quiet q.q).at 0 h0).1
  have r1 : ∀ q : QW w, q.w.cell? ⟨rb, 1, none⟩ = some (.int .i64 tr[0].2) := fun q => ((R.quiet q.q).at 0 h0).2
  have g0 : (0 : Int) < (tr.length : Int) := by omega
  unfold ptv ptr at hl
  generalize tr[tr.length - 1] = p at *
  generalize tr[0] = s at *
  clear R h0
  unfold ptr okPost
  obtain ⟨p1, p2⟩ := p
  obtain ⟨s1, s2⟩ := s
  simp only at hl r0 r1
  by_cases e1 : p1 = s1
  · by_cases e2 : p2 = s2
    · rw [show decide ((p1, p2) = (s1, s2)) = true by simp [e1, e2]]
      subst e1 e2
      go_enter Try.func59, Try.ntmps59
      go_wp2
      refine wp_region_noPanic ?_
      try simp only [List.append_eq, List.cons_append, List.nil_append]
      refine wp_region_mixq [(0, true), (1, true), (2, true), (3, true), (4, true), (5, true), (6, true), (7, true), (8, true), (9, true)] [] (by kernel_rfl) (by kernel_rfl) (fun _ _ _ _ _ h => h) ?_
      simp only [pickM, pickO, List.getElem?_cons_zero, List.getElem?_cons_succ]
      repeat (first | (refine wpMix_read rfl (fun K hK => ?_)) | (refine wpMix_pure rfl (fun K hK => ?_))
              go_big_quiet_op
              first | (refine hK _ ?_; clear hK K) | (apply Exists.intro; refine ⟨fun _ => ?_, ?_⟩; (· (first | (go_at_call 62; exact Calls.in_qw (unhide hl _ (QW.q _))))); refine hK _ ?_; clear hK K))
      refine wpMix_nil ?_
      intro _ hw'
      obtain ⟨qq, hw''⟩ := hw'
      subst hw''
      have hqq := qq.q
      generalize qq.w = wq at *
      have qH := hide hqq
      clear hqq c0 r0 r1 hl
      go_wp2
      refine NoPanic.normal ?_
      go_wp2
      go_ret
      exact ⟨by first | rfl | simp, unhide qH⟩
    · rw [show decide ((p1, p2) = (s1, s2)) = false by simp [e2]]
      subst e1
      go_enter Try.func59, Try.ntmps59
      go_wp2
      refine wp_region_noPanic ?_
      try simp only [List.append_eq, List.cons_append, List.nil_append]
      refine wp_region_mixq [(0, true), (1, true), (2, true), (3, true), (4, true), (5, true), (6, true), (7, true), (8, true), (9, true)] [] (by kernel_rfl) (by kernel_rfl) (fun _ _ _ _ _ h => h) ?_
      simp only [pickM, pickO, List.getElem?_cons_zero, List.getElem?_cons_succ]
      repeat (first | (refine wpMix_read rfl (fun K hK => ?_)) | (refine wpMix_pure rfl (fun K hK => ?_))
              go_big_quiet_op
              first | (refine hK _ ?_; clear hK K) | (apply Exists.intro; refine ⟨fun _ => ?_, ?_⟩; (· (first | (go_at_call 62; exact Calls.in_qw (unhide hl _ (QW.q _))))); refine hK _ ?_; clear hK K))
      refine wpMix_nil ?_
      intro _ hw'
      obtain ⟨qq, hw''⟩ := hw'
      subst hw''
      have hqq := qq.q
      generalize qq.w = wq at *
      have qH := hide hqq
      clear hqq c0 r0 r1 hl
      go_wp2
      refine NoPanic.normal ?_
      go_wp2
      go_ret
      exact ⟨by first | rfl | simp [e2], unhide qH⟩
  · rw [show decide ((p1, p2) = (s1, s2)) = false by simp [e1]]
    go_enter Try.func59, Try.ntmps59
    go_wp2
    refine wp_region_noPanic ?_
    try simp only [List.append_eq, List.cons_append, List.nil_append]
    refine wp_region_mixq [(0, true), (1, true), (2, true), (3, true), (4, true), (5, true), (6, true), (7, true), (8, true), (9, true)] [] (by kernel_rfl) (by kernel_rfl) (fun _ _ _ _ _ h => h) ?_
    simp only [pickM, pickO, List.getElem?_cons_zero, List.getElem?_cons_succ]
    repeat (first | (refine wpMix_read rfl (fun K hK => ?_)) | (refine wpMix_pure rfl (fun K hK => ?_))
            go_big_quiet_op
            first | (refine hK _ ?_; clear hK K) | (apply Exists.intro; refine ⟨fun _ => ?_, ?_⟩; (· (first | (go_at_call 62; exact Calls.in_qw (unhide hl _ (QW.q _))))); refine hK _ ?_; clear hK K))
    refine wpMix_nil ?_
    intro _ hw'
    obtain ⟨qq, hw''⟩ := hw'
    subst hw''
    have hqq := qq.q
    generalize qq.w = wq at *
    have qH := hide hqq
    clear hqq c0 r0 r1 hl
    go_wp2
    refine NoPanic.normal ?_
    go_wp2
    go_ret
    exact ⟨by first | rfl | simp [e1], unhide qH⟩

set_option maxRecDepth 100000 in
set_option maxHeartbeats 4000000 in
theorem showM_any (w : World) (m rb : Nat) (tr : List Pt) (d : Pt) (R : RepM w m rb tr d) (hd : Small d) (hs : ∀ p ∈ tr, Small p) : Calls Try.prog 60 #[ptr m] w fun e w' => e = .returned (.string (str (showTo d tr tr.length))) ∧ Quiet w w' := by
  have hpr := hide (fun W => pair_any W d hd.i64)
  have c1 : ∀ q : QW w, q.w.cell? ⟨m, 1, none⟩ = some (.int .i64 d.1) := fun q => (QW.blk R.own q 1).trans rfl
  have c2 : ∀ q : QW w, q.w.cell? ⟨m, 2, none⟩ = some (.int .i64 d.2) := fun q => (QW.blk R.own q 2).trans rfl
  have few := R.few
  have RH := hide R
  have hsH := hide hs
  have fH := hide few
  have hS0 : Hid (showTo d tr 0 = pairL d) := rfl
  clear R hs hd few
  generalize d.1 = D1 at *
  generalize d.2 = D2 at *
  unfold ptr
  go_enter Try.func60, Try.ntmps60
  go_wp2
  refine wp_region_noPanic ?_
  try simp only [List.append_eq, List.cons_append, List.nil_append]
  refine wp_region_mixq [(0, true), (1, true), (2, true), (3, true), (4, true), (5, true), (6, true), (7, true), (8, true), (9, true), (10, true), (11, true)] [] (by kernel_rfl) (by kernel_rfl) (fun _ _ _ _ _ h => h) ?_
  simp only [pickM, pickO, List.getElem?_cons_zero, List.getElem?_cons_succ]
  repeat (first | (refine wpMix_read rfl (fun K hK => ?_)) | (refine wpMix_pure rfl (fun K hK => ?_))
          go_big_quiet_op
          first | (refine hK _ ?_; clear hK K) | (apply Exists.intro; refine ⟨fun _ => ?_, ?_⟩; (· (first | (go_at_call 10; exact Calls.in_qw (unhide hpr _)))); refine hK _ ?_; clear hK K))
  refine wpMix_nil ?_
  intro _ hw'
  obtain ⟨qq, hw''⟩ := hw'
  subst hw''
  have hqq := qq.q
  generalize qq.w = wq at *
  have q1H := hide hqq
  clear c1 c2 hqq hpr
  have y0 := ((unhide RH).quiet (unhide q1H)).own.cell 0
  simp at y0
  go_wp2
  refine NoPanic.normal ?_
  go_wp2
  go_loopw [3, 22] (fun s z wr => ∃ i : Nat, i ≤ tr.length ∧ z = .int .i64 i ∧ s = .string (str (showTo d tr i)) ∧ Quiet w wr) (fun _ z _ => tr.length + 1 - (intOf z).toNat)
  case atStart => exact ⟨0, by omega, rfl, by rw [unhide hS0], unhide q1H⟩
  case round =>
    clear q1H y0
    obtain ⟨i, hi, rfl, rfl, q⟩ := hrel
    by_cases hlt : i < tr.length
    · have g1 : (i : Int) < (tr.length : Int) := by omega
      have i0 : (0 : Int) ≤ (i : Int) := by omega
      have few := unhide fH
      obtain ⟨r0, r1⟩ := ((unhide RH).quiet q).at i hlt
      have hsm := unhide hsH _ (List.getElem_mem hlt)
      have hpr := hide (pair_any (wr.alloc (.cells #[.int .i64 tr[i].1, .int .i64 tr[i].2] 75)) _ hsm.i64)
      have hgd : tr.getD i (0, 0) = tr[i] := getD_get tr i hlt
      have hsuc : Hid (str (showTo d tr (i + 1)) = str (showTo d tr i) ++ str (pairL tr[i])) := by
        show _ = _
        rw [showTo, hgd, str_append]
      have hl1 := showTo_len d tr i
      have hl2 := pairL_len tr[i]
      have z1 : (str (showTo d tr i)).size ≤ 2000 := by rw [str_size]; omega
      have z2 : (str (pairL tr[i])).size ≤ 2000 := by rw [str_size]; omega
      have wi : wrap64 ((i : Int) + 1) = (i : Int) + 1 := wrap_small (i + 1) (by omega)
      have hltH := hide hlt
      have qH : Hid (Quiet w (wr.alloc (.cells #[.int .i64 tr[i].1, .int .i64 tr[i].2] 75))) := Chg.alloc q _
      clear hl1 hl2 hgd hsm q hi few
      generalize tr[i] = ti at *
      clear hlt
      generalize ti.1 = X at *
      generalize ti.2 = Y at *
      generalize str (showTo d tr i) = s1 at *
      generalize str (pairL ti) = s2 at *
      go_wp2_with fail
      refine (unhide hpr).mono ?_
      clear hpr r0 r1
      rintro e w3 ⟨rfl, q3⟩
      have q3H : Hid (Quiet w w3) := Quiet.trans (unhide qH) q3
      clear q3 qH
      go_wp2
      go_roundw
      case rel => exact ⟨i + 1, unhide hltH, by simp; try exact wi, by rw [unhide hsuc], unhide q3H⟩
      case measure =>
        have h := unhide hltH
        first
          | exact meas_plain h
          | exact meas_next h wi
    · have g1 : ¬ (i : Int) < (tr.length : Int) := by omega
      obtain rfl : i = tr.length := by omega
      have qH := hide q
      clear q hlt hi
      go_wp2
      go_ret
      exact ⟨rfl, unhide qH⟩

set_option maxRecDepth 100000 in
set_option maxHeartbeats 4000000 in
theorem checkM_any (w : World) (m rb : Nat) (tr : List Pt) (d : Pt) (R : RepM w m rb tr d) (I : Inv tr d) : Calls Try.prog 61 #[ptr m] w (okPost w true) := by
  have hun := fun W => unit_any W d I.dir
  have c1 := R.own.cell 1
  have c2 := R.own.cell 2
  simp at c1 c2
  have RH := hide R
  have IH := hide I
  clear R I
  generalize d.1 = D1 at *
  generalize d.2 = D2 at *
  unfold ptr
  go_enter Try.func61, Try.ntmps61
  go_wp2
  refine wp_region_noPanic ?_
  try simp only [List.append_eq, List.cons_append, List.nil_append]
  refine wp_region_mix [(0, true), (1, true), (2, true), (3, true), (4, true), (5, true), (6, true), (7, true), (8, true), (9, true), (10, true), (11, true)] [] (by kernel_rfl) (by kernel_rfl) (fun _ _ _ _ _ h => h) ?_
  simp only [pickM, pickO, List.getElem?_cons_zero, List.getElem?_cons_succ]
  repeat (first | (refine wpMix_read rfl (fun K hK => ?_)) | (refine wpMix_pure rfl (fun K hK => ?_))
          go_big_quiet_op
          first | (refine hK _ ?_; clear hK K) | (apply Exists.intro; refine ⟨fun _ => ?_, ?_⟩; (· (first | (go_at_call 65; exact Calls.quiet_of_same (hun _)))); refine hK _ ?_; clear hK K))
  refine wpMix_nil ?_
  intro _ hw'
  obtain ⟨nq, hw''⟩ := hw'
  subst hw''
  have y0 := (((unhide RH).quiet ((Chg.refl _ _).drewN nq))).own.cell 0
  simp at y0
  have q1H : Hid (Quiet w (w.drewN nq)) := (Chg.refl _ _).drewN nq
  clear c1 c2 hun
  go_wp2
  refine NoPanic.normal ?_
  go_wp2
  clear y0
  go_loopw [3, 22] (fun s z wr => ∃ i : Nat, i ≤ tr.length ∧ z = .int .i64 i ∧ s = .bool true ∧ Quiet w wr) (fun _ z _ => tr.length + 1 - (intOf z).toNat)
  case atStart => exact ⟨0, by omega, rfl, rfl, unhide q1H⟩
  case round =>
    clear q1H
    obtain ⟨i, hi, rfl, rfl, q⟩ := hrel
    have y0 := ((unhide RH).quiet q).own.cell 0
    simp at y0
    have few := (unhide IH).few
    have one := (unhide IH).one
    by_cases hlt : i < tr.length
    · have g1 : (i : Int) < (tr.length : Int) := by omega
      have i0 : (0 : Int) ≤ (i : Int) := by omega
      obtain ⟨r0, r1⟩ := ((unhide RH).quiet q).at i hlt
      have hsm := (unhide IH).small _ (List.getElem_mem hlt)
      have hfi := hide (fits_any (wr.alloc (.cells #[.int .i64 tr[i].1, .int .i64 tr[i].2] 75)) tr[i].1 tr[i].2)
      have hin : inP (tr[i].1, tr[i].2) = true := by
        obtain ⟨s1, s2, s3, s4⟩ := hsm
        simp [inP]; omega
      rw [hin] at hfi
      have wi : wrap64 ((i : Int) + 1) = (i : Int) + 1 := wrap_small (i + 1) (by omega)
      have hltH := hide hlt
      have qH : Hid (Quiet w (wr.alloc (.cells #[.int .i64 tr[i].1, .int .i64 tr[i].2] 75))) := Chg.alloc q _
      clear hsm q hi few one hin y0
      generalize tr[i].1 = X at *
      generalize tr[i].2 = Y at *
      clear hlt
      go_wp2_with fail
      refine (unhide hfi).mono ?_
      clear hfi r0 r1
      rintro e w3 ⟨rfl, hw3⟩
      subst hw3
      go_wp2
      go_roundw
      case rel => exact ⟨i + 1, unhide hltH, by simp; try exact wi, rfl, unhide qH⟩
      case measure =>
        have h := unhide hltH
        first
          | exact meas_plain h
          | exact meas_next h wi
    · have g1 : ¬ (i : Int) < (tr.length : Int) := by omega
      have g2 : (1 : Int) ≤ (tr.length : Int) := by omega
      have g3 : (tr.length : Int) ≤ 24 := by omega
      obtain rfl : i = tr.length := by omega
      have qH := hide q
      clear q hlt hi few one
      unfold okPost
      go_wp2
      go_ret
      exact ⟨rfl, unhide qH⟩
end Go.Proofs.Qxb6500366a
