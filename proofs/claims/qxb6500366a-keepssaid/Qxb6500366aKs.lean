/-
  KEEPS: stands, Facts. (gen6kb.py)
-/
import Derived.Test.Qxb6500366aKr
namespace Go.Proofs.Qxb6500366a
open Go.RowKit Go.Qx
set_option linter.unusedVariables false
set_option linter.unusedSimpArgs false

set_option maxHeartbeats 8000000 in
set_option maxRecDepth 100000 in
theorem stands_any (w : World) (x tb mb g gx gy : Nat) (tr : List Pt) (d : Pt) (R : Rep w x tb mb tr d) (G : RepG w g gx gy tr d) (I : Inv tr d) : Calls Try.prog 18 #[ptr x, ptr g] w (okPost w true) := by
  have hpr := hide (fun W => pair_any W d I.dsmall.i64)
  have c0 := G.cells.1
  have c2 : ∀ q : QW w, q.w.cell? ⟨g, 2, none⟩ = some (.int .i64 d.1) := fun q => (G.quiet q.q).cells.2.2.1
  have c3 : ∀ q : QW w, q.w.cell? ⟨g, 3, none⟩ = some (.int .i64 d.2) := fun q => (G.quiet q.q).cells.2.2.2
  have hS0 : Hid (showTo d tr 0 = pairL d) := rfl
  have RH := hide R
  have GH := hide G
  have IH := hide I
  clear R G I
  unfold ptr
  go_enter Try.func18, Try.ntmps18
  go_wp2
  refine wp_region_noPanic ?_
  try simp only [List.append_eq, List.cons_append, List.nil_append]
  refine wp_region_mixq [(0, true), (1, true), (2, true), (3, true), (4, true), (5, true), (6, true), (7, true), (8, true), (9, true)] [] (by kernel_rfl) (by kernel_rfl) (fun _ _ _ _ _ h => h) ?_
  simp only [pickM, pickO, List.getElem?_cons_zero, List.getElem?_cons_succ]
  repeat (first | (refine wpMix_read rfl (fun K hK => ?_)) | (refine wpMix_pure rfl (fun K hK => ?_))
          go_big_quiet_op
          first | (refine hK _ ?_; clear hK K) | (apply Exists.intro; refine ⟨fun _ => ?_, ?_⟩; (· (first | (go_at_call 10; exact Calls.in_qw (unhide hpr _)))); refine hK _ ?_; clear hK K))
  refine wpMix_nil ?_
  intro _ hw'
  obtain ⟨qq, hw''⟩ := hw'
  subst hw''
  have hqq := qq.q
  generalize qq.w = wq at *
  have q1H := hide hqq
  clear hqq c0 c2 c3 hpr
  go_wp2
  refine NoPanic.normal ?_
  go_wp2
  go_loopw [7, 6] (fun z s wr => ∃ i : Nat, i ≤ tr.length ∧ z = .int .i64 (i : Int) ∧ s = .string (str (showTo d tr i)) ∧ Quiet w wr) (fun z _ _ => tr.length + 1 - (intOf z).toNat)
  case atStart => exact ⟨0, by omega, rfl, by rw [unhide hS0], unhide q1H⟩
  case round =>
    clear q1H
    obtain ⟨i, hi, rfl, rfl, Q⟩ := hrel
    have few := (unhide IH).few
    have one := (unhide IH).one
    have R1 : Rep wr x tb mb tr d := (unhide RH).quiet Q
    have G1 := (unhide GH).quiet Q
    by_cases hlt : i < tr.length
    · have g1 : (i : Int) < (tr.length : Int) := by omega
      have i0 : (0 : Int) ≤ (i : Int) := by omega
      have hsm := (unhide IH).small _ (List.getElem_mem hlt)
      have hpr := hide (fun W => pair_any W tr[i] hsm.i64)
      have c0 : ∀ q : QW wr, q.w.cell? ⟨g, 0, none⟩ = some (.slice (some ⟨gx, 0, none⟩) tr.length 24) := fun q => (G1.quiet q.q).cells.1
      have c1 : ∀ q : QW wr, q.w.cell? ⟨g, 1, none⟩ = some (.slice (some ⟨gy, 0, none⟩) tr.length 24) := fun q => (G1.quiet q.q).cells.2.1
      have r0 : ∀ q : QW wr, q.w.cell? ⟨gx, i, none⟩ = some (.int .i64 tr[i].1) := fun q => ((G1.quiet q.q).at i hlt).1
      have r1 : ∀ q : QW wr, q.w.cell? ⟨gy, i, none⟩ = some (.int .i64 tr[i].2) := fun q => ((G1.quiet q.q).at i hlt).2
      have hsuc : Hid (str (showTo d tr (i + 1)) = str (showTo d tr i) ++ str (pairL tr[i])) := by
        show _ = _
        rw [showTo, getD_get tr i hlt, str_append]
      have hl1 := showTo_len d tr i
      have hl2 := pairL_len tr[i]
      have z1 : (str (showTo d tr i)).size ≤ 2000 := by rw [str_size]; omega
      have z2 : (str (pairL tr[i])).size ≤ 2000 := by rw [str_size]; omega
      have lti : i + 1 < 1073741824 := by omega
      have wi : wrap64 ((i : Int) + 1) = (i : Int) + 1 := wrap_small (i + 1) lti
      have QH := hide Q
      clear R1 G1 Q hi few one hsm hl1 hl2 lti
      generalize tr[i] = ti at *
      have hltH := hide hlt
      clear hlt
      generalize str (showTo d tr i) = s1 at *
      generalize str (pairL ti) = s2 at *
      go_wp2
      refine wp_region_noPanic ?_
      try simp only [List.append_eq, List.cons_append, List.nil_append]
      refine wp_region_mixq [(0, true), (1, true), (2, true), (3, true), (4, true), (5, true), (6, true), (7, true), (8, true), (9, true), (10, true), (11, true), (12, true), (13, true), (14, true), (15, true)] [] (by kernel_rfl) (by kernel_rfl) (fun _ _ _ _ _ h => h) ?_
      simp only [pickM, pickO, List.getElem?_cons_zero, List.getElem?_cons_succ]
      repeat (first | (refine wpMix_read rfl (fun K hK => ?_)) | (refine wpMix_pure rfl (fun K hK => ?_))
              go_big_quiet_op
              first | (refine hK _ ?_; clear hK K) | (apply Exists.intro; refine ⟨fun _ => ?_, ?_⟩; (· (first | (go_at_call 10; exact Calls.in_qw (unhide hpr _)))); refine hK _ ?_; clear hK K))
      refine wpMix_nil ?_
      intro _ hw'
      obtain ⟨qq, hw''⟩ := hw'
      subst hw''
      have hqq := qq.q
      generalize qq.w = wq at *
      have q2H : Hid (Quiet w wq) := Quiet.trans (unhide QH) hqq
      clear hqq c0 c1 r0 r1 hpr QH
      go_wp2
      refine NoPanic.normal ?_
      go_wp2
      go_roundw
      case rel => exact ⟨i + 1, unhide hltH, by simp; try exact wi, by rw [unhide hsuc], unhide q2H⟩
      case measure =>
        have h := unhide hltH
        first
          | exact meas_plain h
          | exact meas_next h wi
    · have g1 : ¬ (i : Int) < (tr.length : Int) := by omega
      obtain rfl : i = tr.length := by omega
      have I := unhide IH
      have hsh := hide (show_any wr x tb mb _ tr d R1 I.dsmall I.small)
      have hat : Hid (∀ W, Quiet wr W → _) := fun W q => at_any W x tb mb _ tr d (R1.quiet q) I.bd.pos
      have hhd : Hid (∀ W, Quiet wr W → _) := fun W q => heading_any W x tb mb _ tr d (R1.quiet q) I.dsmall
      have hho : Hid (∀ W, Quiet wr W → _) := fun W q => home_any W x tb mb _ tr d (R1.quiet q) one
      have hwi : Hid (∀ W, _) := fun W => withinK_any W (runOf tr).pos.1 (runOf tr).pos.2
      have hpos := runOf_pos tr one
      have hin : inP ((runOf tr).pos.1, (runOf tr).pos.2) = true := by
        have := inP_small.2 I.bd.pos
        exact this
      rw [hin] at hwi
      have gH : Hid (∀ W, Quiet wr W → W.cell? ⟨g, 0, none⟩ = some (.slice (some ⟨gx, 0, none⟩) tr.length 24) ∧ W.cell? ⟨g, 1, none⟩ = some (.slice (some ⟨gy, 0, none⟩) tr.length 24) ∧ W.cell? ⟨g, 2, none⟩ = some (.int .i64 d.1) ∧ W.cell? ⟨g, 3, none⟩ = some (.int .i64 d.2) ∧ W.cell? ⟨gx, tr.length - 1, none⟩ = some (.int .i64 (runOf tr).pos.1) ∧ W.cell? ⟨gy, tr.length - 1, none⟩ = some (.int .i64 (runOf tr).pos.2) ∧ W.cell? ⟨gx, 0, none⟩ = some (.int .i64 tr[0].1) ∧ W.cell? ⟨gy, 0, none⟩ = some (.int .i64 tr[0].2)) := fun W q => by
        have GW := G1.quiet q
        obtain ⟨a1, a2, a3, a4⟩ := GW.cells
        obtain ⟨b1, b2⟩ := GW.at (tr.length - 1) (by omega)
        obtain ⟨b3, b4⟩ := GW.at 0 one
        rw [hpos]
        exact ⟨a1, a2, a3, a4, b1, b2, b3, b4⟩
      have du : (-1 ≤ d.1 ∧ d.1 ≤ 1 ∧ -1 ≤ d.2 ∧ d.2 ≤ 1) ∧ d.1 * d.1 + d.2 * d.2 = 1 := by
        rcases I.dir with e | e | e | e <;> (rw [e]; decide)
      obtain ⟨⟨d1, d2, d3, d4⟩, d5⟩ := du
      have m1 := mul_abs (a := d.1) (b := d.1) (c := 1) (d := 1) ⟨d1, d2⟩ ⟨d1, d2⟩ (by decide) (by decide)
      have m2 := mul_abs (a := d.2) (b := d.2) (c := 1) (d := 1) ⟨d3, d4⟩ ⟨d3, d4⟩ (by decide) (by decide)
      obtain ⟨E1, hE1⟩ : ∃ E, d.1 * d.1 = E := ⟨_, rfl⟩
      obtain ⟨E2, hE2⟩ : ∃ E, d.2 * d.2 = E := ⟨_, rfl⟩
      rw [hE1] at m1 d5
      rw [hE2] at m2 d5
      obtain ⟨b, hb⟩ : ∃ b, tr.length - 1 = b := ⟨_, rfl⟩
      rw [hb] at gH
      have gg : (b : Int) < (tr.length : Int) := by omega
      have gg0 : (0 : Int) ≤ (b : Int) := by omega
      have gg1 : (0 : Int) < (tr.length : Int) := by omega
      have v1 : wrap64 ((tr.length : Int) - 1) = (b : Int) := by unfold wrap64; omega
      have v2 : wrap64 (d.1 * d.1) = E1 := by rw [hE1]; unfold wrap64; omega
      have v3 : wrap64 (d.2 * d.2) = E2 := by rw [hE2]; unfold wrap64; omega
      have v4 : wrap64 (E1 + E2) = 1 := by rw [d5]; unfold wrap64; omega
      have wH := hide (⟨v1, v2, v3, v4, d1, d2, d3, d4, gg, gg0, gg1⟩ : _ ∧ _ ∧ _ ∧ _ ∧ _ ∧ _ ∧ _ ∧ _ ∧ _ ∧ _ ∧ _)
      have QH := hide Q
      unfold ptr at hsh hat hhd hho
      generalize tr[0] = s at *
      generalize (runOf tr).pos = p at *
      clear R1 G1 Q hi hlt few one I hpos hin m1 m2 hE1 hE2 hb v1 v2 v3 v4 d1 d2 d3 d4 d5 gg gg0 gg1
      have hT : ((str (showTo d tr tr.length)).toList == (str (showTo d tr tr.length)).toList) = true := by simp
      generalize str (showTo d tr tr.length) = T at *
      go_wp2_with fail
      refine (unhide hsh).mono ?_
      clear hsh
      rintro e w2 ⟨rfl, q2⟩
      have q2H := hide q2
      have hat2 := hide (unhide hat _ q2)
      clear q2 hat
      go_wp2_with fail
      refine (unhide hat2).mono ?_
      clear hat2
      rintro e w3 ⟨rfl, q3⟩
      have q3H : Hid (Quiet wr w3) := Quiet.trans (unhide q2H) q3
      have hhd2 := hide (unhide hhd _ (unhide q3H))
      clear q3 hhd q2H
      go_wp2_with fail
      refine (unhide hhd2).mono ?_
      clear hhd2
      rintro e w4 ⟨rfl, q4⟩
      have q4H : Hid (Quiet wr w4) := Quiet.trans (unhide q3H) q4
      have hho2 := hide (unhide hho _ (unhide q4H))
      clear q4 hho q3H
      go_wp2_with fail
      refine (unhide hho2).mono ?_
      clear hho2
      rintro e w5 ⟨rfl, q5⟩
      have q5H : Hid (Quiet wr w5) := Quiet.trans (unhide q4H) q5
      have hwi2 := hide (unhide hwi w5)
      have fin : Hid (Quiet w w5) := Quiet.trans (unhide QH) (unhide q5H)
      obtain ⟨a1, a2, a3, a4, b1, b2, b3, b4⟩ := unhide gH w5 (unhide q5H)
      obtain ⟨v1, v2, v3, v4, d1, d2, d3, d4, gg, gg0, gg1⟩ := unhide wH
      clear q5 q4H q5H QH gH wH hwi
      unfold okPost
      obtain ⟨p1, p2⟩ := p
      obtain ⟨s1, s2⟩ := s
      simp only at b1 b2 b3 b4 hwi2
      by_cases e1 : p1 = s1
      · by_cases e2 : p2 = s2
        · rw [show decide ((p1, p2) = (s1, s2)) = true by simp [e1, e2]]
          subst e1 e2
          go_wp2_with fail
          refine (unhide hwi2).mono ?_
          rintro e w6 ⟨rfl, hw6⟩
          subst hw6
          go_wp2
          go_ret
          exact ⟨by first | rfl | simp, unhide fin⟩
        · rw [show decide ((p1, p2) = (s1, s2)) = false by simp [e2]]
          subst e1
          go_wp2_with fail
          refine (unhide hwi2).mono ?_
          rintro e w6 ⟨rfl, hw6⟩
          subst hw6
          go_wp2
          go_ret
          exact ⟨by first | rfl | simp [e2], unhide fin⟩
      · rw [show decide ((p1, p2) = (s1, s2)) = false by simp [e1]]
        go_wp2_with fail
        refine (unhide hwi2).mono ?_
        rintro e w6 ⟨rfl, hw6⟩
        subst hw6
        go_wp2
        go_ret
        exact ⟨by first | rfl | simp [e1], unhide fin⟩

theorem facts_any (w : World) : Calls Try.prog 6 #[] w (okPost w true) := by
  have h1 := hide (pair_any w (-1, 0) (by decide))
  have h2 := hide (fun W => pair_any W (1048576, -1048576) (by decide))
  have h3 := hide (fun W => pair_any W (100, -20) (by decide))
  have e1 : str (pairL (-1, 0)) = ⟨#[45, 49, 44, 48, 59]⟩ := by decide
  have e2 : str (pairL (1048576, -1048576)) = ⟨#[49, 48, 52, 56, 53, 55, 54, 44, 45, 49, 48, 52, 56, 53, 55, 54, 59]⟩ := by decide
  have e3 : str (pairL (100, -20)) = ⟨#[49, 48, 48, 44, 45, 50, 48, 59]⟩ := by decide
  rw [e1] at h1
  rw [e2] at h2
  rw [e3] at h3
  clear e1 e2 e3
  unfold okPost
  go_enter Try.func6, Try.ntmps6
  go_wp2_with fail
  refine (unhide h1).mono ?_
  rintro e w1 ⟨rfl, q1⟩
  have q1H := hide q1
  clear q1 h1
  go_wp2_with fail
  refine (unhide h2 _).mono ?_
  rintro e w2 ⟨rfl, q2⟩
  have q2H : Hid (Quiet w w2) := Quiet.trans (unhide q1H) q2
  clear q2 h2 q1H
  go_wp2_with fail
  refine (unhide h3 _).mono ?_
  rintro e w3 ⟨rfl, q3⟩
  have q3H : Hid (Quiet w w3) := Quiet.trans (unhide q2H) q3
  clear q3 h3 q2H
  go_wp2
  go_ret
  exact ⟨by first | rfl | simp | decide, unhide q3H⟩
end Go.Proofs.Qxb6500366a
