/-
  THE MODEL TURTLE: among, Seen, Knots. (gen6mod3.py)
-/
import Derived.Test.Qxb6500366aMod
namespace Go.Proofs.Qxb6500366a
open Go.RowKit Go.Qx
set_option linter.unusedVariables false
set_option linter.unusedSimpArgs false

theorem among_bd (tr : List Pt) (p : Pt) : ∀ i, 0 ≤ amongP tr p i ∧ amongP tr p i ≤ i
  | 0 => by simp [amongP]
  | i + 1 => by
    have := among_bd tr p i
    rw [amongP]
    split <;> (push_cast; omega)

set_option maxHeartbeats 4000000 in
theorem among_any (w : World) (m rb : Nat) (tr : List Pt) (d : Pt) (R : RepM w m rb tr d) (n : Nat) (hn : n ≤ tr.length) (p : Pt) : Calls Try.prog 64 #[ptr m, .int .i64 n, ptv p] w fun e w' => e = .returned (.int .i64 (amongP tr p n)) ∧ Quiet w w' := by
  have RH := hide R
  have few := R.few
  have q0 : Hid (Quiet w (w.alloc (.cells #[.int .i64 p.1, .int .i64 p.2] 75))) := Chg.alloc (Chg.refl (fun _ => False) w) _
  have B0 : Hid (Blk (w.alloc (.cells #[.int .i64 p.1, .int .i64 p.2] 75)) w.heap.size 75 [.int .i64 p.1, .int .i64 p.2]) := Blk.new w 75 [.int .i64 p.1, .int .i64 p.2]
  have nH := hide (⟨hn, few⟩ : _ ∧ _)
  clear R few hn
  unfold ptv ptr
  go_enter Try.func64, Try.ntmps64
  go_wp2
  generalize w.alloc (.cells #[.int .i64 p.1, .int .i64 p.2] 75) = W0 at *
  go_loopw [8, 7] (fun z c wr => ∃ i : Nat, i ≤ n ∧ z = .int .i64 (i : Int) ∧ c = .int .i64 (amongP tr p i) ∧ Quiet w wr ∧ Blk wr w.heap.size 75 [.int .i64 p.1, .int .i64 p.2]) (fun z _ _ => n + 1 - (intOf z).toNat)
  case atStart => exact ⟨0, by omega, rfl, rfl, unhide q0, unhide B0⟩
  case round =>
    clear q0 B0
    obtain ⟨i, hi, rfl, rfl, Q, B⟩ := hrel
    by_cases hlt : i < n
    · have g1 : (i : Int) < (n : Int) := by omega
      have i0 : (0 : Int) ≤ (i : Int) := by omega
      have hn := (unhide nH).1
      have few := (unhide nH).2
      have hlt2 : i < tr.length := by omega
      have g2 : (i : Int) < (tr.length : Int) := by omega
      have R1 := (unhide RH).quiet Q
      obtain ⟨r0, r1⟩ := R1.at i hlt2
      have c0 := R1.own.cell 0
      have b0 := B.cell 0
      have b1 := B.cell 1
      simp at c0 b0 b1
      have bd := among_bd tr p i
      have hs : amongP tr p (i + 1) = amongP tr p i + (if tr[i] = p then 1 else 0) := by rw [amongP, getD_get tr i hlt2]
      have hsH := hide hs
      obtain ⟨A, hA⟩ : ∃ A, amongP tr p i = A := ⟨_, rfl⟩
      rw [hA] at bd hsH ⊢
      have wA : wrap64 (A + 1) = A + 1 := by unfold wrap64; omega
      have wi : wrap64 ((i : Int) + 1) = (i : Int) + 1 := wrap_small (i + 1) (by omega)
      have QH := hide Q
      have BH := hide B
      have hltH := hide hlt
      obtain ⟨X, hX⟩ : ∃ X, tr[i].1 = X := ⟨_, rfl⟩
      obtain ⟨Y, hY⟩ : ∃ Y, tr[i].2 = Y := ⟨_, rfl⟩
      rw [hX] at r0
      rw [hY] at r1
      by_cases h1 : X = p.1 ∧ Y = p.2
      · have e : tr[i] = p := Prod.ext (by rw [hX]; exact h1.1) (by rw [hY]; exact h1.2)
        rw [if_pos e] at hsH
        obtain ⟨rfl, rfl⟩ := h1
        clear R1 Q B bd hs hA hX hY e hn few hlt2 hi hlt
        go_wp2
        go_quiet (fail)
        go_wp2
        go_roundw
        case rel => exact ⟨i + 1, unhide hltH, by simp; try exact wi, by rw [unhide hsH]; first | rfl | rw [wA], (unhide QH).drewN _, (unhide BH).drewN _⟩
        case measure =>
          have h := unhide hltH
          first
            | exact meas_plain h
            | exact meas_next h wi
      · have e : ¬ tr[i] = p := fun e => h1 ⟨by rw [← hX, e], by rw [← hY, e]⟩
        rw [if_neg e, Int.add_zero] at hsH
        clear R1 Q B bd hs hA hX hY e hn few hlt2 hi hlt
        by_cases hx : X = p.1
        · have hy : ¬ Y = p.2 := fun hy => h1 ⟨hx, hy⟩
          subst hx
          clear h1
          go_wp2
          go_quiet (fail)
          go_wp2
          go_roundw
          case rel => exact ⟨i + 1, unhide hltH, by simp; try exact wi, by rw [unhide hsH], (unhide QH).drewN _, (unhide BH).drewN _⟩
          case measure =>
            have h := unhide hltH
            first
              | exact meas_plain h
              | exact meas_next h wi
        · clear h1
          go_wp2
          go_quiet (fail)
          go_wp2
          go_roundw
          case rel => exact ⟨i + 1, unhide hltH, by simp; try exact wi, by rw [unhide hsH], (unhide QH).drewN _, (unhide BH).drewN _⟩
          case measure =>
            have h := unhide hltH
            first
              | exact meas_plain h
              | exact meas_next h wi
    · have g1 : ¬ (i : Int) < (n : Int) := by omega
      obtain rfl : i = n := by omega
      have QH := hide Q
      clear Q B hlt hi
      go_wp2
      go_ret
      exact ⟨rfl, unhide QH⟩

set_option maxHeartbeats 1000000 in
theorem seenM_any (w : World) (m rb : Nat) (tr : List Pt) (d : Pt) (R : RepM w m rb tr d) (x y : Int) : Calls Try.prog 55 #[ptr m, .int .i64 x, .int .i64 y] w fun e w' => e = .returned (.int .i64 (amongP tr (x, y) tr.length)) ∧ Quiet w w' := by
  have ha := hide (among_any w m rb tr d R tr.length (Nat.le_refl _) (x, y))
  have c0 := R.own.cell 0
  simp at c0
  clear R
  unfold ptv ptr at ha
  unfold ptr
  go_enter Try.func55, Try.ntmps55
  go_wp2_with fail
  refine (unhide ha).mono ?_
  rintro e w1 ⟨rfl, Q⟩
  have QH := hide Q
  clear Q ha
  go_wp2
  go_ret
  exact ⟨rfl, unhide QH⟩

theorem knots_bd (tr : List Pt) : ∀ i, i ≤ 24 → 0 ≤ knotsTo tr i ∧ knotsTo tr i ≤ 24 * i
  | 0, _ => by simp [knotsTo]
  | i + 1, h => by
    have h1 := knots_bd tr i (by omega)
    have h2 := among_bd tr (tr.getD i (0, 0)) i
    rw [knotsTo]
    push_cast
    omega

set_option maxHeartbeats 4000000 in
theorem knotsM_any (w : World) (m rb : Nat) (tr : List Pt) (d : Pt) (R : RepM w m rb tr d) : Calls Try.prog 56 #[ptr m] w fun e w' => e = .returned (.int .i64 (knotsTo tr tr.length)) ∧ Quiet w w' := by
  have RH := hide R
  have few := R.few
  have c0 := R.own.cell 0
  simp at c0
  have fH := hide few
  clear R few
  unfold ptr
  go_enter Try.func56, Try.ntmps56
  go_wp2
  clear c0
  go_loopw [10, 3] (fun z c wr => ∃ i : Nat, i ≤ tr.length ∧ z = .int .i64 (i : Int) ∧ c = .int .i64 (knotsTo tr i) ∧ Quiet w wr) (fun z _ _ => tr.length + 1 - (intOf z).toNat)
  case atStart => exact ⟨0, by omega, rfl, rfl, Chg.refl _ _⟩
  case round =>
    obtain ⟨i, hi, rfl, rfl, Q⟩ := hrel
    by_cases hlt : i < tr.length
    · have g1 : (i : Int) < (tr.length : Int) := by omega
      have i0 : (0 : Int) ≤ (i : Int) := by omega
      have few := unhide fH
      have R1 := (unhide RH).quiet Q
      obtain ⟨r0, r1⟩ := R1.at i hlt
      have c0 := R1.own.cell 0
      simp at c0
      have ha := hide (among_any wr m rb tr d R1 i hi tr[i])
      have b1 := among_bd tr tr[i] i
      have b2 := knots_bd tr i (by omega)
      have hs : Hid (knotsTo tr (i + 1) = knotsTo tr i + amongP tr tr[i] i) := by show _ = _; rw [knotsTo, getD_get tr i hlt]
      have wk : wrap64 (knotsTo tr i + amongP tr tr[i] i) = knotsTo tr i + amongP tr tr[i] i := by unfold wrap64; omega
      have wi : wrap64 ((i : Int) + 1) = (i : Int) + 1 := wrap_small (i + 1) (by omega)
      have QH := hide Q
      have hltH := hide hlt
      unfold ptv ptr at ha
      clear R1 Q b1 b2 few hi
      generalize tr[i] = p at *
      generalize amongP tr p i = A at *
      generalize knotsTo tr i = K0 at *
      clear hlt
      go_wp2_with fail
      refine (unhide ha).mono ?_
      rintro e w1 ⟨rfl, Q1⟩
      have Q1H : Hid (Quiet w w1) := Quiet.trans (unhide QH) Q1
      clear Q1 QH ha r0 r1 c0
      go_wp2
      go_roundw
      case rel => exact ⟨i + 1, unhide hltH, by simp; try exact wi, by rw [unhide hs]; first | rfl | rw [wk], unhide Q1H⟩
      case measure =>
        have h := unhide hltH
        first
          | exact meas_plain h
          | exact meas_next h wi
    · have g1 : ¬ (i : Int) < (tr.length : Int) := by omega
      obtain rfl : i = tr.length := by omega
      have QH := hide Q
      clear Q hlt hi
      go_wp2
      go_ret
      exact ⟨rfl, unhide QH⟩
end Go.Proofs.Qxb6500366a
