/-
  KEEPS: boxed. (gen6kb.py)
-/
import Derived.Test.Qxb6500366aKr
namespace Go.Proofs.Qxb6500366a
open Go.RowKit Go.Qx
set_option linter.unusedVariables false
set_option linter.unusedSimpArgs false

theorem side_dot (p : Pt) (k : Nat) (hk : k < 4) : sideP p.1 p.2 k = dotP p (quart (1, 0) k) := by
  unfold sideP dotP
  rcases (by omega : k = 0 ∨ k = 1 ∨ k = 2 ∨ k = 3) with rfl | rfl | rfl | rfl <;> simp [quart]
def touchTo (tr : List Pt) (k : Nat) (r : Int) : Nat → Bool
  | 0 => false
  | i + 1 => touchTo tr k r i || decide (sideP (tr.getD i (0, 0)).1 (tr.getD i (0, 0)).2 k = r)
theorem touch_of (tr : List Pt) (k : Nat) (r : Int) (q : Nat) (hq : sideP (tr.getD q (0, 0)).1 (tr.getD q (0, 0)).2 k = r) : ∀ i, q < i → touchTo tr k r i = true
  | 0, h => by omega
  | i + 1, h => by
    rw [touchTo]
    by_cases e : q = i
    · subst e; rw [decide_eq_true hq, Bool.or_true]
    · rw [touch_of tr k r q hq i (by omega)]; rfl
theorem modP_small (k : Nat) (hk : k < 4) : modP (k : Int) = k := by unfold modP; omega
theorem box_law {tr : List Pt} {d : Pt} (I : Inv tr d) (k : Nat) (hk : k < 4) : (∀ q, q < tr.length → sideP (tr.getD q (0, 0)).1 (tr.getD q (0, 0)).2 k ≤ reachP (runOf tr) k) ∧ touchTo tr k (reachP (runOf tr) k) tr.length = true := by
  have e : reachP (runOf tr) k = bestTo tr (quart (1, 0) k) tr.length := by rw [reach_all tr I.one I.small, modP_small k hk]
  obtain ⟨h1, h2, h3⟩ := best_spec tr (quart (1, 0) k) tr.length (Nat.le_refl _)
  rw [e]
  refine ⟨fun q hq => by rw [side_dot _ k hk]; exact h1 q hq, ?_⟩
  have h0 := I.one
  rcases h3 with h3 | ⟨q, hq, h3⟩
  · refine touch_of tr k _ 0 ?_ _ h0
    have h4 := h1 0 h0
    rw [side_dot _ k hk]
    have h5 : -1048576 ≤ dotP (tr.getD 0 (0, 0)) (quart (1, 0) k) := by
      have hs := I.small _ (List.getElem_mem h0)
      rw [← getD_get tr 0 h0] at hs
      obtain ⟨s1, s2, s3, s4⟩ := hs
      rw [← side_dot _ k hk]
      unfold sideP
      (repeat' split) <;> omega
    omega
  · exact touch_of tr k _ q (by rw [side_dot _ k hk, h3]) _ hq

set_option maxHeartbeats 8000000 in
set_option maxRecDepth 100000 in
theorem boxed_any (w : World) (x tb mb g gx gy : Nat) (tr : List Pt) (d : Pt) (R : Rep w x tb mb tr d) (G : RepG w g gx gy tr d) (I : Inv tr d) : Calls Try.prog 20 #[ptr x, ptr g] w (okPost w true) := by
  have RH := hide R
  have GH := hide G
  have IH := hide I
  clear R G I
  unfold ptr
  go_enter Try.func20, Try.ntmps20
  go_wp2
  go_loopw [5] (fun z wr => ∃ k : Nat, k ≤ 4 ∧ z = .int .i64 (k : Int) ∧ Quiet w wr) (fun z _ => 5 - (intOf z).toNat)
  case atStart => exact ⟨0, by omega, rfl, Chg.refl _ _⟩
  case round =>
    obtain ⟨k, hk, rfl, Q⟩ := hrel
    by_cases hk4 : k < 4
    · have k1 : (k : Int) < 4 := by omega
      have R1 : Rep wr x tb mb tr d := (unhide RH).quiet Q
      have G1 := (unhide GH).quiet Q
      have I := unhide IH
      obtain ⟨c0, c1, c2, c3⟩ := G1.cells
      have hre := hide (reach_any wr x tb mb _ tr d R1 (box_small tr I.one I.small).1 (box_small tr I.one I.small).2 (k : Int))
      obtain ⟨bl1, bl2⟩ := box_law I k hk4
      have blH : Hid (∀ q, q < tr.length → sideP (tr.getD q (0, 0)).1 (tr.getD q (0, 0)).2 k ≤ reachP (runOf tr) k) := bl1
      have toH := hide bl2
      obtain ⟨r, hr⟩ : ∃ r, reachP (runOf tr) k = r := ⟨_, rfl⟩
      rw [hr] at hre blH toH
      have QH := hide Q
      have k4H := hide hk4
      unfold ptr at hre
      clear R1 G1 Q hk hk4 I bl1 bl2 hr c1 c2 c3
      go_wp2_with fail
      refine (unhide hre).mono ?_
      clear hre
      rintro e w2 ⟨rfl, hw2⟩
      subst hw2
      go_wp2
      clear c0
      go_loopw [23, 7, 8] (fun z t o wv => ∃ i : Nat, i ≤ tr.length ∧ z = .int .i64 (i : Int) ∧ t = .bool (touchTo tr k r i) ∧ o = .bool false ∧ Quiet w wv) (fun z _ _ _ => tr.length + 1 - (intOf z).toNat)
      case atStart => exact ⟨0, by omega, rfl, rfl, rfl, unhide QH⟩
      case round =>
        obtain ⟨i, hi, rfl, rfl, rfl, Q⟩ := hrel
        by_cases hlt : i < tr.length
        · have g1 : (i : Int) < (tr.length : Int) := by omega
          have i0 : (0 : Int) ≤ (i : Int) := by omega
          have G1 := (unhide GH).quiet Q
          obtain ⟨c0, c1, c2, c3⟩ := G1.cells
          obtain ⟨r0, r1⟩ := G1.at i hlt
          have few := (unhide IH).few
          obtain ⟨s1, s2, s3, s4⟩ := (unhide IH).small _ (List.getElem_mem hlt)
          have hsd := hide (fun W => side_any W tr[i].1 tr[i].2 k (unhide k4H) (by omega) (by omega))
          have hle := unhide blH i hlt
          have hst : Hid (touchTo tr k r (i + 1) = (touchTo tr k r i || decide (sideP tr[i].1 tr[i].2 k = r))) := by
            show _ = _
            rw [touchTo, getD_get tr i hlt]
          rw [getD_get tr i hlt] at hle
          obtain ⟨sd, hsdE⟩ : ∃ s, sideP tr[i].1 tr[i].2 k = s := ⟨_, rfl⟩
          rw [hsdE] at hsd hle hst
          obtain ⟨X, hX⟩ : ∃ X, tr[i].1 = X := ⟨_, rfl⟩
          obtain ⟨Y, hY⟩ : ∃ Y, tr[i].2 = Y := ⟨_, rfl⟩
          rw [hX] at hsd r0
          rw [hY] at hsd r1
          obtain ⟨T, hT⟩ : ∃ T, touchTo tr k r i = T := ⟨_, rfl⟩
          rw [hT] at hst ⊢
          have hov : ¬ r < sd := by omega
          have lti : i + 1 < 1073741824 := by omega
          have wi : wrap64 ((i : Int) + 1) = (i : Int) + 1 := wrap_small (i + 1) lti
          have QH2 := hide Q
          have hltH := hide hlt
          have hsd2 := unhide hsd
          clear G1 Q hi hlt few s1 s2 s3 s4 hsdE hX hY hT hle lti c2 c3 hsd QH
          cases T with
          | true =>
            rw [Bool.true_or] at hst
            have he : True := trivial
            go_wp2
            go_quiet ((go_at_call 38; exact Calls.quiet_of_same (hsd2 _)))
            go_wp2
            go_roundw
            case rel => exact ⟨i + 1, unhide hltH, by simp; try exact wi, by rw [unhide hst]; try (first | rfl | simp [he]), by first | rfl | (rw [decide_eq_false (show ¬ r < sd from Int.not_lt.mpr hov)]) | (rw [decide_eq_false hov]), (unhide QH2).drewN _⟩
            case measure =>
              have h := unhide hltH
              first
                | exact meas_plain h
                | exact meas_next h wi
          | false =>
            rw [Bool.false_or] at hst
            by_cases he : sd = r
            · rw [decide_eq_true he] at hst
              subst he
              have he : True := trivial
              go_wp2
              go_quiet ((go_at_call 38; exact Calls.quiet_of_same (hsd2 _)))
              go_wp2
              go_roundw
              case rel => exact ⟨i + 1, unhide hltH, by simp; try exact wi, by rw [unhide hst]; try (first | rfl | simp [he]), by first | rfl | (rw [decide_eq_false (show ¬ r < sd from Int.not_lt.mpr hov)]) | (rw [decide_eq_false hov]), (unhide QH2).drewN _⟩
              case measure =>
                have h := unhide hltH
                first
                  | exact meas_plain h
                  | exact meas_next h wi
            · rw [decide_eq_false he] at hst
              go_wp2
              go_quiet ((go_at_call 38; exact Calls.quiet_of_same (hsd2 _)))
              go_wp2
              go_roundw
              case rel => exact ⟨i + 1, unhide hltH, by simp; try exact wi, by rw [unhide hst]; try (first | rfl | simp [he]), by first | rfl | (rw [decide_eq_false (show ¬ r < sd from Int.not_lt.mpr hov)]) | (rw [decide_eq_false hov]), (unhide QH2).drewN _⟩
              case measure =>
                have h := unhide hltH
                first
                  | exact meas_plain h
                  | exact meas_next h wi
        · have g1 : ¬ (i : Int) < (tr.length : Int) := by omega
          obtain rfl : i = tr.length := by omega
          rw [unhide toH]
          have ltk : k + 1 < 1073741824 := by have := unhide k4H; omega
          have wk : wrap64 ((k : Int) + 1) = (k : Int) + 1 := wrap_small (k + 1) ltk
          have QH2 := hide Q
          clear Q hlt hi QH ltk
          go_wp2
          go_roundw
          case rel => exact ⟨k + 1, unhide k4H, by simp; try exact wk, unhide QH2⟩
          case measure =>
            have h := unhide k4H
            first
              | (show 5 - ((k : Int) + 1).toNat < 5 - (k : Int).toNat; omega)
              | (rw [wk]; show 5 - ((k : Int) + 1).toNat < 5 - (k : Int).toNat; omega)
    · have k1 : ¬ (k : Int) < 4 := by omega
      have QH := hide Q
      clear Q hk hk4
      unfold okPost
      go_wp2
      go_ret
      exact ⟨rfl, unhide QH⟩
end Go.Proofs.Qxb6500366a
