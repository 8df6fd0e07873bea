/-
  KEEPS: swept, tied. (gen6kr.py)
-/
import Derived.Test.Qxb6500366aKg
namespace Go.Proofs.Qxb6500366a
open Go.RowKit Go.Qx
set_option linter.unusedVariables false
set_option linter.unusedSimpArgs false

theorem tmod_next (i n j : Nat) (h : (i + 1) % n = j) : ((i : Int) + 1).tmod (n : Int) = (j : Int) := by
  have e : ((i : Int) + 1) = ((i + 1 : Nat) : Int) := rfl
  rw [e, Int.tmod_eq_emod_of_nonneg (Int.natCast_nonneg _), ← Int.natCast_emod, h]
theorem mul24 (n i : Nat) (h : n ≤ 24) (h2 : i ≤ 24) : (n : Int) * i ≤ 576 := by
  have h3 : n * i ≤ 24 * 24 := Nat.mul_le_mul h h2
  have : ((n * i : Nat) : Int) ≤ 576 := by omega
  rw [Int.natCast_mul] at this
  exact this

set_option maxHeartbeats 4000000 in
theorem swept_any (w : World) (g gx gy : Nat) (tr : List Pt) (d : Pt) (R : RepG w g gx gy tr d) (hsm : ∀ p ∈ tr, Small p) : Calls Try.prog 22 #[ptr g] w fun e w' => e = .returned (.int .i64 (sweptTo tr tr.length)) ∧ Quiet w w' := by
  have RH := hide R
  have fH := hide R.few
  have smH := hide hsm
  obtain ⟨c0, c1, c2, c3⟩ := R.cells
  clear R c1 c2 c3 hsm
  unfold ptr
  go_enter Try.func22, Try.ntmps22
  go_wp2
  clear c0
  go_loopw [11, 3] (fun z c wr => ∃ i : Nat, i ≤ tr.length ∧ z = .int .i64 (i : Int) ∧ c = .int .i64 (sweptTo tr i) ∧ Quiet w wr) (fun z _ _ => tr.length + 1 - (intOf z).toNat)
  case atStart => exact ⟨0, by omega, rfl, rfl, Chg.refl _ _⟩
  case round =>
    obtain ⟨i, hi, rfl, rfl, Q⟩ := hrel
    by_cases hlt : i < tr.length
    · have g1 : (i : Int) < (tr.length : Int) := by omega
      have i0 : (0 : Int) ≤ (i : Int) := by omega
      have few := unhide fH
      have R1 := (unhide RH).quiet Q
      obtain ⟨c0, c1, _, _⟩ := R1.cells
      obtain ⟨r0, r1⟩ := R1.at i hlt
      obtain ⟨j, hj⟩ : ∃ j, (i + 1) % tr.length = j := ⟨_, rfl⟩
      have hjl : j < tr.length := by rw [← hj]; exact Nat.mod_lt _ (by omega)
      obtain ⟨t0, t1⟩ := R1.at j hjl
      obtain ⟨s1, s2, s3, s4⟩ := unhide smH _ (List.getElem_mem hlt)
      obtain ⟨s5, s6, s7, s8⟩ := unhide smH _ (List.getElem_mem hjl)
      have hst : Hid (sweptTo tr (i + 1) = sweptTo tr i + (tr[i].1 - tr[j].1) * (tr[i].2 + tr[j].2)) := by
        show _ = _
        rw [sweptTo, getD_get tr i hlt]
        unfold nextQ
        rw [hj, getD_get tr j hjl]; rfl
      have sb := swept_bd tr (unhide smH) i hi
      obtain ⟨X, hX⟩ : ∃ X, tr[i].1 = X := ⟨_, rfl⟩
      obtain ⟨Y, hY⟩ : ∃ Y, tr[i].2 = Y := ⟨_, rfl⟩
      obtain ⟨U, hU⟩ : ∃ X, tr[j].1 = X := ⟨_, rfl⟩
      obtain ⟨V, hV⟩ : ∃ Y, tr[j].2 = Y := ⟨_, rfl⟩
      rw [hX] at r0 s1 s2 hst
      rw [hY] at r1 s3 s4 hst
      rw [hU] at t0 s5 s6 hst
      rw [hV] at t1 s7 s8 hst
      obtain ⟨A, hA⟩ : ∃ A, sweptTo tr i = A := ⟨_, rfl⟩
      rw [hA] at sb hst ⊢
      obtain ⟨E1, hE1⟩ : ∃ E, X - U = E := ⟨_, rfl⟩
      obtain ⟨E2, hE2⟩ : ∃ E, Y + V = E := ⟨_, rfl⟩
      rw [hE1, hE2] at hst
      have mb := mul_abs (a := E1) (b := E2) (c := 2097152) (d := 2097152) (by omega) (by omega) (by decide) (by decide)
      obtain ⟨E3, hE3⟩ : ∃ E, E1 * E2 = E := ⟨_, rfl⟩
      rw [hE3] at hst mb
      obtain ⟨E4, hE4⟩ : ∃ E, A + E3 = E := ⟨_, rfl⟩
      rw [hE4] at hst
      have n0 : ((tr.length : Int) == 0) = false := by rw [beq_eq_false_iff_ne]; omega
      have n9 : ((tr.length : Int) == -1) = false := by rw [beq_eq_false_iff_ne]; omega
      have j0 : (0 : Int) ≤ (j : Int) := by omega
      have j1 : (j : Int) < (tr.length : Int) := by omega
      have ltj : j < 1073741824 := by omega
      have lti : i + 1 < 1073741824 := by omega
      have w1 : wrap64 (X - U) = E1 := by rw [hE1]; unfold wrap64; omega
      have w2 : wrap64 (Y + V) = E2 := by rw [hE2]; unfold wrap64; omega
      have w3 : wrap64 (E1 * E2) = E3 := by rw [hE3]; unfold wrap64; omega
      have w4 : wrap64 (A + E3) = E4 := by rw [hE4]; unfold wrap64; omega
      have v1 : IntKind.i64.wrap (X - U) = E1 := by rw [IntKind.wrap_i64, hE1]; omega
      have v2 : IntKind.i64.wrap (Y + V) = E2 := by rw [IntKind.wrap_i64, hE2]; omega
      have v3 : IntKind.i64.wrap (E1 * E2) = E3 := by rw [IntKind.wrap_i64, hE3]; omega
      have v4 : IntKind.i64.wrap (A + E3) = E4 := by rw [IntKind.wrap_i64, hE4]; omega
      have wi : wrap64 ((i : Int) + 1) = (i : Int) + 1 := wrap_small (i + 1) lti
      have hm : ((i : Int) + 1).tmod (tr.length : Int) = (j : Int) := tmod_next i tr.length j hj
      have wj : wrap64 (j : Int) = (j : Int) := wrap_small j ltj
      have QH := hide Q
      have hltH := hide hlt
      clear R1 Q s1 s2 s3 s4 s5 s6 s7 s8 sb mb hE1 hE2 hE3 hE4 hA hX hY hU hV few hi hlt hj hjl lti ltj
      have wH := hide (⟨w1, w2, w3, w4, v1, v2, v3, v4⟩ : _ ∧ _ ∧ _ ∧ _ ∧ _ ∧ _ ∧ _ ∧ _)
      clear w1 w2 w3 w4 v1 v2 v3 v4
      go_wp2
      obtain ⟨w1, w2, w3, w4, v1, v2, v3, v4⟩ := unhide wH
      go_quiet (fail)
      go_wp2
      go_roundw
      case rel => exact ⟨i + 1, unhide hltH, by simp; try exact wi, by rw [unhide hst]; try rw [w4], (unhide QH).drewN _⟩
      case measure =>
        have h := unhide hltH
        first
          | exact meas_plain h
          | exact meas_next h wi
    · have g1 : ¬ (i : Int) < (tr.length : Int) := by omega
      obtain rfl : i = tr.length := by omega
      have QH := hide Q
      clear Q hlt hi
      go_wp2
      go_ret
      exact ⟨rfl, unhide QH⟩

/-! ### Seen and knots -/
def seenTo (tr : List Pt) (m : Nat) : Nat → Int
  | 0 => 0
  | i + 1 => seenTo tr m i + amongP tr (tr.getD i (0, 0)) m
theorem seen_next (tr : List Pt) (m : Nat) : ∀ i, seenTo tr (m + 1) i = seenTo tr m i + amongP tr (tr.getD m (0, 0)) i
  | 0 => by simp [seenTo, amongP]
  | i + 1 => by
    rw [seenTo, seen_next tr m i, seenTo, amongP, amongP]
    by_cases e : tr.getD m (0, 0) = tr.getD i (0, 0)
    · rw [if_pos e, if_pos e.symm]; omega
    · rw [if_neg e, if_neg (fun h => e h.symm)]; omega
theorem seen_knots (tr : List Pt) : ∀ i, seenTo tr i i = 2 * knotsTo tr i + i
  | 0 => rfl
  | i + 1 => by
    rw [seenTo, seen_next, seen_knots tr i, knotsTo, amongP, if_pos rfl]
    push_cast
    omega
theorem seen_bd (tr : List Pt) (m : Nat) : ∀ i, 0 ≤ seenTo tr m i ∧ seenTo tr m i ≤ m * i
  | 0 => by simp [seenTo]
  | i + 1 => by
    have h1 := seen_bd tr m i
    have h2 := among_bd tr (tr.getD i (0, 0)) m
    rw [seenTo]
    push_cast
    rw [Int.mul_add, Int.mul_one]
    omega

set_option maxHeartbeats 4000000 in
theorem tied_any (w : World) (x tb mb g gx gy : Nat) (tr : List Pt) (d : Pt) (R : Rep w x tb mb tr d) (G : RepG w g gx gy tr d) (I : Inv tr d) : Calls Try.prog 19 #[ptr x, ptr g] w (okPost w true) := by
  have RH := hide R
  have GH := hide G
  have IH := hide I
  obtain ⟨c0, c1, _, _⟩ := G.cells
  clear R G I c1
  unfold ptr
  go_enter Try.func19, Try.ntmps19
  go_wp2
  clear c0
  go_loopw [14, 5] (fun z c wr => ∃ i : Nat, i ≤ tr.length ∧ z = .int .i64 (i : Int) ∧ c = .int .i64 (seenTo tr tr.length i) ∧ Quiet w wr) (fun z _ _ => tr.length + 1 - (intOf z).toNat)
  case atStart => exact ⟨0, by omega, rfl, rfl, Chg.refl _ _⟩
  case round =>
    obtain ⟨i, hi, rfl, rfl, Q⟩ := hrel
    have few := (unhide IH).few
    have R1 : Rep wr x tb mb tr d := (unhide RH).quiet Q
    have G1 := (unhide GH).quiet Q
    obtain ⟨c0, c1, _, _⟩ := G1.cells
    by_cases hlt : i < tr.length
    · have g1 : (i : Int) < (tr.length : Int) := by omega
      have i0 : (0 : Int) ≤ (i : Int) := by omega
      obtain ⟨r0, r1⟩ := G1.at i hlt
      have hsn : ∀ n, _ := fun n => seen_any (wr.drewN n) x tb mb _ tr d (R1.quiet ((Chg.refl _ _).drewN n)) tr[i].1 tr[i].2
      have hct : ∀ n, _ := fun n => count_any (wr.drewN n) g gx gy tr d (G1.quiet ((Chg.refl _ _).drewN n)) tr[i].1 tr[i].2
      rw [seen_eq (unhide IH)] at hsn
      have hst : Hid (seenTo tr tr.length (i + 1) = seenTo tr tr.length i + amongP tr (tr[i].1, tr[i].2) tr.length) := by
        show _ = _
        rw [seenTo, getD_get tr i hlt]
      have b1 := seen_bd tr tr.length i
      have b2 := among_bd tr (tr[i].1, tr[i].2) tr.length
      have b3 : (tr.length : Int) * i ≤ 576 := mul24 _ _ few (by omega)
      obtain ⟨A, hA⟩ : ∃ A, amongP tr (tr[i].1, tr[i].2) tr.length = A := ⟨_, rfl⟩
      obtain ⟨B, hB⟩ : ∃ A, seenTo tr tr.length i = A := ⟨_, rfl⟩
      rw [hA] at hsn hct hst b2
      rw [hB] at b1 hst ⊢
      have wA : wrap64 (B + A) = B + A := by unfold wrap64; omega
      have wi : wrap64 ((i : Int) + 1) = (i : Int) + 1 := wrap_small (i + 1) (by omega)
      obtain ⟨X, hX⟩ : ∃ X, tr[i].1 = X := ⟨_, rfl⟩
      obtain ⟨Y, hY⟩ : ∃ Y, tr[i].2 = Y := ⟨_, rfl⟩
      rw [hX] at hsn hct r0
      rw [hY] at hsn hct r1
      have QH := hide Q
      have hltH := hide hlt
      unfold ptr at hsn hct
      clear R1 G1 Q hi hlt few b1 b2 b3 hA hB hX hY
      go_wp2
      go_quiet ((go_at_call 31; exact Calls.quiet_of_same (hsn _)))
      go_wp2
      go_quiet ((go_at_call 39; exact (hct _).mono (fun e w2 hh => ⟨hh.1, _, hh.2⟩)))
      go_wp2
      go_roundw
      case rel => exact ⟨i + 1, unhide hltH, by simp; try exact wi, by rw [unhide hst]; try rw [wA], (unhide QH).drewN _⟩
      case measure =>
        have h := unhide hltH
        first
          | exact meas_plain h
          | exact meas_next h wi
    · have g1 : ¬ (i : Int) < (tr.length : Int) := by omega
      obtain rfl : i = tr.length := by omega
      have hkn := hide (knots_any wr x tb mb _ tr d R1)
      rw [knots_all] at hkn
      have e1 := seen_knots tr tr.length
      have b1 := knots_bd tr tr.length few
      obtain ⟨K, hK⟩ : ∃ K, knotsTo tr tr.length = K := ⟨_, rfl⟩
      obtain ⟨M, hM⟩ : ∃ K, seenTo tr tr.length tr.length = K := ⟨_, rfl⟩
      rw [hK] at hkn e1 b1
      rw [hM] at e1 ⊢
      have w1 : wrap64 (2 * K) = 2 * K := by unfold wrap64; omega
      have w2 : wrap64 (2 * K + (tr.length : Int)) = M := by unfold wrap64; omega
      have QH := hide Q
      unfold ptr at hkn
      clear R1 G1 Q hi hlt few e1 b1 hK hM c1
      unfold okPost
      go_wp2_with fail
      refine (unhide hkn).mono ?_
      clear hkn
      rintro e w2 ⟨rfl, hw2⟩
      subst hw2
      go_wp2
      go_ret
      exact ⟨by first | rfl | simp, unhide QH⟩
end Go.Proofs.Qxb6500366a
