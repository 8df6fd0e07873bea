/-
  THE MODEL'S BENCH: Show, Eval, Conj.
-/
import Derived.Test.Qxb6500362aMod
namespace Go.Proofs.Qxb6500362a
open Go.RowKit Go.Qx
set_option linter.unusedVariables false
set_option linter.unusedSimpArgs false

set_option maxRecDepth 100000 in
set_option maxHeartbeats 2000000 in
theorem mshow_any (w : World) (m p q : Nat) (re im : Nat → Int) (R : RepM w m p q re im) (I : Inv re im) : Calls Try.prog 54 #[ptr m] w fun e w' => e = .returned (.string (str (showP re im))) ∧ Quiet w w' := by
  have RH := hide R
  have IH := hide I
  clear R I
  unfold ptr
  go_enter Try.func54, Try.ntmps54
  go_wp2
  go_loopw [3, 4] (fun s i wr => ∃ k : Nat, k ≤ 4 ∧ i = .int .i64 k ∧ s = .string (str (showTo re im k)) ∧ Quiet w wr) (fun _ i _ => 5 - (intOf i).toNat)
  case atStart => exact ⟨0, by omega, rfl, rfl, Chg.refl _ _⟩
  case round =>
    obtain ⟨k, hk, rfl, rfl, qq⟩ := hrel
    have R2 := (unhide RH).quiet qq
    by_cases hlt : k < 4
    · have k0 : (0 : Int) ≤ (k : Int) := by omega
      have k1 : (k : Int) < 4 := by omega
      have c0 := R2.blk.cell 0
      simp at c0
      have r1 := (R2.rowR.cell k).trans (rowI_get re k hlt)
      have q1 := (unhide IH).r k hlt
      have q2 := (unhide IH).m k hlt
      have h1 : Hid (∀ W, Calls Try.prog 11 #[.int .i64 (re k)] W fun e w' => e = .returned (.string (str (itoa (re k)))) ∧ Quiet W w') := fun W => itoa_any (re k) W (by omega) (by omega)
      have h2 : Hid (∀ W, Calls Try.prog 11 #[.int .i64 (im k)] W fun e w' => e = .returned (.string (str (itoa (im k)))) ∧ Quiet W w') := fun W => itoa_any (im k) W (by omega) (by omega)
      have hT : Hid (str (showTo re im (k + 1)) = str (showTo re im k) ++ str (itoa (re k)) ++ ⟨#[44]⟩ ++ str (itoa (im k)) ++ ⟨#[59]⟩) := by
        show _ = _
        rw [show (⟨#[44]⟩ : ByteArray) = str [44] from rfl, show (⟨#[59]⟩ : ByteArray) = str [59] from rfl]
        simp only [str_append, showTo, cellT, List.append_assoc]
      have l1 := itoa_length (re k)
      have l2 := itoa_length (im k)
      have l3 := showTo_length re im k
      have z1 : (str (showTo re im k)).size ≤ 200 := by rw [str_size]; omega
      have z2 : (str (itoa (re k))).size ≤ 20 := by rw [str_size]; omega
      have z3 : (str (itoa (im k))).size ≤ 20 := by rw [str_size]; omega
      have hM : Hid (∀ W, Quiet wr W → W.cell? ⟨m, 1, none⟩ = some (.slice (some ⟨q, 0, none⟩) 4 4) ∧ W.cell? ⟨q, k, none⟩ = some (.int .i64 (im k))) := by
        intro W hq
        have R3 := R2.quiet hq
        have c1 := R3.blk.cell 1
        simp at c1
        exact ⟨c1, (R3.rowM.cell k).trans (rowI_get im k hlt)⟩
      generalize str (showTo re im k) = S1 at *
      generalize str (itoa (re k)) = S2 at *
      generalize str (itoa (im k)) = S3 at *
      generalize re k = rk at *
      generalize im k = ik at *
      have qH := hide qq
      clear R2 qq q1 q2 l1 l2 l3
      go_wp2_with fail
      refine (unhide h1 _).mono ?_
      rintro e w3 ⟨rfl, q3⟩
      obtain ⟨c1, r2⟩ := unhide hM w3 q3
      go_wp2_with fail
      refine (unhide h2 _).mono ?_
      rintro e w4 ⟨rfl, q4⟩
      have qq := hide (Quiet.trans (unhide qH) (Quiet.trans q3 q4))
      clear q3 q4 h1 h2 c1 r2 hM c0 r1
      go_wp2
      go_roundw
      case rel => exact ⟨k + 1, by omega, by go_num, by rw [unhide hT], unhide qq⟩
      case measure => simp [intOf]; omega
    · have k1 : ¬ (k : Int) < 4 := by omega
      obtain rfl : k = 4 := by omega
      clear R2
      go_wp2
      go_ret
      exact ⟨rfl, qq⟩

set_option maxRecDepth 100000 in
set_option maxHeartbeats 2000000 in
theorem meval_any (w : World) (m p q : Nat) (re im : Nat → Int) (R : RepM w m p q re im) (I : Inv re im) (x y : Int) : Calls Try.prog 65 #[ptr m, .int .i64 x, .int .i64 y] w fun e w' => e = .returned (.tuple #[.int .i64 (evalP re im x y).1, .int .i64 (evalP re im x y).2.1, .int .i64 (evalP re im x y).2.2]) ∧ Quiet w w' := by
  have hf := fits_any w x y 32 (by omega)
  by_cases hfit : inP x y 32 = true
  · have e1 : Hid (evalP re im x y = ((horn re im x y 4).1, (horn re im x y 4).2, 0)) := by show _ = _; simp [evalP, hfit]
    rw [unhide e1]
    rw [hfit] at hf
    simp only [inP, decide_eq_true_eq] at hfit
    have hx : x.natAbs ≤ 32 := by omega
    have hy : y.natAbs ≤ 32 := by omega
    have hbd : Hid (∀ k, k ≤ 4 → (horn re im x y k).1.natAbs ≤ hB k ∧ (horn re im x y k).2.natAbs ≤ hB k) := horn_bound I hx hy
    have RH := hide R
    have IH := hide I
    unfold ptr
    clear e1 R I hfit
    go_enter Try.func65, Try.ntmps65
    go_wp2_with fail
    refine hf.mono ?_
    rintro e w' ⟨rfl, rfl⟩
    go_wp2
    go_loopw [9, 10, 11] (fun u v i wr => ∃ k : Nat, k ≤ 4 ∧ i = .int .i64 (3 - (k : Int)) ∧ u = .int .i64 (horn re im x y k).1 ∧ v = .int .i64 (horn re im x y k).2 ∧ Quiet w' wr) (fun _ _ i _ => (intOf i + 1).toNat)
    case atStart => exact ⟨0, by omega, rfl, rfl, rfl, Chg.refl _ _⟩
    case round =>
      obtain ⟨k, hk, rfl, rfl, rfl, qq⟩ := hrel
      by_cases hlt : k < 4
      · obtain ⟨j, hj⟩ : ∃ j : Nat, 3 - k = j := ⟨_, rfl⟩
        have hji : (3 : Int) - (k : Int) = (j : Int) := by omega
        have j0 : (0 : Int) ≤ (j : Int) := by omega
        have j1 : (j : Int) < 4 := by omega
        have R2 := (unhide RH).quiet qq
        have c0 := R2.blk.cell 0
        have c1 := R2.blk.cell 1
        simp at c0 c1
        have r1 := (R2.rowR.cell j).trans (rowI_get re j (by omega))
        have r2 := (R2.rowM.cell j).trans (rowI_get im j (by omega))
        obtain ⟨h1, h2⟩ := unhide hbd k (by omega)
        have hb0 := hB_le k (by omega)
        have p1 := prod_bound _ _ _ _ h1 hx
        have p2 := prod_bound _ _ _ _ h2 hy
        have p3 := prod_bound _ _ _ _ h1 hy
        have p4 := prod_bound _ _ _ _ h2 hx
        have s1 := (unhide IH).r j (by omega)
        have s2 := (unhide IH).m j (by omega)
        have t1 : (horn re im x y (k + 1)).1 = (horn re im x y k).1 * x - (horn re im x y k).2 * y + re j := by rw [← hj]; rfl
        have t2 : (horn re im x y (k + 1)).2 = (horn re im x y k).1 * y + (horn re im x y k).2 * x + im j := by rw [← hj]; rfl
        generalize (horn re im x y k).1 = P at *
        generalize (horn re im x y k).2 = Q at *
        generalize re j = rj at *
        generalize im j = ij at *
        have w1 : wrap64 (P * x) = P * x := by unfold wrap64; omega
        have w2 : wrap64 (Q * y) = Q * y := by unfold wrap64; omega
        have w3 : wrap64 (P * y) = P * y := by unfold wrap64; omega
        have w4 : wrap64 (Q * x) = Q * x := by unfold wrap64; omega
        have w5 : wrap64 (P * x - Q * y) = P * x - Q * y := by unfold wrap64; omega
        have w6 : wrap64 (P * y + Q * x) = P * y + Q * x := by unfold wrap64; omega
        have w7 : wrap64 (P * x - Q * y + rj) = P * x - Q * y + rj := by unfold wrap64; omega
        have w8 : wrap64 (P * y + Q * x + ij) = P * y + Q * x + ij := by unfold wrap64; omega
        have tH := hide (And.intro t1 t2)
        have qH := hide qq
        rw [hji]
        clear R2 h1 h2 hb0 p1 p2 p3 p4 s1 s2 t1 t2 qq
        go_wp2
        go_quiet (fail)
        go_wp2
        go_roundw
        case rel =>
          have ej : (j : Int) - 1 = 3 - ((k + 1 : Nat) : Int) := by omega
          refine ⟨k + 1, by omega, ?_, ?_, ?_, Quiet.trans (unhide qH) ((Chg.refl _ _).drewN _)⟩
          · rw [← ej]
          · rw [(unhide tH).1, w7]
          · rw [(unhide tH).2, w8]
        case measure => simp [intOf]
      · obtain rfl : k = 4 := by omega
        have k1 : ¬ (0 : Int) ≤ 3 - ((4 : Nat) : Int) := by decide
        go_wp2
        go_ret3
        exact ⟨rfl, qq⟩
  · have hff : inP x y 32 = false := by simpa using hfit
    have e1 : Hid (evalP re im x y = (0, 0, 2)) := by show _ = _; simp [evalP, hff]
    rw [unhide e1]
    rw [hff] at hf
    unfold ptr
    clear e1 R I hfit hff
    go_enter Try.func65, Try.ntmps65
    go_wp2_with fail
    refine hf.mono ?_
    rintro e w' ⟨rfl, rfl⟩
    go_wp2
    go_ret3
    exact ⟨rfl, Chg.refl _ _⟩

set_option maxHeartbeats 1000000 in
theorem mconj_any (w : World) (m p q : Nat) (re im : Nat → Int) (R : RepM w m p q re im) (I : Inv re im) (i : Int) : Calls Try.prog 62 #[ptr m, .int .i64 i] w (repPostM w m p q (conjE i) re (conjI im i)) := by
  have hc := cells_any w i i
  have RH := hide R
  rcases cells_cases i i with ⟨k, k', rfl, hk', hk, _, e0⟩ | e0
  · rw [e0] at hc
    rw [show conjE k = 0 by simp [conjE, e0], show conjI im k = upd im k (-(im k)) by simp [conjI, e0]]
    have c1 := R.blk.cell 1
    simp at c1
    have r2 := (R.rowM.cell k).trans (rowI_get im k hk)
    have f2 := R.rowM.frozen
    have nmq := R.mq
    have i0 : (0 : Int) ≤ (k : Int) := by omega
    have i1 : (k : Int) < 4 := by omega
    have q1 := I.m k hk
    generalize im k = ik at *
    have nx : wrap64 (-ik) = -ik := by unfold wrap64; omega
    unfold repPostM ptr
    clear R I e0 hk' q1
    go_enter Try.func62, Try.ntmps62
    go_wp2_with fail
    refine hc.mono ?_
    rintro e w' ⟨rfl, rfl⟩
    go_wp2
    go_region
    all_goals
      go_wp2
      go_ret
      refine ⟨rfl, ?_, ((unhide RH).quiet ((Chg.refl _ _).drew)).setM k hk (-ik)⟩
      exact ((Chg.refl (ownM m p q) w').drew).setCell (.inl (.inr (.inr rfl))) _
  · rw [e0] at hc
    rw [show conjE i = 1 by simp [conjE, e0], show conjI im i = im by simp [conjI, e0]]
    unfold repPostM ptr
    clear R e0 I
    go_enter Try.func62, Try.ntmps62
    go_wp2_with fail
    refine hc.mono ?_
    rintro e w' ⟨rfl, rfl⟩
    go_wp2
    go_ret
    exact ⟨rfl, Chg.refl _ _, unhide RH⟩

end Go.Proofs.Qxb6500362a
