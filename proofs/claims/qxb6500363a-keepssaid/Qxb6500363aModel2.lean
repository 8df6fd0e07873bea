/-
  The model ring: Show, Poke, Move, Kick.
-/
import Derived.Test.Qxb6500363aModel
import Derived.Test.Qxb6500363aMove
namespace Go.Proofs.Qxb6500363a
open Go.RowKit Go.Qx
set_option linter.unusedSimpArgs false
set_option linter.unusedVariables false

set_option maxRecDepth 100000 in
set_option maxHeartbeats 1000000 in
theorem showM_any (w : World) (m c : Nat) (k : Int) (xs : List Int) (R : RepM w m c k xs) (o : Ok k xs) : Calls Try.prog 41 #[ptr m] w fun e w' => e = .returned (.string (str (showP k xs))) ∧ Quiet w w' := by
  obtain ⟨c0, c1⟩ := R.cells
  have n6 := o.n6
  have k8 := o.k8
  have k1 := o.k1
  have bc := cnt_bound (hots xs)
  rw [hots_length] at bc
  have bw := wsum36 xs (hots xs) (hots_length xs) n6
  have hsh : Hid (showTo k xs 0 = headP k (cnt (hots xs)) (wsum xs.length (hots xs) 0)) := rfl
  have hhd := fun W => head_any W k (cnt (hots xs)) (wsum xs.length (hots xs) 0) ⟨by omega, by omega⟩ ⟨by omega, by omega⟩ ⟨by omega, by omega⟩
  rw [← unhide hsh] at hhd
  have ht := tokM_any w m c k xs R n6
  have hp := fun W (q : Quiet w W) => potM_any W m c k xs (R.quiet q) n6 o.n2
  have hpr := fun W (q : Quiet w W) i => privM_any W m c k xs (R.quiet q) n6 i
  have htH := hide ht
  have hpH := hide hp
  have hprH := hide hpr
  have hhdH := hide hhd
  clear hsh ht hp hpr hhd
  unfold ptr at *
  generalize wsum xs.length (hots xs) 0 = ws at *
  generalize cnt (hots xs) = ct at *
  go_enter Try.func41, Try.ntmps41
  go_wp2_with fail
  refine (unhide htH).mono ?_
  rintro e w1 ⟨rfl, q1⟩
  go_wp2_with fail
  refine (unhide hpH _ q1).mono ?_
  rintro e w2 ⟨rfl, q2'⟩
  have q2 := Quiet.trans q1 q2'
  have d0 := Quiet.cell q2 c0
  go_wp2_with fail
  refine (unhide hhdH _).mono ?_
  rintro e w3 ⟨rfl, q3'⟩
  have q3 := Quiet.trans q2 q3'
  go_wp2
  go_loopw [5, 6] (fun v i wr => ∃ j : Nat, j ≤ xs.length ∧ i = .int .i64 j ∧ v = .string (str (showTo k xs j)) ∧ Quiet w wr) (fun _ i _ => 7 - (intOf i).toNat)
  case atStart => exact ⟨0, Nat.zero_le _, rfl, rfl, q3⟩
  case round =>
    obtain ⟨j, hj, rfl, rfl, qj⟩ := hrel
    have i0 : (0 : Int) ≤ (j : Int) := by omega
    have d1 := Quiet.cell qj c1
    by_cases hlt : j < xs.length
    · have i1 : (j : Int) < (xs.length : Int) := by omega
      have hx := (R.quiet qj).x j hlt
      have hv := o.get j hlt
      have hsl := showTo_length k xs j
      have hss := hide (showTo_succ k xs j)
      have hpj := unhide hprH _ qj j
      rw [privI_nat xs j hlt] at hpj
      have hpjH := hide hpj
      clear hpj
      generalize xs.getD j 0 = xv at *
      generalize priv xs j = pv at *
      have hcl := fun W => cell_any W (showTo k xs j) xv pv (by omega) ⟨by omega, by omega⟩
      have hclH := hide hcl
      clear hcl
      generalize showTo k xs j = S at *
      go_wp2_with fail
      refine (unhide hpjH).mono ?_
      rintro e w4 ⟨rfl, q4⟩
      have d2 := Quiet.cell q4 d1
      have hx2 := Quiet.cell q4 hx
      go_wp2_with fail
      refine (unhide hclH _).mono ?_
      rintro e w5 ⟨rfl, q5⟩
      go_wp2
      go_roundw
      case rel => exact ⟨j + 1, by omega, by go_num, by rw [unhide hss], Quiet.trans (Quiet.trans qj q4) q5⟩
      case measure => simp [intOf]; omega
    · have i1 : ¬ (j : Int) < (xs.length : Int) := by omega
      have hjn : Hid (j = xs.length) := by show _ = _; omega
      go_wp2
      go_ret
      refine ⟨?_, qj⟩
      unfold showP
      rw [← unhide hjn]
      rfl

set_option maxRecDepth 100000 in
set_option maxHeartbeats 1000000 in
theorem pokeM_any (w : World) (m c : Nat) (k : Int) (xs : List Int) (R : RepM w m c k xs) (o : Ok k xs) (i v : Int) (hv1 : -9223372036854775808 ≤ v) (hv2 : v ≤ 9223372036854775807) :
    Calls Try.prog 43 #[ptr m, .int .i64 i, .int .i64 v] w fun e w' => e = .returned (.int .i64 (pokeX k xs i v).1) ∧ Chg (ownM m c) w w' ∧ RepM w' m c k (pokeX k xs i v).2 := by
  obtain ⟨c0, c1⟩ := R.cells
  have k8 := o.k8
  unfold ptr
  by_cases h1 : 0 ≤ i ∧ i < xs.length
  · obtain ⟨j, rfl⟩ : ∃ j : Nat, i = j := ⟨i.toNat, by omega⟩
    have hj : j < xs.length := by omega
    have hE : Hid (pokeX k xs j v = (0, xs.set j (normP v k))) := by show _ = _; unfold pokeX; rw [if_pos h1]; rfl
    obtain ⟨i0, i1⟩ := h1
    have fa := R.xb.frozen j
    have hx := R.x j hj
    have hno := fun W => norm_any W v k (by omega) hv1 hv2
    have nmc := R.mc
    have ncm := Ne.symm nmc
    generalize normP v k = nv at *
    generalize xs.getD j 0 = xv at *
    go_enter Try.func43, Try.ntmps43
    go_wp2
    go_region_held3 (fun w' => w'.cell? ⟨m, 1, none⟩ = some (.slice (some ⟨c, 0, none⟩) xs.length xs.length) ∧ w'.cell? ⟨m, 0, none⟩ = some (.int .i64 k)) (go_keep) (first | (go_at_call 50; refine (hno _).mono ?_; rintro e w2 ⟨rfl, he2⟩; subst he2))
    rename_i hHeld
    clear hHeld
    go_wp2
    go_ret
    rw [unhide hE]
    exact ⟨rfl, ((Chg.refl (ownM m c) w).setCell (.inl (.inr rfl)) _).drew, (R.setX j _).quiet ((Chg.refl _ _).drew)⟩
  · have hE : Hid (pokeX k xs i v = (3, xs)) := by show _ = _; unfold pokeX; rw [if_neg h1]
    have h2 : i < 0 ∨ (0 ≤ i ∧ (xs.length : Int) ≤ i) := by omega
    clear h1
    rcases h2 with h | ⟨h, h'⟩
    all_goals
      go_enter Try.func43, Try.ntmps43
      go_wp2
      go_ret
      rw [unhide hE]
      exact ⟨rfl, Chg.refl _ _, R⟩

set_option maxRecDepth 100000 in
set_option maxHeartbeats 1000000 in
theorem moveM_any (w : World) (m c : Nat) (k : Int) (xs : List Int) (R : RepM w m c k xs) (o : Ok k xs) (i : Int) :
    Calls Try.prog 44 #[ptr m, .int .i64 i] w fun e w' => e = .returned (.int .i64 (moveE k xs i).1) ∧ Chg (ownM m c) w w' ∧ RepM w' m c k (moveE k xs i).2 := by
  obtain ⟨c0, c1⟩ := R.cells
  have n6 := o.n6
  have n2 := o.n2
  have k8 := o.k8
  have k1 := o.k1
  have hpm := privM_any w m c k xs R n6 i
  have hpmH := hide hpm
  clear hpm
  unfold ptr at *
  by_cases h1 : 0 ≤ i ∧ i < xs.length
  · obtain ⟨j, rfl⟩ : ∃ j : Nat, i = j := ⟨i.toNat, by omega⟩
    have hj : j < xs.length := by omega
    have hp' := unhide hpmH
    rw [privI_nat xs j hj] at hp'
    cases hp : priv xs j with
    | false =>
      have hE : Hid (moveE k xs j = (4, xs)) := by show _ = _; unfold moveE; rw [if_pos h1]; simp [hp]
      obtain ⟨i0, i1⟩ := h1
      rw [hp, show bit false = 0 from rfl] at hp'
      clear hp
      go_enter Try.func44, Try.ntmps44
      go_wp2_with fail
      refine hp'.mono ?_
      rintro e w2 ⟨rfl, q2⟩
      go_wp2
      go_ret
      rw [unhide hE]
      exact ⟨rfl, Quiet.chg q2 _, R.quiet q2⟩
    | true =>
      have hE : Hid (moveE k xs j = (0, moveX k xs j)) := moveE_hot k xs j hj hp
      obtain ⟨i0, i1⟩ := h1
      rw [hp, show bit true = 1 from rfl] at hp'
      have hpH := hide hp'
      clear hp hp'
      have nmc := R.mc
      have ncm := Ne.symm R.mc
      have g1 : 1 ≤ k := by omega
      have g0 : (k == 0) = false := by rw [beq_eq_false_iff_ne]; omega
      have gk0 : ¬ k = 0 := by omega
      have g9 : (k == -1) = false := by rw [beq_eq_false_iff_ne]; omega
      cases j with
      | zero =>
        have hv := o.get 0 (by omega)
        have hX : Hid (moveX k xs 0 = xs.set 0 ((xs.getD 0 0 + 1) % k)) := by show _ = _; unfold moveX; rw [if_pos rfl, Int.tmod_eq_emod_of_nonneg (by omega)]
        have hx0' := fun W (q : Quiet w W) => (R.quiet q).x 0 (by omega)
        have hx0H := hide hx0'
        clear hx0'
        generalize xs.getD 0 0 = x0 at *
        have hnil : ¬ xs = [] := by intro h; rw [h] at hj; simp at hj
        have n0 : (0 : Int) < (xs.length : Int) := by omega
        have wx : IntKind.i64.wrap (x0 + 1) = x0 + 1 := by rw [IntKind.wrap_i64]; omega
        have tm : Hid ((x0 + 1).tmod k = (x0 + 1) % k) := Int.tmod_eq_emod_of_nonneg (by omega)
        go_enter Try.func44, Try.ntmps44
        go_wp2_with fail
        refine (unhide hpH).mono ?_
        rintro e w2 ⟨rfl, q2⟩
        have d0 := Quiet.cell q2 c0
        have d1 := Quiet.cell q2 c1
        have R2 := R.quiet q2
        have hx := unhide hx0H w2 q2
        have fx := R2.xb.frozen 0
        clear c0 c1
        go_wp2
        go_region_law (fail)
        all_goals
          go_wp2
          go_ret
          rw [unhide hE, unhide hX]
          first
            | exact ⟨rfl, ((Quiet.chg q2 (ownM m c)).setCell (.inl (.inr rfl)) _).drew, (R2.setX 0 _).quiet ((Chg.refl _ _).drew)⟩
            | (rw [unhide tm]; exact ⟨rfl, ((Quiet.chg q2 (ownM m c)).setCell (.inl (.inr rfl)) _).drew, (R2.setX 0 _).quiet ((Chg.refl _ _).drew)⟩)
      | succ p =>
        have hX : Hid (moveX k xs (p + 1) = xs.set (p + 1) (xs.getD p 0)) := by show _ = _; unfold moveX; rw [if_neg (by omega), Nat.add_sub_cancel]
        have hx1' := fun W (q : Quiet w W) => (R.quiet q).x (p + 1) hj
        have hx0' := fun W (q : Quiet w W) => (R.quiet q).x p (by omega)
        have hx0H := hide hx0'
        have hx1H := hide hx1'
        clear hx0' hx1'
        generalize xs.getD (p + 1) 0 = xi at *
        generalize xs.getD p 0 = xp at *
        have e1 : ((p + 1 : Nat) : Int) = (p : Int) + 1 := by omega
        rw [e1] at i0 i1
        have i3 : (0 : Int) ≤ (p : Int) := by omega
        have i4 : (p : Int) < (xs.length : Int) := by omega
        have i5 : IntKind.i64.wrap ((p : Int) + 1 - 1) = (p : Int) := by rw [IntKind.wrap_i64]; omega
        have i6 : IntKind.i64.wrap (p : Int) = (p : Int) := by rw [IntKind.wrap_i64]; omega
        have i7 : ((p : Int) + 1 == 0) = false := by rw [beq_eq_false_iff_ne]; omega
        go_enter Try.func44, Try.ntmps44
        go_wp2_with fail
        refine (unhide hpH).mono ?_
        rintro e w2 ⟨rfl, q2⟩
        have d1 := Quiet.cell q2 c1
        have R2 := R.quiet q2
        have hxp := unhide hx0H w2 q2
        have hxi := unhide hx1H w2 q2
        have fx := R2.xb.frozen (p + 1)
        clear c0 c1
        go_wp2
        go_region_held3 (fun w' => w'.cell? ⟨m, 1, none⟩ = some (.slice (some ⟨c, 0, none⟩) xs.length xs.length) ∧ w'.cell? ⟨c, p, none⟩ = some (.int .i64 xp)) (first | exact ⟨cell_set_ne d1 (.inl nmc), cell_set_ne hxp (.inr (by omega))⟩ | go_keep) (fail)
        rename_i hHeld
        clear hHeld
        go_wp2
        go_ret
        rw [unhide hE, unhide hX]
        exact ⟨rfl, ((Quiet.chg q2 (ownM m c)).setCell (.inl (.inr rfl)) _).drew, (R2.setX (p + 1) _).quiet ((Chg.refl _ _).drew)⟩
  · have hE : Hid (moveE k xs i = (3, xs)) := by show _ = _; unfold moveE; rw [if_neg h1]
    have h2 : i < 0 ∨ (0 ≤ i ∧ (xs.length : Int) ≤ i) := by omega
    clear h1
    rcases h2 with h | ⟨h, h'⟩
    all_goals
      go_enter Try.func44, Try.ntmps44
      go_wp2
      go_ret
      rw [unhide hE]
      exact ⟨rfl, Chg.refl _ _, R⟩

set_option maxRecDepth 100000 in
set_option maxHeartbeats 1000000 in
theorem kickM_any (w : World) (m c : Nat) (k : Int) (xs : List Int) (R : RepM w m c k xs) (o : Ok k xs) (cc : Int) (h1 : -9223372036854775808 ≤ cc) (h2 : cc ≤ 9223372036854775807) :
    Calls Try.prog 45 #[ptr m, .int .i64 cc] w fun e w' => e = .returned (.int .i64 (kickE k xs cc).1) ∧ Chg (ownM m c) w w' ∧ RepM w' m c k (kickE k xs cc).2 := by
  obtain ⟨c0, c1⟩ := R.cells
  have n6 := o.n6
  have bc := cnt_bound (hots xs)
  rw [hots_length] at bc
  have hnn : 0 ≤ normP cc (cnt (hots xs)) ∧ normP cc (cnt (hots xs)) < 7 := by
    unfold normP
    by_cases ht : cnt (hots xs) < 1
    · rw [if_pos ht]; omega
    · rw [if_neg ht]
      have a1 := Int.tmod_lt_of_pos cc (show 0 < cnt (hots xs) by omega)
      have a2 := Int.tmod_lt_of_pos (-cc) (show 0 < cnt (hots xs) by omega)
      rw [Int.neg_tmod] at a2
      split <;> omega
  have hE : Hid (kickE k xs cc = if kickAt (hots xs) 0 (normP cc (cnt (hots xs))) < 0 then (-1, xs) else (kickAt (hots xs) 0 (normP cc (cnt (hots xs))), moveX k xs (kickAt (hots xs) 0 (normP cc (cnt (hots xs)))).toNat)) := rfl
  have hno := fun W => norm_any W cc (cnt (hots xs)) (by omega) h1 h2
  have ht := tokM_any w m c k xs R n6
  have hmv := fun W (q : Quiet w W) j (hj : j < xs.length) (hp : priv xs j = true) => by
    have := moveM_any W m c k xs (R.quiet q) o (j : Int)
    rw [moveE_hot k xs j hj hp] at this
    exact this
  have hpr := fun W (q : Quiet w W) j (hj : j < xs.length) => by
    have := privM_any W m c k xs (R.quiet q) n6 (j : Int)
    rw [privI_nat xs j hj] at this
    exact this
  have hln := hide (hots_length xs)
  have hdrH := hide (fun j (hj : j < xs.length) => hots_drop xs j hj)
  have hnoH := hide hno
  have htH := hide ht
  have hmvH := hide hmv
  have hprH := hide hpr
  clear hno ht hmv hpr
  unfold ptr at *
  generalize normP cc (cnt (hots xs)) = np at *
  generalize cnt (hots xs) = t at *
  go_enter Try.func45, Try.ntmps45
  go_wp2_with fail
  refine (unhide htH).mono ?_
  rintro e w1 ⟨rfl, q1⟩
  go_wp2_with fail
  refine (unhide hnoH _).mono ?_
  rintro e w1' ⟨rfl, rfl⟩
  go_wp2
  go_loopw [6, 7] (fun cv i wr => ∃ (j : Nat) (q : Int), j ≤ xs.length ∧ i = .int .i64 j ∧ cv = .int .i64 q ∧ 0 ≤ q ∧ q < 7 ∧ kickAt ((hots xs).drop j) j q = kickAt (hots xs) 0 np ∧ Quiet w wr) (fun _ i _ => 7 - (intOf i).toNat)
  case atStart => exact ⟨0, np, Nat.zero_le _, rfl, rfl, hnn.1, hnn.2, rfl, q1⟩
  case round =>
    obtain ⟨j, q, hj, rfl, rfl, q0, q7, hk, qj⟩ := hrel
    have hkH := hide hk
    clear hk
    have i0 : (0 : Int) ≤ (j : Int) := by omega
    have d1 := Quiet.cell qj c1
    by_cases hlt : j < xs.length
    · have i1 : (j : Int) < (xs.length : Int) := by omega
      have hp1 := unhide hprH _ qj j hlt
      have hk := unhide hkH
      rw [unhide hdrH j hlt] at hk
      cases hp : priv xs j with
      | false =>
        rw [hp] at hk
        rw [hp, show bit false = 0 from rfl] at hp1
        simp only [kickAt, Bool.false_eq_true, if_false] at hk
        have hkH2 := hide hk
        have hp1H := hide hp1
        clear hk hp hp1
        go_wp2_with fail
        refine (unhide hp1H).mono ?_
        rintro e w2 ⟨rfl, q2⟩
        go_wp2
        go_roundw
        case rel => exact ⟨j + 1, q, by omega, by go_num, by go_num, q0, q7, unhide hkH2, Quiet.trans qj q2⟩
        case measure => simp [intOf]; omega
      | true =>
        have hm := fun W q => unhide hmvH W q j hlt hp
        rw [hp] at hk
        rw [hp, show bit true = 1 from rfl] at hp1
        have hmH := hide hm
        have hp1H := hide hp1
        clear hp hm hp1
        by_cases hq : q = 0
        · subst hq
          simp only [kickAt, if_true] at hk
          have hkH2 := hide hk
          clear hk
          go_wp2_with fail
          refine (unhide hp1H).mono ?_
          rintro e w2 ⟨rfl, q2⟩
          go_wp2_with fail
          refine (unhide hmH _ (Quiet.trans qj q2)).mono ?_
          rintro e w3 ⟨rfl, ch3, R3⟩
          go_wp2
          go_ret
          rw [unhide hE, ← unhide hkH2, if_neg (by omega)]
          exact ⟨rfl, (Quiet.chg (Quiet.trans qj q2) _).trans ch3, R3⟩
        · simp only [kickAt, if_true, hq, if_false] at hk
          have hkH2 := hide hk
          clear hk
          have q1' : 1 ≤ q := by omega
          clear hq
          go_wp2_with fail
          refine (unhide hp1H).mono ?_
          rintro e w2 ⟨rfl, q2⟩
          go_wp2
          go_roundw
          case rel => exact ⟨j + 1, q - 1, by omega, by go_num, rfl, by omega, by omega, unhide hkH2, Quiet.trans qj q2⟩
          case measure => simp [intOf]; omega
    · have i1 : ¬ (j : Int) < (xs.length : Int) := by omega
      have hk := unhide hkH
      rw [List.drop_eq_nil_of_le (by rw [unhide hln]; omega)] at hk
      simp only [kickAt] at hk
      have hkH2 := hide hk
      clear hk
      go_wp2
      go_ret
      rw [unhide hE, ← unhide hkH2, if_pos (by omega)]
      exact ⟨rfl, Quiet.chg qj _, R.quiet qj⟩
end Go.Proofs.Qxb6500363a
