/-
  THE ABSTRACT GATE's METHODS (2): Take, Sum, Vwap, Show, Check. (gen65m3.py)
-/
import Derived.Test.Qxb6500365aModel2
namespace Go.Proofs.Qxb6500365a
open Go.RowKit Go.Qx Ieee
set_option linter.unusedVariables false
set_option linter.unusedSimpArgs false

set_option maxHeartbeats 4000000 in
set_option maxRecDepth 100000 in
theorem mtake_any (w : World) (g : Nat) (S : GS) (R : RepM w g S) (I : Inv S) :
    Calls Try.prog 44 #[.pointer (some ⟨g, 0, none⟩)] w fun ex w' => ex = .returned (.int .i64 (takeE S)) ∧ Chg (fun k => k = g) w w' ∧ RepM w' g (takeS S) := by
  have RH := hide R
  have ht := mticks_any w g S R I
  have htR : Hid (∀ w1, Quiet w w1 → RepM w1 g S) := fun w1 q => R.quiet q
  obtain ⟨num, den, bad, b, mw⟩ := R
  unfold cellsM at b
  have c5 : w.cell? ⟨g, 5, none⟩ = some (.int .i64 S.n) := b.cell 5
  by_cases hn : 16 ≤ S.n
  · have e1 : takeE S = 9 := by unfold takeE; rw [if_pos hn]
    have e2 : takeS S = S := by unfold takeS; rw [e1, if_neg (by decide)]
    rw [e1, e2]
    have hn' : (16 ≤ S.n) = True := eq_true hn
    generalize S.n = n at *
    clear ht b mw I e1 e2 hn
    go_enter Try.func44, Try.ntmps44
    go_wp2
    go_ret
    exact ⟨rfl, Chg.refl _ _, unhide RH⟩
  have hn' : (16 ≤ S.n) = False := eq_false hn
  by_cases he : S.e = 0
  rotate_left
  · have e1 : takeE S = S.e := by unfold takeE; rw [if_neg hn, if_pos he]
    have e2 : takeS S = S := by unfold takeS; rw [e1, if_neg he]
    rw [e1, e2]
    have he' : (S.e == 0) = false := by simpa using he
    have he2 : (S.e = 0) = False := eq_false he
    generalize S.n = n at *
    generalize S.e = e at *
    generalize S.t = t at *
    clear b mw I e1 e2 hn RH
    go_enter Try.func44, Try.ntmps44
    go_wp2_with fail
    refine ht.mono ?_
    clear ht
    rintro ex w1 ⟨rfl, q1⟩
    have fin := hide (And.intro q1 (unhide htR w1 q1))
    clear q1 htR
    go_wp2
    go_ret
    exact ⟨rfl, (unhide fin).1.chg _, (unhide fin).2⟩
  have it1 := I.t1
  have iq1 := I.q1
  have iq2 := I.q2
  have habs := hide (fun W => abs_any W S.t (by omega) (by omega))
  have hdv : (281474976710656 / S.q < (S.t.natAbs : Int)) ↔ 281474976710656 < (S.t * S.q).natAbs := by
    rw [Int.ediv_lt_iff_lt_mul (by omega), Int.natAbs_mul]
    have : (S.t.natAbs : Int) * S.q = ((S.t.natAbs * S.q.natAbs : Nat) : Int) := by rw [Int.natCast_mul]; congr 1; omega
    rw [this]
    omega
  have td : (281474976710656 : Int).tdiv S.q = 281474976710656 / S.q := Int.tdiv_eq_ediv_of_nonneg (by omega)
  have q0 : 0 ≤ 281474976710656 / S.q := Int.ediv_nonneg (by omega) (by omega)
  have q9 : 281474976710656 / S.q ≤ 281474976710656 := Int.ediv_le_self _ (by omega)
  have sq0 : (S.q == 0) = false := by simp; omega
  have sq1 : (S.q == -1) = false := by simp; omega
  have sq2 : (S.q = 0) = False := eq_false (by omega)
  have sq3 : (S.q = -1) = False := eq_false (by omega)
  have hcell : Hid (∀ w1, Quiet w w1 → Blk w1 g 64 (cellsM S num den bad)) := fun w1 q => Quiet.blk q b
  by_cases hb : 281474976710656 < (S.t * S.q).natAbs
  · have e1 : takeE S = 10 := by unfold takeE; rw [if_neg hn, if_neg (fun h => h he), if_pos hb]
    have e2 : takeS S = S := by unfold takeS; rw [e1, if_neg (by decide)]
    rw [e1, e2]
    have hc : (281474976710656 / S.q < (S.t.natAbs : Int)) = True := eq_true (hdv.2 hb)
    rw [he] at ht
    clear b mw I e1 e2 hn RH he hdv hb it1 iq1 iq2
    generalize S.n = n at *
    generalize hA : (S.t.natAbs : Int) = A at *
    generalize S.t = t at *
    clear hA
    go_enter Try.func44, Try.ntmps44
    go_wp2_with fail
    refine ht.mono ?_
    clear ht
    rintro ex w1 ⟨rfl, q1⟩
    have b1 := unhide hcell w1 q1
    unfold cellsM at b1
    have d3 : w1.cell? ⟨g, 3, none⟩ = some (.int .i64 S.q) := b1.cell 3
    have fin := hide (And.intro q1 (unhide htR w1 q1))
    clear q1 htR hcell b1
    generalize S.q = q at *
    generalize 281474976710656 / q = DV at *
    have wdv : IntKind.i64.wrap DV = DV := by rw [IntKind.wrap_i64]; omega
    have wdv2 : wrap64 DV = DV := wrap64_ok _ (by omega) (by omega)
    clear q0 q9
    go_wp2
    go_quiet ((go_at_call 35; exact Calls.quiet_of_same (unhide habs _)))
    go_wp2
    go_ret
    exact ⟨rfl, ((unhide fin).1.chg _).drewN _, (unhide fin).2.quiet ((Chg.refl _ _).drewN _)⟩
  · have e1 : takeE S = 0 := by unfold takeE; rw [if_neg hn, if_neg (fun h => h he), if_neg hb]
    have e2 : takeS S = ⟨S.d, S.t, S.e, S.q, S.n + 1, S.s + S.t, S.v + S.q, S.k + S.t * S.q⟩ := by unfold takeS; rw [e1, if_pos rfl]
    rw [e1, e2]
    have hc : (281474976710656 / S.q < (S.t.natAbs : Int)) = False := eq_false (fun h => hb (hdv.1 h))
    have hs1 := I.s1
    have hv1 := I.v2
    have hk1 := I.k1
    have hn0 := I.n0
    have hv0 := I.v1
    have w1n : IntKind.i64.wrap (S.n + 1) = S.n + 1 := by rw [IntKind.wrap_i64]; omega
    have w2n : IntKind.i64.wrap (S.s + S.t) = S.s + S.t := by rw [IntKind.wrap_i64]; omega
    have w3n : IntKind.i64.wrap (S.v + S.q) = S.v + S.q := by rw [IntKind.wrap_i64]; omega
    obtain ⟨P, hP⟩ : ∃ P, S.t * S.q = P := ⟨_, rfl⟩
    have w4n : IntKind.i64.wrap (S.t * S.q) = P := by rw [hP] at hb ⊢; rw [IntKind.wrap_i64]; omega
    have w5n : IntKind.i64.wrap (S.k + P) = S.k + P := by rw [hP] at hb; rw [IntKind.wrap_i64]; omega
    have fin : Hid (∀ w1, Blk w1 g 64 (cellsM ⟨S.d, S.t, S.e, S.q, S.n + 1, S.s + S.t, S.v + S.q, S.k + P⟩ num den bad) → RepM w1 g ⟨S.d, S.t, S.e, S.q, S.n + 1, S.s + S.t, S.v + S.q, S.k + P⟩) := fun w1 b1 => ⟨num, den, bad, b1, mw.tick, mw.den1, mw.den2, mw.num1⟩
    rw [hP]
    rw [he] at ht
    clear b mw I e1 e2 hn RH hdv hb it1 iq1 iq2 hs1 hv1 hk1 hv0 htR hP hn0
    generalize hA : (S.t.natAbs : Int) = A at *
    clear hA
    obtain ⟨d, t, e, q, n, s, v, k⟩ := S
    dsimp only at *
    clear he
    go_enter Try.func44, Try.ntmps44
    go_wp2_with fail
    refine ht.mono ?_
    clear ht
    rintro ex w1 ⟨rfl, q1⟩
    have b1 := unhide hcell w1 q1
    unfold cellsM at b1
    dsimp only at b1
    have d3 : w1.cell? ⟨g, 3, none⟩ = some (.int .i64 q) := b1.cell 3
    have bH := hide b1
    have qH := hide q1
    clear q1 b1 hcell
    generalize hDV : 281474976710656 / q = DV at *
    have wdv : IntKind.i64.wrap DV = DV := by rw [IntKind.wrap_i64]; omega
    have wdv2 : wrap64 DV = DV := wrap64_ok _ (by omega) (by omega)
    clear q0 q9 hDV
    go_wp2
    go_quiet ((go_at_call 35; exact Calls.quiet_of_same (unhide habs _)))
    have b2 := (unhide bH).drewN nq
    have q2 := (unhide qH).drewN nq
    obtain ⟨w2, hw2⟩ : ∃ W, w1.drewN nq = W := ⟨_, rfl⟩
    rw [hw2] at b2 q2 ⊢
    have q2H := hide q2
    have d3' : w2.cell? ⟨g, 3, none⟩ = some (.int .i64 q) := b2.cell 3
    have d5 : w2.cell? ⟨g, 5, none⟩ = some (.int .i64 n) := b2.cell 5
    have d6 : w2.cell? ⟨g, 6, none⟩ = some (.int .i64 s) := b2.cell 6
    have d7 : w2.cell? ⟨g, 7, none⟩ = some (.int .i64 v) := b2.cell 7
    have d8 : w2.cell? ⟨g, 8, none⟩ = some (.int .i64 k) := b2.cell 8
    have z5 : w2.frozen? ⟨g, 5, none⟩ = false := b2.frozen 5
    have z6 : w2.frozen? ⟨g, 6, none⟩ = false := b2.frozen 6
    have z7 : w2.frozen? ⟨g, 7, none⟩ = false := b2.frozen 7
    have z8 : w2.frozen? ⟨g, 8, none⟩ = false := b2.frozen 8
    have b2H := hide b2
    clear b2 q2 bH qH d3 hw2 hn' c5 habs wdv wdv2 td
    go_wp2
    refine wp_region_noPanic ?_
    try simp only [List.append_eq, List.cons_append, List.nil_append]
    refine wp_region_mix [(0, true), (1, false), (2, false), (3, false), (4, true), (5, true), (6, true), (7, true), (8, true), (9, true), (10, true), (11, true), (12, true), (13, false), (14, false), (15, true), (16, true), (17, true), (18, true), (19, true), (20, true), (21, true), (22, true), (23, false), (24, true), (25, true), (26, true), (27, true), (28, false), (29, true), (30, true), (31, true), (32, true), (33, false), (34, false), (35, true), (36, true)] [37, 38, 39, 40, 41, 42, 43, 44, 45, 46] (by kernel_rfl) (by kernel_rfl) (fun _ _ _ _ _ h => h) ?_
    simp only [pickM, pickO, List.getElem?_cons_zero, List.getElem?_cons_succ]
    repeat (first | (refine wpMix_read rfl (fun K hK => ?_)) | (refine wpMix_pure rfl (fun K hK => ?_))
            go_big_quiet_op
            first | (refine hK _ ?_; clear hK K))
    refine wpMix_nil ?_
    intro _ hw'
    obtain ⟨nq, hw''⟩ := hw'
    subst hw''
    go_wp2
    refine NoPanic.normal ?_
    go_wp2
    go_ret
    have b3 := (((((unhide b2H).drewN nq).set 5 (.int .i64 (n + 1))).set 6 (.int .i64 (s + t))).set 7 (.int .i64 (v + q))).set 8 (.int .i64 (k + P))
    have c0 : Chg (fun k => k = g) w w2 := Quiet.chg (unhide q2H) _
    exact ⟨rfl, chg_set (chg_set (chg_set (chg_set (c0.drewN nq) _ _) _ _) _ _) _ _, unhide fin _ b3⟩

set_option maxHeartbeats 1000000 in
theorem msum_any (w : World) (g : Nat) (S : GS) (R : RepM w g S) (I : Inv S) :
    Calls Try.prog 45 #[.pointer (some ⟨g, 0, none⟩)] w fun ex w' => ex = .returned (.tuple #[.int .i64 (sumP S).1, .int .i64 (sumP S).2]) ∧ w' = w := by
  obtain ⟨num, den, bad, b, mw⟩ := R
  unfold cellsM at b
  have c0 : w.cell? ⟨g, 0, none⟩ = some (.int .i64 S.d) := b.cell 0
  have c6 : w.cell? ⟨g, 6, none⟩ = some (.int .i64 S.s) := b.cell 6
  have hb := isBinary_any w S.d I.ten
  by_cases hbin : binP S.d = true
  · have hfin : Hid (sumP S = (S.s, 0)) := by show _ = _; unfold sumP; rw [if_pos hbin]
    rw [unhide hfin]
    rw [hbin] at hb
    clear b mw I hfin hbin
    go_enter Try.func45, Try.ntmps45
    go_wp2_with fail
    refine hb.mono ?_
    clear hb
    rintro e w1 ⟨rfl, rfl⟩
    go_wp2
    go_ret2
    exact ⟨rfl, rfl⟩
  · have hfin : Hid (sumP S = (0, 11)) := by show _ = _; unfold sumP; rw [if_neg hbin]
    rw [unhide hfin]
    rw [Bool.eq_false_iff.2 hbin] at hb
    clear b mw I hfin hbin
    go_enter Try.func45, Try.ntmps45
    go_wp2_with fail
    refine hb.mono ?_
    clear hb
    rintro e w1 ⟨rfl, rfl⟩
    go_wp2
    go_ret2
    exact ⟨rfl, rfl⟩

set_option maxHeartbeats 1000000 in
theorem mvwap_any (w : World) (g : Nat) (S : GS) (R : RepM w g S) (I : Inv S) :
    Calls Try.prog 46 #[.pointer (some ⟨g, 0, none⟩)] w fun ex w' => ex = .returned (.tuple #[.int .i64 (vwapP S).1, .int .i64 (vwapP S).2]) ∧ Quiet w w' := by
  obtain ⟨num, den, bad, b, mw⟩ := R
  unfold cellsM at b
  have c5 : w.cell? ⟨g, 5, none⟩ = some (.int .i64 S.n) := b.cell 5
  have c7 : w.cell? ⟨g, 7, none⟩ = some (.int .i64 S.v) := b.cell 7
  have c8 : w.cell? ⟨g, 8, none⟩ = some (.int .i64 S.k) := b.cell 8
  have i1 := I.k1
  have i2 := I.v1
  have i3 := I.v2
  have i4 := I.n1
  have i5 := I.n0
  obtain ⟨d, t, e, q, n, s, v, k⟩ := S
  dsimp only at *
  clear b mw I
  by_cases h0 : n = 0
  · subst h0
    have e1 : Hid (vwapP ⟨d, t, e, q, 0, s, v, k⟩ = (0, 12)) := rfl
    rw [unhide e1]
    clear i1 i2 i3 i4 i5 e1
    go_enter Try.func46, Try.ntmps46
    go_wp2
    go_ret2
    exact ⟨rfl, Chg.refl _ _⟩
  have e1 : Hid (vwapP ⟨d, t, e, q, n, s, v, k⟩ = (roundDiv k v, 0)) := by show _ = _; unfold vwapP; rw [if_neg h0]
  rw [unhide e1]
  have hr := hide (fun W => roundDiv_any W k v (by omega) (by omega) (by omega))
  have h0' : (n == 0) = false := by simpa using h0
  have h0'' : (n = 0) = False := eq_false h0
  clear e1 h0 i1 i2 i3 i4 i5
  go_enter Try.func46, Try.ntmps46
  go_wp2
  go_quiet ((go_at_call 52; exact Calls.quiet_of_same (unhide hr _)))
  go_wp2
  go_ret2
  exact ⟨rfl, (Chg.refl _ _).drewN _⟩

set_option maxHeartbeats 4000000 in
set_option maxRecDepth 100000 in
theorem mshow_any (w : World) (g : Nat) (S : GS) (R : RepM w g S) (I : Inv S) :
    Calls Try.prog 36 #[.pointer (some ⟨g, 0, none⟩)] w fun ex w' => ex = .returned (.string (str (showP S))) ∧ Quiet w w' := by
  have h1 := mticks_any w g S R I
  have h2 : Hid (∀ W, Quiet w W → Calls Try.prog 45 #[.pointer (some ⟨g, 0, none⟩)] W fun ex w' => ex = .returned (.tuple #[.int .i64 (sumP S).1, .int .i64 (sumP S).2]) ∧ w' = W) := fun W q => msum_any W g S (R.quiet q) I
  obtain ⟨num, den, bad, b, mw⟩ := R
  have iq1 := I.q1
  have iq2 := I.q2
  have in0 := I.n0
  have in1 := I.n1
  have iv1 := I.v1
  have iv2 := I.v2
  have ik1 := I.k1
  have is1 := I.s1
  have it1 := I.t1
  have ie0 := I.e0
  have ie1 := I.e1
  have id1 : 1 ≤ S.d ∧ S.d ≤ 10000 := by have := I.ten; unfold Ten at this; omega
  have hs0 : In64 (sumP S).1 := by
    unfold sumP In64
    split
    · dsimp only; omega
    · decide
  have r1 := hide (fun W => row_any W S.d S.e S.t S.q ⟨by omega, by omega⟩ ⟨by omega, by omega⟩ ⟨by omega, by omega⟩ ⟨by omega, by omega⟩)
  have r2 := hide (fun W => row_any W S.n (sumP S).1 S.v S.k ⟨by omega, by omega⟩ hs0 ⟨by omega, by omega⟩ ⟨by omega, by omega⟩)
  have l1 := rowP_length S.d S.e S.t S.q
  have l2 := rowP_length S.n (sumP S).1 S.v S.k
  have fin : Hid (str (rowP S.d S.e S.t S.q) ++ ⟨#[59]⟩ ++ str (rowP S.n (sumP S).1 S.v S.k) = str (showP S)) := by
    show _ = _
    unfold showP
    rw [← str_append, ← str_append]; rfl
  rw [← str_size] at l1 l2
  generalize (sumP S).1 = sm at *
  generalize (sumP S).2 = se at *
  generalize str (showP S) = RR at *
  generalize str (rowP S.d S.e S.t S.q) = A at *
  generalize str (rowP S.n sm S.v S.k) = B at *
  unfold cellsM at b
  have hb : Hid (∀ W, Quiet w W → Blk W g 64 [.int .i64 S.d, .int .i64 num, .int .i64 den, .int .i64 S.q, .int .i64 bad, .int .i64 S.n, .int .i64 S.s, .int .i64 S.v, .int .i64 S.k]) := fun W q => Quiet.blk q b
  clear I mw b hs0 iq1 iq2 in0 in1 iv1 iv2 ik1 is1 it1 ie0 ie1 id1
  obtain ⟨d, t, e, q, n, s, v, k⟩ := S
  dsimp only at *
  have z1 : ¬ 9223372036854775807 < A.size + 1 := by omega
  have z2 : ¬ 9223372036854775807 < A.size + 1 + B.size := by omega
  clear l1 l2
  go_enter Try.func36, Try.ntmps36
  go_wp2_with fail
  refine h1.mono ?_
  clear h1
  rintro ex w1 ⟨rfl, q1⟩
  have h2' := unhide h2 w1 q1
  clear h2
  go_wp2_with fail
  refine h2'.mono ?_
  clear h2'
  rintro ex w2 ⟨rfl, rfl⟩
  have qH := hide q1
  have b2 := unhide hb w2 (unhide qH)
  have c0 : w2.cell? ⟨g, 0, none⟩ = some (.int .i64 d) := b2.cell 0
  have c3 : w2.cell? ⟨g, 3, none⟩ = some (.int .i64 q) := b2.cell 3
  have hc := QW.blk b2
  clear q1 b2
  go_wp2
  refine wp_region_noPanic ?_
  try simp only [List.append_eq, List.cons_append, List.nil_append]
  refine wp_region_mixq [(0, true), (1, true), (2, true), (3, true), (4, true), (5, true), (6, true), (7, true), (8, true), (9, true), (10, true), (11, true)] [] (by kernel_rfl) (by kernel_rfl) (fun _ _ _ _ _ h => h) ?_
  simp only [pickM, pickO, List.getElem?_cons_zero, List.getElem?_cons_succ]
  repeat (first | (refine wpMix_read rfl (fun K hK => ?_)) | (refine wpMix_pure rfl (fun K hK => ?_))
          go_big_quiet_op
          first | (refine hK _ ?_; clear hK K) | (apply Exists.intro; refine ⟨fun _ => ?_, ?_⟩; (· (first | (go_at_call 21; exact Calls.in_qw (unhide r1 _)))); refine hK _ ?_; clear hK K))
  refine wpMix_nil ?_
  intro _ hw'
  obtain ⟨qq, hw''⟩ := hw'
  subst hw''
  have hqq := qq.q
  generalize qq.w = wq at *
  have q3H := hide (Quiet.trans (unhide qH) hqq)
  clear hc hqq qH c0 c3 r1
  go_wp2
  refine NoPanic.normal ?_
  have b3 := unhide hb wq (unhide q3H)
  have c5 : wq.cell? ⟨g, 5, none⟩ = some (.int .i64 n) := b3.cell 5
  have c7 : wq.cell? ⟨g, 7, none⟩ = some (.int .i64 v) := b3.cell 7
  have c8 : wq.cell? ⟨g, 8, none⟩ = some (.int .i64 k) := b3.cell 8
  have hc := QW.blk b3
  clear b3 hb
  go_wp2
  refine wp_region_noPanic ?_
  try simp only [List.append_eq, List.cons_append, List.nil_append]
  refine wp_region_mixq [(0, true), (1, true), (2, true), (3, true), (4, true), (5, true), (6, true), (7, true), (8, true), (9, true), (10, true), (11, true), (12, true), (13, true), (14, true)] [] (by kernel_rfl) (by kernel_rfl) (fun _ _ _ _ _ h => h) ?_
  simp only [pickM, pickO, List.getElem?_cons_zero, List.getElem?_cons_succ]
  repeat (first | (refine wpMix_read rfl (fun K hK => ?_)) | (refine wpMix_pure rfl (fun K hK => ?_))
          go_big_quiet_op
          first | (refine hK _ ?_; clear hK K) | (apply Exists.intro; refine ⟨fun _ => ?_, ?_⟩; (· (first | (go_at_call 21; exact Calls.in_qw (unhide r2 _)))); refine hK _ ?_; clear hK K))
  refine wpMix_nil ?_
  intro _ hw'
  obtain ⟨qq, hw''⟩ := hw'
  subst hw''
  have hqq := qq.q
  generalize qq.w = wq at *
  have hqf := hide (Quiet.trans (unhide q3H) hqq)
  clear hc hqq q3H c5 c7 c8 r2
  go_wp2
  refine NoPanic.normal ?_
  go_wp2
  go_ret
  exact ⟨by rw [← unhide fin]; rfl, unhide hqf⟩

set_option maxHeartbeats 4000000 in
set_option maxRecDepth 100000 in
theorem mcheck_any (w : World) (g : Nat) (S : GS) (R : RepM w g S) (I : Inv S) :
    Calls Try.prog 37 #[.pointer (some ⟨g, 0, none⟩)] w fun ex w' => ex = .returned (.bool true) ∧ Quiet w w' := by
  obtain ⟨num, den, bad, b, mw⟩ := R
  unfold cellsM at b
  have c2 : w.cell? ⟨g, 2, none⟩ = some (.int .i64 den) := b.cell 2
  have c3 : w.cell? ⟨g, 3, none⟩ = some (.int .i64 S.q) := b.cell 3
  have c5 : w.cell? ⟨g, 5, none⟩ = some (.int .i64 S.n) := b.cell 5
  have c7 : w.cell? ⟨g, 7, none⟩ = some (.int .i64 S.v) := b.cell 7
  have k1 : (1 ≤ den) = True := eq_true mw.den1
  have k2 : (1 ≤ S.q) = True := eq_true I.q1
  have k3 : (S.q ≤ 16777216) = True := eq_true I.q2
  have k4 : (0 ≤ S.n) = True := eq_true I.n0
  have k5 : (S.n ≤ 16) = True := eq_true I.n1
  have k6 : (S.n ≤ S.v) = True := eq_true I.v1
  have k7 : (S.v ≤ S.n * 16777216) = True := eq_true I.v2
  have in0 := I.n0
  have in1 := I.n1
  have w1 : IntKind.i64.wrap (S.n * 16777216) = S.n * 16777216 := by rw [IntKind.wrap_i64]; omega
  clear b mw I in0 in1
  generalize S.n = n at *
  generalize S.q = q at *
  generalize S.v = v at *
  go_enter Try.func37, Try.ntmps37
  go_wp2
  go_big_quiet (fail)
  go_wp2
  go_ret
  exact ⟨rfl, (Chg.refl _ _).drewN _⟩
end Go.Proofs.Qxb6500365a
