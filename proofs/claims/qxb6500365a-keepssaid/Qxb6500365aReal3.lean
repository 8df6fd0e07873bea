/-
  THE REAL GATE's METHODS (3): Take, Vwap, Row, Show. (gen65r3.py)
-/
import Derived.Test.Qxb6500365aReal2
namespace Go.Proofs.Qxb6500365a
open Go.RowKit Go.Qx Ieee
set_option linter.unusedVariables false
set_option linter.unusedSimpArgs false

theorem cv_up {q r : Nat} (h : floatToFloatBits .f32 q .f64 = some r) : ∀ W, (convert 36 35 (.float .f32 q)).run Try.prog W = .ok (.float .f64 r) W := fun W => run_convert_float_float W 36 35 .f32 .f64 q r (by rw [Try.underlying36]; rfl) Try.underlying35 h
theorem cv_down {q r : Nat} (h : floatToFloatBits .f64 q .f32 = some r) : ∀ W, (convert 35 36 (.float .f64 q)).run Try.prog W = .ok (.float .f32 r) W := fun W => run_convert_float_float W 35 36 .f64 .f32 q r (by rw [Try.underlying35]; rfl) Try.underlying36 h

def takeE (S : GS) : Int := if S.n ≥ 16 then 9 else if S.e ≠ 0 then S.e else if 281474976710656 < (S.t * S.q).natAbs then 10 else 0
def takeS (S : GS) : GS := if takeE S = 0 then ⟨S.d, S.t, S.e, S.q, S.n + 1, S.s + S.t, S.v + S.q, S.k + S.t * S.q⟩ else S

set_option maxHeartbeats 4000000 in
set_option maxRecDepth 100000 in
theorem take_any (w : World) (g : Nat) (S : GS) (R : Rep w g S) (I : Inv S) :
    Calls Try.prog 27 #[.pointer (some ⟨g, 0, none⟩)] w fun ex w' => ex = .returned (.int .i64 (takeE S)) ∧ Chg (fun k => k = g) w w' ∧ Rep w' g (takeS S) := by
  have RH := hide R
  have ht := ticks_any w g S R
  have htR : Hid (∀ w1, Quiet w w1 → Rep w1 g S) := fun w1 q => R.quiet q
  obtain ⟨x, px, vo, no, b, T, hp, hv, hk⟩ := R
  have c4 : w.cell? ⟨g, 4, none⟩ = some (.int .i64 S.n) := b.cell 4
  by_cases hn : 16 ≤ S.n
  · have e1 : takeE S = 9 := by unfold takeE; rw [if_pos hn]
    have e2 : takeS S = S := by unfold takeS; rw [e1, if_neg (by decide)]
    rw [e1, e2]
    have hn' : (16 ≤ S.n) = True := eq_true hn
    generalize S.n = n at *
    clear ht b T hp hv hk I e1 e2 hn
    go_enter Try.func27, Try.ntmps27
    go_wp2
    go_ret
    exact ⟨rfl, Chg.refl _ _, unhide RH⟩
  have hn' : (16 ≤ S.n) = False := eq_false hn
  by_cases he : S.e = 0
  rotate_left
  · have e1 : takeE S = S.e := by unfold takeE; rw [if_neg hn, if_pos he]
    have e2 : takeS S = S := by unfold takeS; rw [e1, if_neg he]
    rw [e1, e2]
    have he' : (S.e == 0) = false := by simpa using he
    have he2 : (S.e = 0) = False := eq_false he
    generalize S.n = n at *
    generalize S.e = e at *
    generalize S.t = t at *
    clear b T hp hv hk I e1 e2 hn RH
    go_enter Try.func27, Try.ntmps27
    go_wp2_with fail
    refine ht.mono ?_
    clear ht
    rintro ex w1 ⟨rfl, q1⟩
    have fin := hide (And.intro q1 (unhide htR w1 q1))
    clear q1 htR
    go_wp2
    go_ret
    exact ⟨rfl, (unhide fin).1.chg _, (unhide fin).2⟩
  have hnI : S.n < 16 := by omega
  obtain ⟨fs, s1, s2, s3, s4⟩ := size_way S.q I.q1 I.q2
  obtain ⟨p, pv, p1, p2, p3, p4⟩ := take_way I.t1 I.q1 I.q2 s2
  have k1 := cv_up s1
  have k2 := ar_mul p1
  have cell3 : w.cell? ⟨g, 3, none⟩ = some (.float .f32 (floatOfInt .f32 S.q)) := b.cell 3
  have o1 := cm (order_dbl p2 dbl_note)
  have o2 := cm (order_dbl p2 dbl_nnote)
  by_cases hb : 281474976710656 < (S.t * S.q).natAbs
  · have e1 : takeE S = 10 := by unfold takeE; rw [if_neg hn, if_neg (fun h => h he), if_pos hb]
    have e2 : takeS S = S := by unfold takeS; rw [e1, if_neg (by decide)]
    rw [e1, e2]
    have hcase := p4 hb
    have hcell : Hid (∀ w1, Quiet w w1 → w1.cell? ⟨g, 3, none⟩ = some (.float .f32 (floatOfInt .f32 S.q))) := fun w1 q => q.cell cell3
    rw [he] at ht
    clear b T hp hv hk I e1 e2 hn RH s1 s2 s3 s4 p1 p2 p3 p4 hb hnI he
    generalize floatOfInt .f32 S.q = qb at *
    generalize S.n = n at *
    generalize S.t = t at *
    rcases Int.lt_or_le (281474976710656 * one) pv with hc | hc
    · have o3 : (FloatKind.f64.format.order p 4823355200913801216 == some .gt) = true := by rw [o1, Int.compare_eq_gt.2 hc]; rfl
      clear o1 o2 hc hcase
      go_enter Try.func27, Try.ntmps27
      go_wp2_with fail
      refine ht.mono ?_
      clear ht
      rintro ex w1 ⟨rfl, q1⟩
      have d3 := unhide hcell w1 q1
      have fin := hide (And.intro q1 (unhide htR w1 q1))
      clear q1 htR hcell
      go_wp2
      go_quiet (fail)
      go_wp2
      go_ret
      exact ⟨rfl, ((unhide fin).1.chg _).drewN _, (unhide fin).2.quiet ((Chg.refl _ _).drewN _)⟩
    · have o3 : (FloatKind.f64.format.order p 4823355200913801216 == some .gt) = false := by
        rw [o1]
        rcases Int.lt_or_eq_of_le hc with h | h
        · rw [Int.compare_eq_lt.2 h]; rfl
        · rw [Int.compare_eq_eq.2 h]; rfl
      have o4 : (FloatKind.f64.format.order p 14046727237768577024 == some .lt) = true := by rw [o2, Int.compare_eq_lt.2 (hcase.resolve_left (by omega))]; rfl
      clear o1 o2 hc hcase
      go_enter Try.func27, Try.ntmps27
      go_wp2_with fail
      refine ht.mono ?_
      clear ht
      rintro ex w1 ⟨rfl, q1⟩
      have d3 := unhide hcell w1 q1
      have fin := hide (And.intro q1 (unhide htR w1 q1))
      clear q1 htR hcell
      go_wp2
      go_quiet (fail)
      go_wp2
      go_ret
      exact ⟨rfl, ((unhide fin).1.chg _).drewN _, (unhide fin).2.quiet ((Chg.refl _ _).drewN _)⟩
  · have e1 : takeE S = 0 := by unfold takeE; rw [if_neg hn, if_neg (fun h => h he), if_neg hb]
    have e2 : takeS S = ⟨S.d, S.t, S.e, S.q, S.n + 1, S.s + S.t, S.v + S.q, S.k + S.t * S.q⟩ := by unfold takeS; rw [e1, if_pos rfl]
    rw [e1, e2]
    have hpv := p3 (by omega)
    have ho : one = 1267650600228229401496703205376 := rfl
    have o3 : (FloatKind.f64.format.order p 4823355200913801216 == some .gt) = false := by
      rw [o1, hpv]
      have : S.t * S.q * one ≤ 281474976710656 * one := Int.mul_le_mul_of_nonneg_right (by omega) (by decide)
      rcases Int.lt_or_eq_of_le this with h | h
      · rw [Int.compare_eq_lt.2 h]; rfl
      · rw [Int.compare_eq_eq.2 h]; rfl
    have o4 : (FloatKind.f64.format.order p 14046727237768577024 == some .lt) = false := by
      rw [o2, hpv]
      have : -281474976710656 * one ≤ S.t * S.q * one := Int.mul_le_mul_of_nonneg_right (by omega) (by decide)
      rcases Int.lt_or_eq_of_le this with h | h
      · rw [Int.compare_eq_gt.2 h]; rfl
      · rw [Int.compare_eq_eq.2 h.symm]; rfl
    rw [hpv] at p2
    have hs1 := I.s1
    have hv1 := I.v2
    have hk1 := I.k1
    have hn0 := I.n0
    have hv0 := I.v1
    have hq2 := I.q2
    have hq1 := I.q1
    obtain ⟨z, px', x1, x2, x3⟩ := px_way I.ten hp (t := S.t) (by omega) I.t1 I.n0 hnI
    obtain ⟨vo', x4, x5⟩ := add_one hv s2 (by omega)
    obtain ⟨no', x6, x7⟩ := add_one hk p2 (by omega)
    have y1 := ar_div x1
    have y2 := ar_add x2
    have y3 := ar_add x4
    have y4 := ar_add x6
    have hcell : Hid (∀ w1, Quiet w w1 → Blk w1 g 38 (cellsG S x px vo no)) := fun w1 q => Quiet.blk q b
    have fin : Hid (∀ w1, Blk w1 g 38 (cellsG ⟨S.d, S.t, S.e, S.q, S.n + 1, S.s + S.t, S.v + S.q, S.k + S.t * S.q⟩ x px' vo' no') → Rep w1 g ⟨S.d, S.t, S.e, S.q, S.n + 1, S.s + S.t, S.v + S.q, S.k + S.t * S.q⟩) := fun w1 b1 => ⟨x, px', vo', no', b1, T, x3, x5, x7⟩
    rw [he] at ht
    have w1n : IntKind.i64.wrap (S.n + 1) = S.n + 1 := by rw [IntKind.wrap_i64]; omega
    clear b T hp hv hk I e1 e2 RH s1 s2 s3 s4 p1 p2 p3 p4 hb hpv hs1 hv1 hk1 hv0 hq2 hq1 x1 x2 x3 x4 x5 x6 x7 o1 o2 cell3 htR ho
    generalize hqb : floatOfInt .f32 S.q = qb at *
    generalize hfd : floatOfInt .f64 S.d = fd at *
    have hqbH := hide hqb
    have hfdH := hide hfd
    clear hqb hfd
    obtain ⟨d, t, e, q, n, s, v, k⟩ := S
    dsimp only at *
    have hnn := hide (And.intro hn0 hnI)
    clear hn hnI he hn0
    go_enter Try.func27, Try.ntmps27
    go_wp2_with fail
    refine ht.mono ?_
    clear ht
    rintro ex w1 ⟨rfl, q1⟩
    have b1 := unhide hcell w1 q1
    have qH := hide q1
    unfold cellsG at b1
    dsimp only at b1
    rw [unhide hfdH, unhide hqbH] at b1
    have d3 : w1.cell? ⟨g, 3, none⟩ = some (.float .f32 qb) := b1.cell 3
    have bH := hide b1
    clear q1 b1 hcell
    go_wp2
    go_quiet (fail)
    have b2 := (unhide bH).drewN nq
    have q2 := (unhide qH).drewN nq
    obtain ⟨w2, hw2⟩ : ∃ W, w1.drewN nq = W := ⟨_, rfl⟩
    rw [hw2] at b2 q2 ⊢
    have q2H := hide q2
    have d1 : w2.cell? ⟨g, 1, none⟩ = some (.float .f64 fd) := b2.cell 1
    have d4 : w2.cell? ⟨g, 4, none⟩ = some (.int .i64 n) := b2.cell 4
    have d5 : w2.cell? ⟨g, 5, none⟩ = some (.float .f64 px) := b2.cell 5
    have d6 : w2.cell? ⟨g, 6, none⟩ = some (.float .f64 vo) := b2.cell 6
    have d7 : w2.cell? ⟨g, 7, none⟩ = some (.float .f64 no) := b2.cell 7
    have z4 : w2.frozen? ⟨g, 4, none⟩ = false := b2.frozen 4
    have z5 : w2.frozen? ⟨g, 5, none⟩ = false := b2.frozen 5
    have z6 : w2.frozen? ⟨g, 6, none⟩ = false := b2.frozen 6
    have z7 : w2.frozen? ⟨g, 7, none⟩ = false := b2.frozen 7
    have b2H := hide b2
    clear b2 q2 bH qH d3 hw2 hn' c4
    go_wp2
    refine wp_region_noPanic ?_
    try simp only [List.append_eq, List.cons_append, List.nil_append]
    refine wp_region_mix [(0, true), (1, false), (2, false), (3, false), (4, true), (5, true), (6, true), (7, true), (8, true), (9, true), (10, true), (11, true), (12, true), (13, false), (14, true), (15, true), (16, true), (17, true), (18, false), (19, false), (20, true), (21, true), (22, true), (23, true), (24, false), (25, false), (26, true), (27, true), (28, true), (29, true), (30, false), (31, false), (32, true), (33, true)] [34, 35, 36, 37, 38, 39, 40, 41, 42, 43] (by kernel_rfl) (by kernel_rfl) (fun _ _ _ _ _ h => h) ?_
    simp only [pickM, pickO, List.getElem?_cons_zero, List.getElem?_cons_succ]
    repeat (first | (refine wpMix_read rfl (fun K hK => ?_)) | (refine wpMix_pure rfl (fun K hK => ?_))
            go_big_quiet_op
            first | (refine hK _ ?_; clear hK K))
    refine wpMix_nil ?_
    intro _ hw'
    obtain ⟨nq, hw''⟩ := hw'
    subst hw''
    go_wp2
    refine NoPanic.normal ?_
    go_wp2
    go_ret
    have b3 := (((((unhide b2H).drewN nq).set 4 (.int .i64 (n + 1))).set 5 (.float .f64 px')).set 6 (.float .f64 vo')).set 7 (.float .f64 no')
    have c0 : Chg (fun k => k = g) w w2 := Quiet.chg (unhide q2H) _
    refine ⟨rfl, chg_set (chg_set (chg_set (chg_set (c0.drewN nq) _ _) _ _) _ _) _ _, unhide fin _ ?_⟩
    unfold cellsG
    dsimp only
    rw [unhide hfdH, unhide hqbH]
    exact b3

def vwapP (S : GS) : Int × Int := if S.n = 0 then (0, 12) else (roundDiv S.k S.v, 0)
set_option maxHeartbeats 4000000 in
set_option maxRecDepth 100000 in
theorem vwap_any (w : World) (g : Nat) (S : GS) (R : Rep w g S) (I : Inv S) :
    Calls Try.prog 28 #[.pointer (some ⟨g, 0, none⟩)] w fun ex w' => ex = .returned (.tuple #[.int .i64 (vwapP S).1, .int .i64 (vwapP S).2]) ∧ Quiet w w' := by
  obtain ⟨x, px, vo, no, b, T, hp, hv, hk⟩ := R
  have c4 : w.cell? ⟨g, 4, none⟩ = some (.int .i64 S.n) := b.cell 4
  have c6 : w.cell? ⟨g, 6, none⟩ = some (.float .f64 vo) := b.cell 6
  have c7 : w.cell? ⟨g, 7, none⟩ = some (.float .f64 no) := b.cell 7
  have i1 := I.k1
  have i2 := I.v1
  have i3 := I.v2
  have i4 := I.n1
  have i5 := I.n0
  obtain ⟨d, t, e, q, n, s, v, k⟩ := S
  dsimp only at *
  clear b T hp I
  by_cases h0 : n = 0
  · subst h0
    have e1 : Hid (vwapP ⟨d, t, e, q, 0, s, v, k⟩ = (0, 12)) := rfl
    rw [unhide e1]
    clear hv hk i1 i2 i3 i4 i5 e1
    go_enter Try.func28, Try.ntmps28
    go_wp2
    go_ret2
    exact ⟨rfl, Chg.refl _ _⟩
  have e1 : Hid (vwapP ⟨d, t, e, q, n, s, v, k⟩ = (roundDiv k v, 0)) := by show _ = _; unfold vwapP; rw [if_neg h0]
  rw [unhide e1]
  clear e1
  have h0' : (n == 0) = false := by simpa using h0
  have h0'' : (n = 0) = False := eq_false h0
  have v1 : 1 ≤ v := by omega
  have v2 : v ≤ 268435456 := by omega
  have kb : k.natAbs ≤ 4503599627370496 := by omega
  clear h0 i1 i2 i3 i4 i5
  obtain ⟨A, hA⟩ : ∃ A : Int, (k.natAbs : Int) = A := ⟨_, rfl⟩
  have A0 : 0 ≤ A := by omega
  have A1 : A ≤ 4503599627370496 := by omega
  have hrd : Hid (roundDiv k v = (if k < 0 then -1 else 1) * (A / v + if 2 * (A % v) ≥ v then 1 else 0)) := by show _ = _; unfold roundDiv; rw [if_neg (by omega), hA]
  have q0 : 0 ≤ A / v := Int.ediv_nonneg A0 (by omega)
  have q1 : A / v ≤ A := Int.ediv_le_self _ A0
  have m0 := Int.emod_nonneg A (b := v) (by omega)
  have m1 := Int.emod_lt_of_pos A (b := v) (by omega)
  have dm := Int.mul_ediv_add_emod A v
  by_cases hneg : k < 0
  · have hna : Dbl (Op.negFloat .f64 no) (A * one) := by
      have := neg_one hk
      rw [← Int.neg_mul, show -k = A by omega] at this
      exact this
    have og : (FloatKind.f64.format.order no 0 == some .lt) = true := by
      rw [cm (order_dbl hk dbl_c0), Int.compare_eq_lt.2 (Int.mul_neg_of_neg_of_pos hneg (by decide))]; rfl
    have hsg : Hid (∀ r : Int, (if k < 0 then -1 else 1) * r = -r) := fun r => by rw [if_pos hneg]; omega
    clear hk hneg hA kb
    obtain ⟨r, t0, d1, d2, d3, d4⟩ := vwap_way hna hv A0 A1 v1 v2
    have g1 := ar_div d1
    have g2 := cv_int d2
    have e0 : A / v * v = A - A % v := by rw [Int.mul_comm]; omega
    have ov : (0 : Int) < one := by decide
    rcases d3 with hq | hq
    · have ht0v : t0 * v = A - A % v := by rw [hq, e0]
      obtain ⟨p, p1, p2⟩ := mul_one_one (ofInt_one (n := t0) (by omega)) hv (by omega)
      obtain ⟨m, s1, s2⟩ := sub_one hna p2 (by omega)
      rw [ht0v, show A - (A - A % v) = A % v by omega] at s2
      obtain ⟨m3, a1, a2⟩ := add_one s2 s2 (by omega)
      have g3 := ar_mul p1
      have g4 := ar_sub s1
      have g5 := ar_add a1
      have og2 : (FloatKind.f64.format.order m 0 == some .lt) = false := by
        rw [cm (order_dbl s2 dbl_c0)]
        have : 0 ≤ A % v * one := Int.mul_nonneg m0 (by decide)
        rcases Int.lt_or_eq_of_le this with h | h
        · rw [Int.compare_eq_gt.2 h]; rfl
        · rw [Int.compare_eq_eq.2 h.symm]; rfl
      have o3 := cm (order_dbl a2 hv)
      by_cases hh : 2 * (A % v) ≥ v
      · have og3 : (FloatKind.f64.format.order m3 vo == some .gt || FloatKind.f64.format.order m3 vo == some .eq) = true := by
          rw [o3]
          have : v * one ≤ (A % v + A % v) * one := Int.mul_le_mul_of_nonneg_right (by omega) (by decide)
          rcases Int.lt_or_eq_of_le this with h | h
          · rw [Int.compare_eq_gt.2 h]; rfl
          · rw [Int.compare_eq_eq.2 h.symm]; rfl
        have fin : Hid (roundDiv k v = - (A / v + 1)) := by show _ = _; rw [unhide hrd, if_pos hh]; exact unhide hsg _
        rw [unhide fin]
        have tb : t0 ≤ 4503599627370497 := by omega
        rw [← hq]
        have tw1 : IntKind.i64.wrap (t0 - 1) = t0 - 1 := by rw [IntKind.wrap_i64]; omega
        have tw2 : IntKind.i64.wrap (t0 + 1) = t0 + 1 := by rw [IntKind.wrap_i64]; omega
        have tw3 : IntKind.i64.wrap (t0 - 1 + 1) = t0 := by rw [IntKind.wrap_i64]; omega
        clear hq hrd hsg fin hh o3 hv hna d1 d2 p1 p2 s1 s2 a1 a2 ht0v e0 dm q0 q1 m0 m1 A1 A0 v1 v2 ov
        go_enter Try.func28, Try.ntmps28
        go_wp2
        go_ret2
        exact ⟨by first | rfl | (show Ending.returned _ = _; congr; omega), Chg.refl _ _⟩
      · have og3a : (FloatKind.f64.format.order m3 vo == some .gt) = false := by
          rw [o3, Int.compare_eq_lt.2 (Int.mul_lt_mul_of_pos_right (by omega) ov)]; rfl
        have og3b : (FloatKind.f64.format.order m3 vo == some .eq) = false := by
          rw [o3, Int.compare_eq_lt.2 (Int.mul_lt_mul_of_pos_right (by omega) ov)]; rfl
        have fin : Hid (roundDiv k v = - (A / v)) := by show _ = _; rw [unhide hrd, if_neg hh, Int.add_zero]; exact unhide hsg _
        rw [unhide fin]
        have tb : t0 ≤ 4503599627370497 := by omega
        rw [← hq]
        have tw1 : IntKind.i64.wrap (t0 - 1) = t0 - 1 := by rw [IntKind.wrap_i64]; omega
        have tw2 : IntKind.i64.wrap (t0 + 1) = t0 + 1 := by rw [IntKind.wrap_i64]; omega
        have tw3 : IntKind.i64.wrap (t0 - 1 + 1) = t0 := by rw [IntKind.wrap_i64]; omega
        clear hq hrd hsg fin hh o3 hv hna d1 d2 p1 p2 s1 s2 a1 a2 ht0v e0 dm q0 q1 m0 m1 A1 A0 v1 v2 ov
        go_enter Try.func28, Try.ntmps28
        go_wp2
        go_ret2
        exact ⟨by first | rfl | (show Ending.returned _ = _; congr; omega), Chg.refl _ _⟩
    · have ht0v : t0 * v = A - A % v + v := by rw [hq, Int.add_mul, e0, Int.one_mul]
      obtain ⟨p, p1, p2⟩ := mul_one_one (ofInt_one (n := t0) (by omega)) hv (by omega)
      obtain ⟨m, s1, s2⟩ := sub_one hna p2 (by omega)
      rw [ht0v, show A - (A - A % v + v) = A % v - v by omega] at s2
      obtain ⟨m2, s3, s4⟩ := add_one s2 hv (by omega)
      rw [show A % v - v + v = A % v by omega] at s4
      obtain ⟨m3, a1, a2⟩ := add_one s4 s4 (by omega)
      have g3 := ar_mul p1
      have g4 := ar_sub s1
      have g5 := ar_add a1
      have g6 := ar_add s3
      have og2 : (FloatKind.f64.format.order m 0 == some .lt) = true := by
        rw [cm (order_dbl s2 dbl_c0), Int.compare_eq_lt.2 (Int.mul_neg_of_neg_of_pos (by omega) (by decide))]; rfl
      have o3 := cm (order_dbl a2 hv)
      by_cases hh : 2 * (A % v) ≥ v
      · have og3 : (FloatKind.f64.format.order m3 vo == some .gt || FloatKind.f64.format.order m3 vo == some .eq) = true := by
          rw [o3]
          have : v * one ≤ (A % v + A % v) * one := Int.mul_le_mul_of_nonneg_right (by omega) (by decide)
          rcases Int.lt_or_eq_of_le this with h | h
          · rw [Int.compare_eq_gt.2 h]; rfl
          · rw [Int.compare_eq_eq.2 h.symm]; rfl
        have fin : Hid (roundDiv k v = - (A / v + 1)) := by show _ = _; rw [unhide hrd, if_pos hh]; exact unhide hsg _
        rw [unhide fin]
        have tb : t0 ≤ 4503599627370497 := by omega
        rw [show A / v + 1 = t0 by omega]
        have tw1 : IntKind.i64.wrap (t0 - 1) = t0 - 1 := by rw [IntKind.wrap_i64]; omega
        have tw2 : IntKind.i64.wrap (t0 + 1) = t0 + 1 := by rw [IntKind.wrap_i64]; omega
        have tw3 : IntKind.i64.wrap (t0 - 1 + 1) = t0 := by rw [IntKind.wrap_i64]; omega
        clear hq hrd hsg fin hh o3 hv hna d1 d2 p1 p2 s1 s2 a1 a2 ht0v e0 dm q0 q1 m0 m1 A1 A0 v1 v2 ov s3 s4
        go_enter Try.func28, Try.ntmps28
        go_wp2
        go_quiet (fail)
        go_wp2
        go_ret2
        exact ⟨by first | rfl | (show Ending.returned _ = _; congr; omega), (Chg.refl _ _).drewN _⟩
      · have og3a : (FloatKind.f64.format.order m3 vo == some .gt) = false := by
          rw [o3, Int.compare_eq_lt.2 (Int.mul_lt_mul_of_pos_right (by omega) ov)]; rfl
        have og3b : (FloatKind.f64.format.order m3 vo == some .eq) = false := by
          rw [o3, Int.compare_eq_lt.2 (Int.mul_lt_mul_of_pos_right (by omega) ov)]; rfl
        have fin : Hid (roundDiv k v = - (A / v)) := by show _ = _; rw [unhide hrd, if_neg hh, Int.add_zero]; exact unhide hsg _
        rw [unhide fin]
        have tb : t0 ≤ 4503599627370497 := by omega
        rw [show A / v = t0 - 1 by omega]
        have tw1 : IntKind.i64.wrap (t0 - 1) = t0 - 1 := by rw [IntKind.wrap_i64]; omega
        have tw2 : IntKind.i64.wrap (t0 + 1) = t0 + 1 := by rw [IntKind.wrap_i64]; omega
        have tw3 : IntKind.i64.wrap (t0 - 1 + 1) = t0 := by rw [IntKind.wrap_i64]; omega
        clear hq hrd hsg fin hh o3 hv hna d1 d2 p1 p2 s1 s2 a1 a2 ht0v e0 dm q0 q1 m0 m1 A1 A0 v1 v2 ov s3 s4
        go_enter Try.func28, Try.ntmps28
        go_wp2
        go_quiet (fail)
        go_wp2
        go_ret2
        exact ⟨by first | rfl | (show Ending.returned _ = _; congr; omega), (Chg.refl _ _).drewN _⟩
  · have hna : Dbl no (A * one) := by rw [← hA, show ((k.natAbs : Nat) : Int) = k by omega]; exact hk
    have og : (FloatKind.f64.format.order no 0 == some .lt) = false := by
      rw [cm (order_dbl hk dbl_c0)]
      have : 0 ≤ k * one := Int.mul_nonneg (by omega) (by decide)
      rcases Int.lt_or_eq_of_le this with h | h
      · rw [Int.compare_eq_gt.2 h]; rfl
      · rw [Int.compare_eq_eq.2 h.symm]; rfl
    have hsg : Hid (∀ r : Int, (if k < 0 then -1 else 1) * r = r) := fun r => by rw [if_neg hneg]; omega
    clear hk hneg hA kb
    obtain ⟨r, t0, d1, d2, d3, d4⟩ := vwap_way hna hv A0 A1 v1 v2
    have g1 := ar_div d1
    have g2 := cv_int d2
    have e0 : A / v * v = A - A % v := by rw [Int.mul_comm]; omega
    have ov : (0 : Int) < one := by decide
    rcases d3 with hq | hq
    · have ht0v : t0 * v = A - A % v := by rw [hq, e0]
      obtain ⟨p, p1, p2⟩ := mul_one_one (ofInt_one (n := t0) (by omega)) hv (by omega)
      obtain ⟨m, s1, s2⟩ := sub_one hna p2 (by omega)
      rw [ht0v, show A - (A - A % v) = A % v by omega] at s2
      obtain ⟨m3, a1, a2⟩ := add_one s2 s2 (by omega)
      have g3 := ar_mul p1
      have g4 := ar_sub s1
      have g5 := ar_add a1
      have og2 : (FloatKind.f64.format.order m 0 == some .lt) = false := by
        rw [cm (order_dbl s2 dbl_c0)]
        have : 0 ≤ A % v * one := Int.mul_nonneg m0 (by decide)
        rcases Int.lt_or_eq_of_le this with h | h
        · rw [Int.compare_eq_gt.2 h]; rfl
        · rw [Int.compare_eq_eq.2 h.symm]; rfl
      have o3 := cm (order_dbl a2 hv)
      by_cases hh : 2 * (A % v) ≥ v
      · have og3 : (FloatKind.f64.format.order m3 vo == some .gt || FloatKind.f64.format.order m3 vo == some .eq) = true := by
          rw [o3]
          have : v * one ≤ (A % v + A % v) * one := Int.mul_le_mul_of_nonneg_right (by omega) (by decide)
          rcases Int.lt_or_eq_of_le this with h | h
          · rw [Int.compare_eq_gt.2 h]; rfl
          · rw [Int.compare_eq_eq.2 h.symm]; rfl
        have fin : Hid (roundDiv k v =  (A / v + 1)) := by show _ = _; rw [unhide hrd, if_pos hh]; exact unhide hsg _
        rw [unhide fin]
        have tb : t0 ≤ 4503599627370497 := by omega
        rw [← hq]
        have tw1 : IntKind.i64.wrap (t0 - 1) = t0 - 1 := by rw [IntKind.wrap_i64]; omega
        have tw2 : IntKind.i64.wrap (t0 + 1) = t0 + 1 := by rw [IntKind.wrap_i64]; omega
        have tw3 : IntKind.i64.wrap (t0 - 1 + 1) = t0 := by rw [IntKind.wrap_i64]; omega
        clear hq hrd hsg fin hh o3 hv hna d1 d2 p1 p2 s1 s2 a1 a2 ht0v e0 dm q0 q1 m0 m1 A1 A0 v1 v2 ov
        go_enter Try.func28, Try.ntmps28
        go_wp2
        go_ret2
        exact ⟨by first | rfl | (show Ending.returned _ = _; congr; omega), Chg.refl _ _⟩
      · have og3a : (FloatKind.f64.format.order m3 vo == some .gt) = false := by
          rw [o3, Int.compare_eq_lt.2 (Int.mul_lt_mul_of_pos_right (by omega) ov)]; rfl
        have og3b : (FloatKind.f64.format.order m3 vo == some .eq) = false := by
          rw [o3, Int.compare_eq_lt.2 (Int.mul_lt_mul_of_pos_right (by omega) ov)]; rfl
        have fin : Hid (roundDiv k v =  (A / v)) := by show _ = _; rw [unhide hrd, if_neg hh, Int.add_zero]; exact unhide hsg _
        rw [unhide fin]
        have tb : t0 ≤ 4503599627370497 := by omega
        rw [← hq]
        have tw1 : IntKind.i64.wrap (t0 - 1) = t0 - 1 := by rw [IntKind.wrap_i64]; omega
        have tw2 : IntKind.i64.wrap (t0 + 1) = t0 + 1 := by rw [IntKind.wrap_i64]; omega
        have tw3 : IntKind.i64.wrap (t0 - 1 + 1) = t0 := by rw [IntKind.wrap_i64]; omega
        clear hq hrd hsg fin hh o3 hv hna d1 d2 p1 p2 s1 s2 a1 a2 ht0v e0 dm q0 q1 m0 m1 A1 A0 v1 v2 ov
        go_enter Try.func28, Try.ntmps28
        go_wp2
        go_ret2
        exact ⟨by first | rfl | (show Ending.returned _ = _; congr; omega), Chg.refl _ _⟩
    · have ht0v : t0 * v = A - A % v + v := by rw [hq, Int.add_mul, e0, Int.one_mul]
      obtain ⟨p, p1, p2⟩ := mul_one_one (ofInt_one (n := t0) (by omega)) hv (by omega)
      obtain ⟨m, s1, s2⟩ := sub_one hna p2 (by omega)
      rw [ht0v, show A - (A - A % v + v) = A % v - v by omega] at s2
      obtain ⟨m2, s3, s4⟩ := add_one s2 hv (by omega)
      rw [show A % v - v + v = A % v by omega] at s4
      obtain ⟨m3, a1, a2⟩ := add_one s4 s4 (by omega)
      have g3 := ar_mul p1
      have g4 := ar_sub s1
      have g5 := ar_add a1
      have g6 := ar_add s3
      have og2 : (FloatKind.f64.format.order m 0 == some .lt) = true := by
        rw [cm (order_dbl s2 dbl_c0), Int.compare_eq_lt.2 (Int.mul_neg_of_neg_of_pos (by omega) (by decide))]; rfl
      have o3 := cm (order_dbl a2 hv)
      by_cases hh : 2 * (A % v) ≥ v
      · have og3 : (FloatKind.f64.format.order m3 vo == some .gt || FloatKind.f64.format.order m3 vo == some .eq) = true := by
          rw [o3]
          have : v * one ≤ (A % v + A % v) * one := Int.mul_le_mul_of_nonneg_right (by omega) (by decide)
          rcases Int.lt_or_eq_of_le this with h | h
          · rw [Int.compare_eq_gt.2 h]; rfl
          · rw [Int.compare_eq_eq.2 h.symm]; rfl
        have fin : Hid (roundDiv k v =  (A / v + 1)) := by show _ = _; rw [unhide hrd, if_pos hh]; exact unhide hsg _
        rw [unhide fin]
        have tb : t0 ≤ 4503599627370497 := by omega
        rw [show A / v + 1 = t0 by omega]
        have tw1 : IntKind.i64.wrap (t0 - 1) = t0 - 1 := by rw [IntKind.wrap_i64]; omega
        have tw2 : IntKind.i64.wrap (t0 + 1) = t0 + 1 := by rw [IntKind.wrap_i64]; omega
        have tw3 : IntKind.i64.wrap (t0 - 1 + 1) = t0 := by rw [IntKind.wrap_i64]; omega
        clear hq hrd hsg fin hh o3 hv hna d1 d2 p1 p2 s1 s2 a1 a2 ht0v e0 dm q0 q1 m0 m1 A1 A0 v1 v2 ov s3 s4
        go_enter Try.func28, Try.ntmps28
        go_wp2
        go_quiet (fail)
        go_wp2
        go_ret2
        exact ⟨by first | rfl | (show Ending.returned _ = _; congr; omega), (Chg.refl _ _).drewN _⟩
      · have og3a : (FloatKind.f64.format.order m3 vo == some .gt) = false := by
          rw [o3, Int.compare_eq_lt.2 (Int.mul_lt_mul_of_pos_right (by omega) ov)]; rfl
        have og3b : (FloatKind.f64.format.order m3 vo == some .eq) = false := by
          rw [o3, Int.compare_eq_lt.2 (Int.mul_lt_mul_of_pos_right (by omega) ov)]; rfl
        have fin : Hid (roundDiv k v =  (A / v)) := by show _ = _; rw [unhide hrd, if_neg hh, Int.add_zero]; exact unhide hsg _
        rw [unhide fin]
        have tb : t0 ≤ 4503599627370497 := by omega
        rw [show A / v = t0 - 1 by omega]
        have tw1 : IntKind.i64.wrap (t0 - 1) = t0 - 1 := by rw [IntKind.wrap_i64]; omega
        have tw2 : IntKind.i64.wrap (t0 + 1) = t0 + 1 := by rw [IntKind.wrap_i64]; omega
        have tw3 : IntKind.i64.wrap (t0 - 1 + 1) = t0 := by rw [IntKind.wrap_i64]; omega
        clear hq hrd hsg fin hh o3 hv hna d1 d2 p1 p2 s1 s2 a1 a2 ht0v e0 dm q0 q1 m0 m1 A1 A0 v1 v2 ov s3 s4
        go_enter Try.func28, Try.ntmps28
        go_wp2
        go_quiet (fail)
        go_wp2
        go_ret2
        exact ⟨by first | rfl | (show Ending.returned _ = _; congr; omega), (Chg.refl _ _).drewN _⟩
end Go.Proofs.Qxb6500365a
