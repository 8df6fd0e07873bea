/-
  THE REAL GATE's METHODS (4): Row, Show, whole, Check. (gen65r4.py)
-/
import Derived.Test.Qxb6500365aReal3
import Derived.Test.Qxb6500365aQq
namespace Go.Proofs.Qxb6500365a
open Go.RowKit Go.Qx Ieee
set_option linter.unusedVariables false
set_option linter.unusedSimpArgs false

def In64 (n : Int) : Prop := -9223372036854775808 ≤ n ∧ n ≤ 9223372036854775807
def rowP (a b c d : Int) : List UInt8 := itoa a ++ [44] ++ itoa b ++ [44] ++ itoa c ++ [44] ++ itoa d
theorem rowP_length (a b c d : Int) : (rowP a b c d).length ≤ 100 := by
  have h1 := itoa_length a
  have h2 := itoa_length b
  have h3 := itoa_length c
  have h4 := itoa_length d
  unfold rowP; simp; omega
set_option maxHeartbeats 1000000 in
theorem row_any (w : World) (a b c d : Int) (ha : In64 a) (hb : In64 b) (hc : In64 c) (hd : In64 d) :
    Calls Try.prog 21 #[.int .i64 a, .int .i64 b, .int .i64 c, .int .i64 d] w fun ex w' => ex = .returned (.string (str (rowP a b c d))) ∧ Quiet w w' := by
  have h1 := itoa_length a
  have h2 := itoa_length b
  have h3 := itoa_length c
  have h4 := itoa_length d
  have i1 := hide (fun W => itoa_any a W ha.1 ha.2)
  have i2 := hide (fun W => itoa_any b W hb.1 hb.2)
  have i3 := hide (fun W => itoa_any c W hc.1 hc.2)
  have i4 := hide (fun W => itoa_any d W hd.1 hd.2)
  clear ha hb hc hd
  go_enter Try.func21, Try.ntmps21
  go_wp2_with fail
  refine (unhide i1 w).mono ?_
  rintro e w1 ⟨rfl, q1⟩
  go_wp2_with fail
  refine (unhide i2 w1).mono ?_
  rintro e w2 ⟨rfl, q2⟩
  go_wp2_with fail
  refine (unhide i3 w2).mono ?_
  rintro e w3 ⟨rfl, q3⟩
  go_wp2_with fail
  refine (unhide i4 w3).mono ?_
  rintro e w4 ⟨rfl, q4⟩
  have hq := hide (((q1.trans q2).trans q3).trans q4)
  have fin : Hid (str (itoa a) ++ ⟨#[44]⟩ ++ str (itoa b) ++ ⟨#[44]⟩ ++ str (itoa c) ++ ⟨#[44]⟩ ++ str (itoa d) = str (rowP a b c d)) := by
    show _ = _
    unfold rowP
    rw [← str_append, ← str_append, ← str_append, ← str_append, ← str_append, ← str_append]; rfl
  have s1 : (str (itoa a)).size ≤ 20 := by rw [str_size]; exact h1
  have s2 : (str (itoa b)).size ≤ 20 := by rw [str_size]; exact h2
  have s3 : (str (itoa c)).size ≤ 20 := by rw [str_size]; exact h3
  have s4 : (str (itoa d)).size ≤ 20 := by rw [str_size]; exact h4
  clear q1 q2 q3 q4 h1 h2 h3 h4 i1 i2 i3 i4
  generalize str (itoa a) = A at *
  generalize str (itoa b) = B at *
  generalize str (itoa c) = C at *
  generalize str (itoa d) = D at *
  have z1 : ¬ 9223372036854775807 < A.size + 1 := by omega
  have z2 : ¬ 9223372036854775807 < A.size + 1 + B.size := by omega
  have z3 : ¬ 9223372036854775807 < A.size + 1 + B.size + 1 := by omega
  have z4 : ¬ 9223372036854775807 < A.size + 1 + B.size + 1 + C.size := by omega
  have z5 : ¬ 9223372036854775807 < A.size + 1 + B.size + 1 + C.size + 1 := by omega
  have z6 : ¬ 9223372036854775807 < A.size + 1 + B.size + 1 + C.size + 1 + D.size := by omega
  clear s1 s2 s3 s4
  go_wp2
  go_ret
  exact ⟨by rw [← unhide fin]; rfl, unhide hq⟩

def showP (S : GS) : List UInt8 := rowP S.d S.e S.t S.q ++ [59] ++ rowP S.n (sumP S).1 S.v S.k
set_option maxHeartbeats 4000000 in
set_option maxRecDepth 100000 in
theorem show_any (w : World) (g : Nat) (S : GS) (R : Rep w g S) (I : Inv S) :
    Calls Try.prog 12 #[.pointer (some ⟨g, 0, none⟩)] w fun ex w' => ex = .returned (.string (str (showP S))) ∧ Quiet w w' := by
  have h1 := ticks_any w g S R
  have h2 : Hid (∀ W, Quiet w W → Calls Try.prog 20 #[.pointer (some ⟨g, 0, none⟩)] W fun ex w' => ex = .returned (.tuple #[.int .i64 (sumP S).1, .int .i64 (sumP S).2]) ∧ Quiet W w') := fun W q => sum_any W g S (R.quiet q) I
  obtain ⟨x, px, vo, no, b, T, hp, hv, hk⟩ := R
  obtain ⟨fs, s1, s2, s3, s4⟩ := size_way S.q I.q1 I.q2
  have k1 := cv_up s1
  have k2 := cv_down s3
  have k3 : (FloatKind.f32.format.order (floatOfInt .f32 S.q) (floatOfInt .f32 S.q) == some .eq) = true := by
    have : FloatKind.f32.format.order (floatOfInt .f32 S.q) (floatOfInt .f32 S.q) = some .eq := s4
    rw [this]; rfl
  have iq1 := I.q1
  have iq2 := I.q2
  have in0 := I.n0
  have in1 := I.n1
  have iv1 := I.v1
  have iv2 := I.v2
  have ik1 := I.k1
  have is1 := I.s1
  have it1 := I.t1
  have ie0 := I.e0
  have ie1 := I.e1
  have id1 : 1 ≤ S.d ∧ S.d ≤ 10000 := by have := I.ten; unfold Ten at this; omega
  have k4 := cv_int (whole_way s2 (by omega))
  have k5 := cv_int (whole_way hv (by omega))
  have k6 := cv_int (whole_way hk (by omega))
  have hs0 : In64 (sumP S).1 := by
    unfold sumP In64
    split
    · dsimp only; omega
    · decide
  have r1 := hide (fun W => row_any W S.d S.e S.t S.q ⟨by omega, by omega⟩ ⟨by omega, by omega⟩ ⟨by omega, by omega⟩ ⟨by omega, by omega⟩)
  have r2 := hide (fun W => row_any W S.n (sumP S).1 S.v S.k ⟨by omega, by omega⟩ hs0 ⟨by omega, by omega⟩ ⟨by omega, by omega⟩)
  have l1 := rowP_length S.d S.e S.t S.q
  have l2 := rowP_length S.n (sumP S).1 S.v S.k
  have fin : Hid (str (rowP S.d S.e S.t S.q) ++ ⟨#[59]⟩ ++ str (rowP S.n (sumP S).1 S.v S.k) = str (showP S)) := by
    show _ = _
    unfold showP
    rw [← str_append, ← str_append]; rfl
  rw [← str_size] at l1 l2
  generalize (sumP S).1 = sm at *
  generalize (sumP S).2 = se at *
  generalize str (showP S) = RR at *
  generalize str (rowP S.d S.e S.t S.q) = A at *
  generalize str (rowP S.n sm S.v S.k) = B at *
  unfold cellsG at b
  generalize floatOfInt .f32 S.q = qb at *
  generalize floatOfInt .f64 S.d = fd at *
  have hb : Hid (∀ W, Quiet w W → Blk W g 38 [.int .i64 S.d, .float .f64 fd, .float .f64 x, .float .f32 qb, .int .i64 S.n, .float .f64 px, .float .f64 vo, .float .f64 no]) := fun W q => Quiet.blk q b
  clear I T hp hv hk s1 s2 s3 s4 b hs0 iq1 iq2 in0 in1 iv1 iv2 ik1 is1 it1 ie0 ie1 id1
  obtain ⟨d, t, e, q, n, s, v, k⟩ := S
  dsimp only at *
  have z1 : ¬ 9223372036854775807 < A.size + 1 := by omega
  have z2 : ¬ 9223372036854775807 < A.size + 1 + B.size := by omega
  clear l1 l2
  go_enter Try.func12, Try.ntmps12
  go_wp2_with fail
  refine h1.mono ?_
  clear h1
  rintro ex w1 ⟨rfl, q1⟩
  have h2' := unhide h2 w1 q1
  clear h2
  go_wp2_with fail
  refine h2'.mono ?_
  clear h2'
  rintro ex w2 ⟨rfl, q2⟩
  have qH := hide (q1.trans q2)
  have b2 := unhide hb w2 (unhide qH)
  have c0 : w2.cell? ⟨g, 0, none⟩ = some (.int .i64 d) := b2.cell 0
  have c3 : w2.cell? ⟨g, 3, none⟩ = some (.float .f32 qb) := b2.cell 3
  have r1' := unhide r1 w2
  clear q1 q2 b2
  go_wp2_with fail
  refine r1'.mono ?_
  clear r1' r1 c0 c3 k1 k2 k3 k4
  rintro ex w3 ⟨rfl, q3⟩
  have b3 := unhide hb w3 ((unhide qH).trans q3)
  have q3H := hide ((unhide qH).trans q3)
  have c4 : w3.cell? ⟨g, 4, none⟩ = some (.int .i64 n) := b3.cell 4
  have c6 : w3.cell? ⟨g, 6, none⟩ = some (.float .f64 vo) := b3.cell 6
  have c7 : w3.cell? ⟨g, 7, none⟩ = some (.float .f64 no) := b3.cell 7
  have hc := QW.blk b3
  clear b3 q3 qH hb
  go_wp2
  refine wp_region_noPanic ?_
  try simp only [List.append_eq, List.cons_append, List.nil_append]
  refine wp_region_mixq [(0, true), (1, true), (2, true), (3, true), (4, true), (5, true), (6, true), (7, true), (8, true), (9, true), (10, true), (11, true), (12, true), (13, true), (14, true), (15, true), (16, true)] [] (by kernel_rfl) (by kernel_rfl) (fun _ _ _ _ _ h => h) ?_
  simp only [pickM, pickO, List.getElem?_cons_zero, List.getElem?_cons_succ]
  repeat (first | (refine wpMix_read rfl (fun K hK => ?_)) | (refine wpMix_pure rfl (fun K hK => ?_))
          go_big_quiet_op
          first | (refine hK _ ?_; clear hK K) | (apply Exists.intro; refine ⟨fun _ => ?_, ?_⟩; (· (first | (go_at_call 21; exact Calls.in_qw (unhide r2 _)))); refine hK _ ?_; clear hK K))
  refine wpMix_nil ?_
  intro _ hw'
  obtain ⟨qq, hw''⟩ := hw'
  subst hw''
  have hqq := qq.q
  generalize qq.w = wq at *
  have hqf := hide (Quiet.trans (unhide q3H) hqq)
  clear hc hqq q3H c4 c6 c7 r2
  go_wp2
  refine NoPanic.normal ?_
  go_wp2
  go_ret
  exact ⟨by rw [← unhide fin]; rfl, unhide hqf⟩

set_option maxHeartbeats 1000000 in
theorem whole_any (w : World) (a lo hi : Nat) (v l h : Int) (ha : Dbl a (v * one)) (hl : Dbl lo (l * one)) (hh : Dbl hi (h * one)) (h1 : l ≤ v) (h2 : v ≤ h) (hv : v.natAbs < 2 ^ 53) :
    Calls Try.prog 50 #[.float .f64 a, .float .f64 lo, .float .f64 hi] w fun ex w' => ex = .returned (.bool true) ∧ w' = w := by
  have o1 : (FloatKind.f64.format.order a lo == some .gt || FloatKind.f64.format.order a lo == some .eq) = true := by
    rw [cm (order_dbl ha hl)]
    have : l * one ≤ v * one := Int.mul_le_mul_of_nonneg_right h1 (by decide)
    rcases Int.lt_or_eq_of_le this with c | c
    · rw [Int.compare_eq_gt.2 c]; rfl
    · rw [Int.compare_eq_eq.2 c.symm]; rfl
  have o2 : (FloatKind.f64.format.order a hi == some .lt || FloatKind.f64.format.order a hi == some .eq) = true := by
    rw [cm (order_dbl ha hh)]
    have : v * one ≤ h * one := Int.mul_le_mul_of_nonneg_right h2 (by decide)
    rcases Int.lt_or_eq_of_le this with c | c
    · rw [Int.compare_eq_lt.2 c]; rfl
    · rw [Int.compare_eq_eq.2 c]; rfl
  have o3 := cv_int (whole_way ha hv)
  have o4 : (FloatKind.f64.format.order a (floatOfInt .f64 v) == some .eq) = true := by
    rw [cm (order_dbl ha (ofInt_one hv)), Int.compare_eq_eq.2 rfl]; rfl
  clear ha hl hh h1 h2 hv
  go_enter Try.func50, Try.ntmps50
  go_wp2
  go_ret
  exact ⟨rfl, rfl⟩

set_option maxHeartbeats 4000000 in
set_option maxRecDepth 100000 in
theorem check_any (w : World) (g : Nat) (S : GS) (R : Rep w g S) (I : Inv S) :
    Calls Try.prog 30 #[.pointer (some ⟨g, 0, none⟩)] w fun ex w' => ex = .returned (.bool true) ∧ Quiet w w' := by
  obtain ⟨x, px, vo, no, b, T, hp, hv, hk⟩ := R
  have hden := isDenom_any w S.d
  rw [decide_eq_true I.ten] at hden
  obtain ⟨fs, s1, s2, s3, s4⟩ := size_way S.q I.q1 I.q2
  have iq1 := I.q1
  have iq2 := I.q2
  have in0 := I.n0
  have in1 := I.n1
  have iv1 := I.v1
  have iv2 := I.v2
  have ik1 := I.k1
  have is1 := I.s1
  have id1 : 1 ≤ S.d ∧ S.d ≤ 10000 := by have := I.ten; unfold Ten at this; omega
  obtain ⟨pv, p1, p2, p3⟩ := px_bound I.ten hp I.n0 I.s1
  have dn := ofInt_one (n := S.n) (by omega)
  have dnn := neg_one dn
  rw [← Int.neg_mul] at dnn
  obtain ⟨t1, a1, a2⟩ := mul_one_one dnn dbl_tick (by omega)
  obtain ⟨t2, a3, a4⟩ := mul_one_one dn dbl_tick (by omega)
  obtain ⟨u1, a5, a6⟩ := mul_one_one dn dbl_size (by omega)
  obtain ⟨y1, a7, a8⟩ := mul_one_one dnn dbl_note (by omega)
  obtain ⟨y2, a9, a10⟩ := mul_one_one dn dbl_note (by omega)
  have m1 := ar_mul a1
  have m2 := ar_mul a3
  have m3 := ar_mul a5
  have m4 := ar_mul a7
  have m5 := ar_mul a9
  have dd := ofInt_one (n := S.d) (by omega)
  have o0 : (FloatKind.f64.format.order (floatOfInt .f64 S.d) (floatOfInt .f64 S.d) != some .eq) = false := by rw [cm (order_dbl dd dd), Int.compare_eq_eq.2 rfl]; rfl
  have o1 : (FloatKind.f64.format.order px t1 == some .gt || FloatKind.f64.format.order px t1 == some .eq) = true := by
    rw [cm (order_dbl p1 a2)]
    have : -S.n * 1000000000000 * one ≤ pv := by rw [Int.neg_mul, Int.neg_mul]; exact p2
    rcases Int.lt_or_eq_of_le this with c | c
    · rw [Int.compare_eq_gt.2 c]; rfl
    · rw [Int.compare_eq_eq.2 c.symm]; rfl
  have o2 : (FloatKind.f64.format.order px t2 == some .lt || FloatKind.f64.format.order px t2 == some .eq) = true := by
    rw [cm (order_dbl p1 a4)]
    rcases Int.lt_or_eq_of_le p3 with c | c
    · rw [Int.compare_eq_lt.2 c]; rfl
    · rw [Int.compare_eq_eq.2 c]; rfl
  have w1 := hide (fun W => whole_any W fs 4607182418800017408 4715268809856909312 S.q 1 16777216 s2 (by rw [Int.one_mul]; exact dbl_one) dbl_size iq1 iq2 (by omega))
  have w2 := hide (fun W => whole_any W vo (floatOfInt .f64 S.n) u1 S.v S.n (S.n * 16777216) hv dn a6 iv1 iv2 (by omega))
  have w3 := hide (fun W => whole_any W no y1 y2 S.k (-S.n * 281474976710656) (S.n * 281474976710656) hk a8 a10 (by omega) (by omega) (by omega))
  have k1 := cv_up s1
  have n0' : (S.n < 0) = False := eq_false (by omega)
  have n1' : (16 < S.n) = False := eq_false (by omega)
  unfold cellsG at b
  have c0 : w.cell? ⟨g, 0, none⟩ = some (.int .i64 S.d) := b.cell 0
  have c1 : w.cell? ⟨g, 1, none⟩ = some (.float .f64 (floatOfInt .f64 S.d)) := b.cell 1
  have c3 : w.cell? ⟨g, 3, none⟩ = some (.float .f32 (floatOfInt .f32 S.q)) := b.cell 3
  have c4 : w.cell? ⟨g, 4, none⟩ = some (.int .i64 S.n) := b.cell 4
  have c5 : w.cell? ⟨g, 5, none⟩ = some (.float .f64 px) := b.cell 5
  have c6 : w.cell? ⟨g, 6, none⟩ = some (.float .f64 vo) := b.cell 6
  have c7 : w.cell? ⟨g, 7, none⟩ = some (.float .f64 no) := b.cell 7
  clear I T hp hv hk s1 s2 s3 s4 iq1 iq2 in0 in1 iv1 iv2 ik1 is1 id1 p1 p2 p3 dn dnn a1 a2 a3 a4 a5 a6 a7 a8 a9 a10 dd b
  generalize floatOfInt .f32 S.q = qb at *
  obtain ⟨d, t, e, q, n, s, v, k⟩ := S
  dsimp only at *
  go_enter Try.func30, Try.ntmps30
  go_wp2_with fail
  refine hden.mono ?_
  clear hden
  rintro ex w9 ⟨rfl, rfl⟩
  go_wp2
  go_big_quiet (fail)
  go_wp2
  go_quiet (fail)
  go_wp2_with fail
  refine (unhide w1 _).mono ?_
  rintro ex w10 ⟨rfl, rfl⟩
  go_wp2_with fail
  refine (unhide w2 _).mono ?_
  rintro ex w11 ⟨rfl, rfl⟩
  go_wp2_with fail
  refine (unhide w3 _).mono ?_
  rintro ex w12 ⟨rfl, rfl⟩
  go_wp2
  go_ret
  exact ⟨rfl, ((Chg.refl _ _).drewN _)⟩
end Go.Proofs.Qxb6500365a
