/-
  THE REAL BENCH: Get, Same, Add, Sub, Mul. (gen2ops.py)
-/
import Derived.Test.Qxb6500362aSmall
namespace Go.Proofs.Qxb6500362a
open Go.RowKit Go.Qx
set_option linter.unusedVariables false
set_option linter.unusedSimpArgs false

def getP (re im : Nat → Int) (i : Int) : Int × Int × Int := if cellsP i i = true then (re i.toNat, im i.toNat, 0) else (0, 0, 1)

theorem tdiv4 (n : Int) : (n * 4).tdiv 4 = n := by rw [Int.mul_tdiv_cancel]; decide

theorem parts_whole (w : World) (a b : Nat) (n m : Int) (ha : W64 a n) (hb : W64 b m) (hn : n.natAbs ≤ 9007199254740992) (hm : m.natAbs ≤ 9007199254740992) : Calls Try.prog 44 #[.complex .f64 a b] w fun e w' => e = .returned (.tuple #[.int .i64 n, .int .i64 m]) ∧ w' = w := by
  have h := parts_any w a b (n * 4) (m * 4) (Q64.of_whole ha) (Q64.of_whole hb) (by rw [tdiv4]; omega) (by rw [tdiv4]; omega)
  rw [tdiv4, tdiv4] at h
  exact h

theorem get_any (w : World) (x v : Nat) (re im : Nat → Int) (R : Rep w x v re im) (I : Inv re im) (i : Int) : Calls Try.prog 21 #[ptr x, .int .i64 i] w fun e w' => e = .returned (.tuple #[.int .i64 (getP re im i).1, .int .i64 (getP re im i).2.1, .int .i64 (getP re im i).2.2]) ∧ w' = w := by
  have hc := cells_any w i i
  rcases cells_cases i i with ⟨k, k', rfl, hk', hk, _, e0⟩ | e0
  · have e1 : Hid (getP re im k = (re k, im k, 0)) := by show _ = _; simp [getP, e0]
    rw [e0] at hc
    rw [unhide e1]
    obtain ⟨aa, bb, rowB, hrow⟩ := R.row
    have c0 := R.blk.cell 0
    simp at c0
    have cr := (rowB.cell k).trans (rowC_get aa bb k hk)
    have i0 : (0 : Int) ≤ (k : Int) := by omega
    have i1 : (k : Int) < 4 := by omega
    have q1 := I.r k hk
    have q2 := I.m k hk
    have hp := hide (parts_whole w _ _ _ _ (hrow k hk).1 (hrow k hk).2 (by omega) (by omega))
    generalize re k = rk at *
    generalize im k = ik at *
    unfold ptr
    clear e1 e0 hk' R I rowB hrow
    go_enter Try.func21, Try.ntmps21
    go_wp2_with fail
    refine hc.mono ?_
    rintro e w' ⟨rfl, rfl⟩
    go_wp2_with fail
    refine (unhide hp).mono ?_
    rintro e w' ⟨rfl, rfl⟩
    go_wp2
    go_ret3
    exact ⟨rfl, rfl⟩
  · have e1 : Hid (getP re im i = (0, 0, 1)) := by show _ = _; simp [getP, e0]
    rw [e0] at hc
    rw [unhide e1]
    unfold ptr
    clear e1 e0 R I
    go_enter Try.func21, Try.ntmps21
    go_wp2_with fail
    refine hc.mono ?_
    rintro e w' ⟨rfl, rfl⟩
    go_wp2
    go_ret3
    exact ⟨rfl, rfl⟩

def sameP (re im : Nat → Int) (i j : Int) : Int × Int := if cellsP i j = true then (if re i.toNat = re j.toNat ∧ im i.toNat = im j.toNat then 1 else 0, 0) else (0, 1)

set_option maxHeartbeats 1000000 in
theorem same_any (w : World) (x v : Nat) (re im : Nat → Int) (R : Rep w x v re im) (i j : Int) : Calls Try.prog 31 #[ptr x, .int .i64 i, .int .i64 j] w fun e w' => e = .returned (.tuple #[.int .i64 (sameP re im i j).1, .int .i64 (sameP re im i j).2]) ∧ Quiet w w' := by
  have hc := cells_any w i j
  rcases cells_cases i j with ⟨k, l, rfl, rfl, hk, hl, e0⟩ | e0
  · have e1 : Hid (sameP re im k l = (if re k = re l ∧ im k = im l then 1 else 0, 0)) := by show _ = _; simp [sameP, e0]
    rw [e0] at hc
    rw [unhide e1]
    obtain ⟨aa, bb, rowB, hrow⟩ := R.row
    have c0 := R.blk.cell 0
    simp at c0
    have cr := (rowB.cell k).trans (rowC_get aa bb k hk)
    have cr2 := (rowB.cell l).trans (rowC_get aa bb l hl)
    have i0 : (0 : Int) ≤ (k : Int) := by omega
    have i1 : (k : Int) < 4 := by omega
    have j0 : (0 : Int) ≤ (l : Int) := by omega
    have j1 : (l : Int) < 4 := by omega
    have heq := ceq_whole (Q64.of_whole (hrow k hk).1) (Q64.of_whole (hrow k hk).2) (Q64.of_whole (hrow l hl).1) (Q64.of_whole (hrow l hl).2) Try.prog 66
    have hdec : decide (re k * 4 = re l * 4 ∧ im k * 4 = im l * 4) = decide (re k = re l ∧ im k = im l) := by
      rw [Bool.eq_iff_iff]; simp; omega
    rw [hdec] at heq
    unfold ptr
    clear e1 e0 R rowB hrow hdec
    by_cases hs : re k = re l ∧ im k = im l
    · rw [if_pos hs]
      rw [decide_eq_true hs] at heq
      clear hs
      go_enter Try.func31, Try.ntmps31
      go_wp2_with fail
      refine hc.mono ?_
      rintro e w' ⟨rfl, rfl⟩
      go_wp2
      go_region_held3 (fun W => W.cell? ⟨x, 0, none⟩ = some (.slice (some ⟨v, 0, none⟩) 4 4) ∧ W.cell? ⟨v, k, none⟩ = some (.complex .f64 (aa k) (bb k)) ∧ W.cell? ⟨v, l, none⟩ = some (.complex .f64 (aa l) (bb l))) (go_keep) (fail)
      go_wp2
      go_ret2
      exact ⟨rfl, (Chg.refl _ _).drew⟩
    · rw [if_neg hs]
      rw [decide_eq_false hs] at heq
      clear hs
      go_enter Try.func31, Try.ntmps31
      go_wp2_with fail
      refine hc.mono ?_
      rintro e w' ⟨rfl, rfl⟩
      go_wp2
      go_region_held3 (fun W => W.cell? ⟨x, 0, none⟩ = some (.slice (some ⟨v, 0, none⟩) 4 4) ∧ W.cell? ⟨v, k, none⟩ = some (.complex .f64 (aa k) (bb k)) ∧ W.cell? ⟨v, l, none⟩ = some (.complex .f64 (aa l) (bb l))) (go_keep) (fail)
      go_wp2
      go_ret2
      exact ⟨rfl, (Chg.refl _ _).drew⟩
  · have e1 : Hid (sameP re im i j = (0, 1)) := by show _ = _; simp [sameP, e0]
    rw [e0] at hc
    rw [unhide e1]
    unfold ptr
    clear e1 e0 R
    go_enter Try.func31, Try.ntmps31
    go_wp2_with fail
    refine hc.mono ?_
    rintro e w' ⟨rfl, rfl⟩
    go_wp2
    go_ret2
    exact ⟨rfl, Chg.refl _ _⟩

def addE (re im : Nat → Int) (i j : Int) : Int := if cellsP i j = true then putE (re i.toNat + re j.toNat) (im i.toNat + im j.toNat) else 1
def addR (re im : Nat → Int) (i j : Int) : Nat → Int := if cellsP i j = true then putF re i.toNat (re i.toNat + re j.toNat) (im i.toNat + im j.toNat) (re i.toNat + re j.toNat) else re
def addI (re im : Nat → Int) (i j : Int) : Nat → Int := if cellsP i j = true then putF im i.toNat (re i.toNat + re j.toNat) (im i.toNat + im j.toNat) (im i.toNat + im j.toNat) else im

set_option maxHeartbeats 1000000 in
theorem add_any (w : World) (x v : Nat) (re im : Nat → Int) (R : Rep w x v re im) (I : Inv re im) (i j : Int) : Calls Try.prog 22 #[ptr x, .int .i64 i, .int .i64 j] w (repPost w x v (addE re im i j) (addR re im i j) (addI re im i j)) := by
  have hc := cells_any w i j
  rcases cells_cases i j with ⟨k, l, rfl, rfl, hk, hl, e0⟩ | e0
  · have e1 : Hid (addE re im k l = putE (re k + re l) (im k + im l)) := by show _ = _; simp [addE, e0]
    have e2 : Hid (addR re im k l = putF re k (re k + re l) (im k + im l) (re k + re l)) := by show _ = _; simp [addR, e0]
    have e3 : Hid (addI re im k l = putF im k (re k + re l) (im k + im l) (im k + im l)) := by show _ = _; simp [addI, e0]
    rw [e0] at hc
    rw [unhide e1, unhide e2, unhide e3]
    obtain ⟨aa, bb, rowB, hrow⟩ := R.row
    have c0 := R.blk.cell 0
    simp at c0
    have cr := (rowB.cell k).trans (rowC_get aa bb k hk)
    have cr2 := (rowB.cell l).trans (rowC_get aa bb l hl)
    have i0 : (0 : Int) ≤ (k : Int) := by omega
    have i1 : (k : Int) < 4 := by omega
    have j0 : (0 : Int) ≤ (l : Int) := by omega
    have j1 : (l : Int) < 4 := by omega
    have q1 := I.r k hk
    have q2 := I.m k hk
    have s1 := I.r l hl
    have s2 := I.m l hl
    obtain ⟨p, q, hop, wp, wq⟩ := cadd_whole (hrow k hk).1 (hrow k hk).2 (hrow l hl).1 (hrow l hl).2 (by omega) (by omega)
    have hop' := hop Try.prog 66
    have hput := hide (put_any w.drew x v re im (R.quiet ((Chg.refl _ _).drew)) k hk p q _ _ wp wq)
    unfold repPost at hput ⊢
    unfold ptr at hput ⊢
    generalize re k + re l = NN at *
    generalize im k + im l = MM at *
    clear e1 e2 e3 e0 rowB hrow hop q1 q2 s1 s2 wp wq R I
    go_enter Try.func22, Try.ntmps22
    go_wp2_with fail
    refine hc.mono ?_
    rintro e w' ⟨rfl, rfl⟩
    go_wp2
    have hput' := unhide hput
    go_region_with (go_at_call 48; (with_reducible refine hput'.mono ?_); rintro e w2 ⟨rfl, ch2, R2⟩)
    all_goals
      go_wp2
      go_ret
      exact ⟨rfl, Chg.trans ((Chg.refl (own x v) w').drew) ch2, R2⟩
  · have e1 : Hid (addE re im i j = 1) := by show _ = _; simp [addE, e0]
    have e2 : Hid (addR re im i j = re) := by show _ = _; simp [addR, e0]
    have e3 : Hid (addI re im i j = im) := by show _ = _; simp [addI, e0]
    rw [e0] at hc
    rw [unhide e1, unhide e2, unhide e3]
    have RH := hide R
    unfold repPost ptr
    clear e1 e2 e3 e0 R I
    go_enter Try.func22, Try.ntmps22
    go_wp2_with fail
    refine hc.mono ?_
    rintro e w' ⟨rfl, rfl⟩
    go_wp2
    go_ret
    exact ⟨rfl, Chg.refl _ _, unhide RH⟩

def subE (re im : Nat → Int) (i j : Int) : Int := if cellsP i j = true then putE (re i.toNat - re j.toNat) (im i.toNat - im j.toNat) else 1
def subR (re im : Nat → Int) (i j : Int) : Nat → Int := if cellsP i j = true then putF re i.toNat (re i.toNat - re j.toNat) (im i.toNat - im j.toNat) (re i.toNat - re j.toNat) else re
def subI (re im : Nat → Int) (i j : Int) : Nat → Int := if cellsP i j = true then putF im i.toNat (re i.toNat - re j.toNat) (im i.toNat - im j.toNat) (im i.toNat - im j.toNat) else im

set_option maxHeartbeats 1000000 in
theorem sub_any (w : World) (x v : Nat) (re im : Nat → Int) (R : Rep w x v re im) (I : Inv re im) (i j : Int) : Calls Try.prog 23 #[ptr x, .int .i64 i, .int .i64 j] w (repPost w x v (subE re im i j) (subR re im i j) (subI re im i j)) := by
  have hc := cells_any w i j
  rcases cells_cases i j with ⟨k, l, rfl, rfl, hk, hl, e0⟩ | e0
  · have e1 : Hid (subE re im k l = putE (re k - re l) (im k - im l)) := by show _ = _; simp [subE, e0]
    have e2 : Hid (subR re im k l = putF re k (re k - re l) (im k - im l) (re k - re l)) := by show _ = _; simp [subR, e0]
    have e3 : Hid (subI re im k l = putF im k (re k - re l) (im k - im l) (im k - im l)) := by show _ = _; simp [subI, e0]
    rw [e0] at hc
    rw [unhide e1, unhide e2, unhide e3]
    obtain ⟨aa, bb, rowB, hrow⟩ := R.row
    have c0 := R.blk.cell 0
    simp at c0
    have cr := (rowB.cell k).trans (rowC_get aa bb k hk)
    have cr2 := (rowB.cell l).trans (rowC_get aa bb l hl)
    have i0 : (0 : Int) ≤ (k : Int) := by omega
    have i1 : (k : Int) < 4 := by omega
    have j0 : (0 : Int) ≤ (l : Int) := by omega
    have j1 : (l : Int) < 4 := by omega
    have q1 := I.r k hk
    have q2 := I.m k hk
    have s1 := I.r l hl
    have s2 := I.m l hl
    obtain ⟨p, q, hop, wp, wq⟩ := csub_whole (hrow k hk).1 (hrow k hk).2 (hrow l hl).1 (hrow l hl).2 (by omega) (by omega)
    have hop' := hop Try.prog 66
    have hput := hide (put_any w.drew x v re im (R.quiet ((Chg.refl _ _).drew)) k hk p q _ _ wp wq)
    unfold repPost at hput ⊢
    unfold ptr at hput ⊢
    generalize re k - re l = NN at *
    generalize im k - im l = MM at *
    clear e1 e2 e3 e0 rowB hrow hop q1 q2 s1 s2 wp wq R I
    go_enter Try.func23, Try.ntmps23
    go_wp2_with fail
    refine hc.mono ?_
    rintro e w' ⟨rfl, rfl⟩
    go_wp2
    have hput' := unhide hput
    go_region_with (go_at_call 48; (with_reducible refine hput'.mono ?_); rintro e w2 ⟨rfl, ch2, R2⟩)
    all_goals
      go_wp2
      go_ret
      exact ⟨rfl, Chg.trans ((Chg.refl (own x v) w').drew) ch2, R2⟩
  · have e1 : Hid (subE re im i j = 1) := by show _ = _; simp [subE, e0]
    have e2 : Hid (subR re im i j = re) := by show _ = _; simp [subR, e0]
    have e3 : Hid (subI re im i j = im) := by show _ = _; simp [subI, e0]
    rw [e0] at hc
    rw [unhide e1, unhide e2, unhide e3]
    have RH := hide R
    unfold repPost ptr
    clear e1 e2 e3 e0 R I
    go_enter Try.func23, Try.ntmps23
    go_wp2_with fail
    refine hc.mono ?_
    rintro e w' ⟨rfl, rfl⟩
    go_wp2
    go_ret
    exact ⟨rfl, Chg.refl _ _, unhide RH⟩

def mulE (re im : Nat → Int) (i j : Int) : Int := if cellsP i j = true then putE (re i.toNat * re j.toNat - im i.toNat * im j.toNat) (re i.toNat * im j.toNat + im i.toNat * re j.toNat) else 1
def mulR (re im : Nat → Int) (i j : Int) : Nat → Int := if cellsP i j = true then putF re i.toNat (re i.toNat * re j.toNat - im i.toNat * im j.toNat) (re i.toNat * im j.toNat + im i.toNat * re j.toNat) (re i.toNat * re j.toNat - im i.toNat * im j.toNat) else re
def mulI (re im : Nat → Int) (i j : Int) : Nat → Int := if cellsP i j = true then putF im i.toNat (re i.toNat * re j.toNat - im i.toNat * im j.toNat) (re i.toNat * im j.toNat + im i.toNat * re j.toNat) (re i.toNat * im j.toNat + im i.toNat * re j.toNat) else im

theorem mul_bound {a b : Int} (ha : -67108864 ≤ a ∧ a ≤ 67108864) (hb : -67108864 ≤ b ∧ b ≤ 67108864) : (a * b).natAbs ≤ 4503599627370496 := by
  rw [Int.natAbs_mul]
  have h1 : a.natAbs ≤ 67108864 := by omega
  have h2 : b.natAbs ≤ 67108864 := by omega
  exact Nat.mul_le_mul h1 h2

set_option maxHeartbeats 1000000 in
theorem mul_any (w : World) (x v : Nat) (re im : Nat → Int) (R : Rep w x v re im) (I : Inv re im) (i j : Int) : Calls Try.prog 24 #[ptr x, .int .i64 i, .int .i64 j] w (repPost w x v (mulE re im i j) (mulR re im i j) (mulI re im i j)) := by
  have hc := cells_any w i j
  rcases cells_cases i j with ⟨k, l, rfl, rfl, hk, hl, e0⟩ | e0
  · have e1 : Hid (mulE re im k l = putE (re k * re l - im k * im l) (re k * im l + im k * re l)) := by show _ = _; simp [mulE, e0]
    have e2 : Hid (mulR re im k l = putF re k (re k * re l - im k * im l) (re k * im l + im k * re l) (re k * re l - im k * im l)) := by show _ = _; simp [mulR, e0]
    have e3 : Hid (mulI re im k l = putF im k (re k * re l - im k * im l) (re k * im l + im k * re l) (re k * im l + im k * re l)) := by show _ = _; simp [mulI, e0]
    rw [e0] at hc
    rw [unhide e1, unhide e2, unhide e3]
    obtain ⟨aa, bb, rowB, hrow⟩ := R.row
    have c0 := R.blk.cell 0
    simp at c0
    have cr := (rowB.cell k).trans (rowC_get aa bb k hk)
    have cr2 := (rowB.cell l).trans (rowC_get aa bb l hl)
    have i0 : (0 : Int) ≤ (k : Int) := by omega
    have i1 : (k : Int) < 4 := by omega
    have j0 : (0 : Int) ≤ (l : Int) := by omega
    have j1 : (l : Int) < 4 := by omega
    have q1 := I.r k hk
    have q2 := I.m k hk
    have s1 := I.r l hl
    have s2 := I.m l hl
    have p1 := mul_bound q1 s1
    have p2 := mul_bound q2 s2
    have p3 := mul_bound q1 s2
    have p4 := mul_bound q2 s1
    obtain ⟨p, q, hop, wp, wq⟩ := cmul_whole (hrow k hk).1 (hrow k hk).2 (hrow l hl).1 (hrow l hl).2 (by omega) (by omega) (by omega) (by omega) (by omega) (by omega)
    have hop' := hop Try.prog 66
    have hput := hide (put_any w.drew x v re im (R.quiet ((Chg.refl _ _).drew)) k hk p q _ _ wp wq)
    unfold repPost at hput ⊢
    unfold ptr at hput ⊢
    generalize re k * re l - im k * im l = NN at *
    generalize re k * im l + im k * re l = MM at *
    clear e1 e2 e3 e0 rowB hrow hop q1 q2 s1 s2 wp wq R I
    go_enter Try.func24, Try.ntmps24
    go_wp2_with fail
    refine hc.mono ?_
    rintro e w' ⟨rfl, rfl⟩
    go_wp2
    have hput' := unhide hput
    go_region_with (go_at_call 48; (with_reducible refine hput'.mono ?_); rintro e w2 ⟨rfl, ch2, R2⟩)
    all_goals
      go_wp2
      go_ret
      exact ⟨rfl, Chg.trans ((Chg.refl (own x v) w').drew) ch2, R2⟩
  · have e1 : Hid (mulE re im i j = 1) := by show _ = _; simp [mulE, e0]
    have e2 : Hid (mulR re im i j = re) := by show _ = _; simp [mulR, e0]
    have e3 : Hid (mulI re im i j = im) := by show _ = _; simp [mulI, e0]
    rw [e0] at hc
    rw [unhide e1, unhide e2, unhide e3]
    have RH := hide R
    unfold repPost ptr
    clear e1 e2 e3 e0 R I
    go_enter Try.func24, Try.ntmps24
    go_wp2_with fail
    refine hc.mono ?_
    rintro e w' ⟨rfl, rfl⟩
    go_wp2
    go_ret
    exact ⟨rfl, Chg.refl _ _, unhide RH⟩
end Go.Proofs.Qxb6500362a
