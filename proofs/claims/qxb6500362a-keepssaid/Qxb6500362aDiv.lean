/-
  THE REAL BENCH: Div.
-/
import Derived.Test.Qxb6500362aSmall
namespace Go.Proofs.Qxb6500362a
open Go.RowKit Go.Qx
set_option linter.unusedVariables false
set_option linter.unusedSimpArgs false

/-- The six divisors. -/
def divP (n m : Int) : Bool := decide ((m = 0 ∧ (n = 1 ∨ n = -1 ∨ n = 2 ∨ n = 4)) ∨ (n = 0 ∧ (m = 1 ∨ m = -1)))

/-- The quotient's parts, in quarters. -/
def quoR (a b n m : Int) : Int := if m = 0 then (if n = 1 then a * 4 else if n = -1 then -a * 4 else if n = 2 then a * 2 else a) else (if m = 1 then b * 4 else -b * 4)
def quoI (a b n m : Int) : Int := if m = 0 then (if n = 1 then b * 4 else if n = -1 then -b * 4 else if n = 2 then b * 2 else b) else (if m = 1 then -a * 4 else a * 4)

def divE (re im : Nat → Int) (i n m : Int) : Int := if cellsP i i = true then (if divP n m = true then (if wholeP (quoR (re i.toNat) (im i.toNat) n m) (quoI (re i.toNat) (im i.toNat) n m) = true then 0 else 4) else 3) else 1
def divR (re im : Nat → Int) (i n m : Int) : Nat → Int := if divE re im i n m = 0 then upd re i.toNat ((quoR (re i.toNat) (im i.toNat) n m).tdiv 4) else re
def divI (re im : Nat → Int) (i n m : Int) : Nat → Int := if divE re im i n m = 0 then upd im i.toNat ((quoI (re i.toNat) (im i.toNat) n m).tdiv 4) else im

/-- A quotient by one of the six. -/
theorem quo_six {a b c d : Nat} {n m : Int} {k l : Int} (ha : W64 a k) (hb : W64 b l) (hc : W64 c n) (hd : W64 d m) (h6 : divP n m = true) (h1 : k.natAbs ≤ 67108864) (h2 : l.natAbs ≤ 67108864) :
    ∃ e f, (∀ (W : World), (binOp .quo 66 (.complex .f64 a b) (.complex .f64 c d)).run Try.prog W = .ok (.complex .f64 e f) W) ∧ Q64 e (quoR k l n m) ∧ Q64 f (quoI k l n m) := by
  simp only [divP, decide_eq_true_eq] at h6
  rcases h6 with ⟨rfl, rfl | rfl | rfl | rfl⟩ | ⟨rfl, rfl | rfl⟩
  · obtain ⟨e, f, h, q1, q2⟩ := cquo_re (t := false) (k := 0) (by decide) ha hb hc hd (by omega) (by omega)
    exact ⟨e, f, h Try.prog 66, by simpa [quoR, sg] using q1, by simpa [quoI, sg] using q2⟩
  · obtain ⟨e, f, h, q1, q2⟩ := cquo_re (t := true) (k := 0) (by decide) ha hb hc hd (by omega) (by omega)
    exact ⟨e, f, h Try.prog 66, by simpa [quoR, sg] using q1, by simpa [quoI, sg] using q2⟩
  · obtain ⟨e, f, h, q1, q2⟩ := cquo_re (t := false) (k := 1) (by decide) ha hb hc hd (by omega) (by omega)
    exact ⟨e, f, h Try.prog 66, by simpa [quoR, sg] using q1, by simpa [quoI, sg] using q2⟩
  · obtain ⟨e, f, h, q1, q2⟩ := cquo_re (t := false) (k := 2) (by decide) ha hb hc hd (by omega) (by omega)
    exact ⟨e, f, h Try.prog 66, by simpa [quoR, sg] using q1, by simpa [quoI, sg] using q2⟩
  · obtain ⟨e, f, h, q1, q2⟩ := cquo_im (t := false) ha hb hc hd (by omega) (by omega)
    exact ⟨e, f, h Try.prog 66, by simpa [quoR, sg] using q1, by simpa [quoI, sg] using q2⟩
  · obtain ⟨e, f, h, q1, q2⟩ := cquo_im (t := true) ha hb hc hd (by omega) (by omega)
    exact ⟨e, f, h Try.prog 66, by simpa [quoR, sg] using q1, by simpa [quoI, sg] using q2⟩

theorem quo_bound {k l n m : Int} (h1 : k.natAbs ≤ 67108864) (h2 : l.natAbs ≤ 67108864) : (quoR k l n m).natAbs ≤ 268435456 ∧ (quoI k l n m).natAbs ≤ 268435456 := by
  unfold quoR quoI
  constructor
  · repeat' split
    all_goals omega
  · repeat' split
    all_goals omega

theorem tdiv4_abs (n : Int) : (n.tdiv 4).natAbs ≤ n.natAbs := by rw [Int.natAbs_tdiv]; exact Nat.div_le_self _ _

theorem six_of {z1 z2 : Nat} {n m : Int} (h1 : W64 z1 n) (h2 : W64 z2 m) (c1 c2 : Nat) (k l : Int) (g1 : W64 c1 k) (g2 : W64 c2 l) (W : World) : (binOp .eql 66 (.complex .f64 z1 z2) (.complex .f64 c1 c2)).run Try.prog W = .ok (.bool (decide (n = k ∧ m = l))) W := by
  have h := ceq_whole (Q64.of_whole h1) (Q64.of_whole h2) (Q64.of_whole g1) (Q64.of_whole g2) Try.prog 66 W
  rw [h]
  congr 2
  rw [Bool.eq_iff_iff]; simp; omega

theorem fits4 (n m : Int) (h : inP n m 4 = false) : divP n m = false := by
  simp only [inP, divP, decide_eq_false_iff_not] at *
  omega

theorem whole4 (n m : Int) (h : wholeP n m = true) : n = n.tdiv 4 * 4 ∧ m = m.tdiv 4 * 4 := by
  simpa [wholeP] using h

set_option maxRecDepth 100000 in
set_option maxHeartbeats 2000000 in
theorem div_any (w : World) (x v : Nat) (re im : Nat → Int) (R : Rep w x v re im) (I : Inv re im) (i n m : Int) : Calls Try.prog 28 #[ptr x, .int .i64 i, .int .i64 n, .int .i64 m] w (repPost w x v (divE re im i n m) (divR re im i n m) (divI re im i n m)) := by
  have hc := cells_any w i i
  have RH := hide R
  rcases cells_cases i i with ⟨k, k', rfl, hk', hk, _, e0⟩ | e0
  · rw [e0] at hc
    have hf := fits_any w n m 4 (by omega)
    by_cases hfit : inP n m 4 = true
    · rw [hfit] at hf
      have hfit' := hfit
      simp only [inP, decide_eq_true_eq] at hfit'
      have z1 := w64_of n (by omega)
      have z2 := w64_of m (by omega)
      have hwh := whole_any w n m
      have s1 := six_of z1 z2 _ _ _ _ w_1 w_0
      have s2 := six_of z1 z2 _ _ _ _ w_m1 w_0
      have s3 := six_of z1 z2 _ _ _ _ w_0 w_1
      have s4 := six_of z1 z2 _ _ _ _ w_0 w_m1
      have s5 := six_of z1 z2 _ _ _ _ w_2 w_0
      have s6 := six_of z1 z2 _ _ _ _ w_4 w_0
      by_cases h6 : divP n m = true
      · obtain ⟨aa, bb, rowB, hrow⟩ := R.row
        have c0 := R.blk.cell 0
        simp at c0
        have cr := (rowB.cell k).trans (rowC_get aa bb k hk)
        have fr := rowB.frozen k
        have i0 : (0 : Int) ≤ (k : Int) := by omega
        have i1 : (k : Int) < 4 := by omega
        have q1 := I.r k hk
        have q2 := I.m k hk
        obtain ⟨e, f, hq, w1, w2⟩ := quo_six (hrow k hk).1 (hrow k hk).2 z1 z2 h6 (by omega) (by omega)
        obtain ⟨bq1, bq2⟩ := quo_bound (k := re k) (l := im k) (n := n) (m := m) (by omega) (by omega)
        have bt1 := tdiv4_abs (quoR (re k) (im k) n m)
        have bt2 := tdiv4_abs (quoI (re k) (im k) n m)
        have hint := hide (integral_any w e f _ _ w1 w2 (by omega) (by omega) (by omega) (by omega))
        clear bt1 bt2
        have eE : Hid (divE re im k n m = if wholeP (quoR (re k) (im k) n m) (quoI (re k) (im k) n m) = true then 0 else 4) := by show _ = _; simp [divE, e0, h6]
        have fin : Hid (wholeP (quoR (re k) (im k) n m) (quoI (re k) (im k) n m) = true → Chg (own x v) w (w.setCell ⟨v, k, none⟩ (.complex .f64 e f)) ∧ Rep (w.setCell ⟨v, k, none⟩ (.complex .f64 e f)) x v (divR re im k n m) (divI re im k n m)) := by
          intro hw
          obtain ⟨v1, v2⟩ := whole4 _ _ hw
          have hE : divE re im k n m = 0 := by rw [unhide eE, if_pos hw]
          refine ⟨(Chg.refl (own x v) w).setCell (p := ⟨v, k, none⟩) (.inl (.inr rfl)) _, ?_⟩
          have h3 := R.set k hk e f _ _ (Q64.whole (v1 ▸ w1)) (Q64.whole (v2 ▸ w2))
          simp only [divR, divI, hE, if_true, Int.toNat_natCast]
          exact h3
        have fin2 : Hid (wholeP (quoR (re k) (im k) n m) (quoI (re k) (im k) n m) = false → divR re im k n m = re ∧ divI re im k n m = im) := by
          intro hw
          have hE : divE re im k n m = 4 := by rw [unhide eE, hw]; rfl
          simp [divR, divI, hE]
        rw [unhide eE]
        unfold repPost ptr
        generalize wholeP (quoR (re k) (im k) n m) (quoI (re k) (im k) n m) = B at *
        generalize FloatKind.f64.nearest n = y1 at *
        generalize FloatKind.f64.nearest m = y2 at *
        have h6' : ∃ t1 t2 t3 t4 t5 t6 : Bool, decide (n = 1 ∧ m = 0) = t1 ∧ decide (n = -1 ∧ m = 0) = t2 ∧ decide (n = 0 ∧ m = 1) = t3 ∧ decide (n = 0 ∧ m = -1) = t4 ∧ decide (n = 2 ∧ m = 0) = t5 ∧ decide (n = 4 ∧ m = 0) = t6 ∧ (t1 = true ∨ (t1 = false ∧ t2 = true) ∨ (t1 = false ∧ t2 = false ∧ t3 = true) ∨ (t1 = false ∧ t2 = false ∧ t3 = false ∧ t4 = true) ∨ (t1 = false ∧ t2 = false ∧ t3 = false ∧ t4 = false ∧ t5 = true) ∨ (t1 = false ∧ t2 = false ∧ t3 = false ∧ t4 = false ∧ t5 = false ∧ t6 = true)) := by
          refine ⟨_, _, _, _, _, _, rfl, rfl, rfl, rfl, rfl, rfl, ?_⟩
          simp only [divP, decide_eq_true_eq] at h6
          simp only [decide_eq_true_eq, decide_eq_false_iff_not]
          omega
        obtain ⟨t1, t2, t3, t4, t5, t6, d1, d2, d3, d4, d5, d6, hcase⟩ := h6'
        rw [d1] at s1
        rw [d2] at s2
        rw [d3] at s3
        rw [d4] at s4
        rw [d5] at s5
        rw [d6] at s6
        clear d1 d2 d3 d4 d5 d6 h6 hfit hfit' z1 z2 R I rowB hrow q1 q2 w1 w2 bq1 bq2 eE e0 hk'
        cases B with
        | true =>
          rw [if_pos rfl]
          rcases hcase with rfl | ⟨rfl, rfl⟩ | ⟨rfl, rfl, rfl⟩ | ⟨rfl, rfl, rfl, rfl⟩ | ⟨rfl, rfl, rfl, rfl, rfl⟩ | ⟨rfl, rfl, rfl, rfl, rfl, rfl⟩
          all_goals
            go_enter Try.func28, Try.ntmps28
            go_wp2_with fail
            refine hc.mono ?_
            rintro e w' ⟨rfl, rfl⟩
            go_wp2_with fail
            refine hf.mono ?_
            rintro e w' ⟨rfl, rfl⟩
            go_wp2_with fail
            refine hwh.mono ?_
            rintro e w' ⟨rfl, rfl⟩
            go_wp2_with fail
            refine (unhide hint).mono ?_
            rintro e w' ⟨rfl, rfl⟩
            go_wp2
            go_ret
            exact ⟨rfl, (unhide fin (by trivial)).1, (unhide fin (by trivial)).2⟩
        | false =>
          rw [if_neg (by simp)]
          rw [(unhide fin2 rfl).1, (unhide fin2 rfl).2]
          rcases hcase with rfl | ⟨rfl, rfl⟩ | ⟨rfl, rfl, rfl⟩ | ⟨rfl, rfl, rfl, rfl⟩ | ⟨rfl, rfl, rfl, rfl, rfl⟩ | ⟨rfl, rfl, rfl, rfl, rfl, rfl⟩
          all_goals
            go_enter Try.func28, Try.ntmps28
            go_wp2_with fail
            refine hc.mono ?_
            rintro e w' ⟨rfl, rfl⟩
            go_wp2_with fail
            refine hf.mono ?_
            rintro e w' ⟨rfl, rfl⟩
            go_wp2_with fail
            refine hwh.mono ?_
            rintro e w' ⟨rfl, rfl⟩
            go_wp2_with fail
            refine (unhide hint).mono ?_
            rintro e w' ⟨rfl, rfl⟩
            go_wp2
            go_ret
            exact ⟨rfl, Chg.refl _ _, unhide RH⟩
      · have h6f : divP n m = false := by simpa using h6
        have eE : Hid (divE re im k n m = 3) := by show _ = _; simp [divE, e0, h6f]
        have e2 : Hid (divR re im k n m = re) := by show _ = _; simp [divR, unhide eE]
        have e3 : Hid (divI re im k n m = im) := by show _ = _; simp [divI, unhide eE]
        rw [unhide eE, unhide e2, unhide e3]
        simp only [divP, decide_eq_false_iff_not] at h6f
        have d1 : decide (n = 1 ∧ m = 0) = false := decide_eq_false (by omega)
        have d2 : decide (n = -1 ∧ m = 0) = false := decide_eq_false (by omega)
        have d3 : decide (n = 0 ∧ m = 1) = false := decide_eq_false (by omega)
        have d4 : decide (n = 0 ∧ m = -1) = false := decide_eq_false (by omega)
        have d5 : decide (n = 2 ∧ m = 0) = false := decide_eq_false (by omega)
        have d6 : decide (n = 4 ∧ m = 0) = false := decide_eq_false (by omega)
        rw [d1] at s1
        rw [d2] at s2
        rw [d3] at s3
        rw [d4] at s4
        rw [d5] at s5
        rw [d6] at s6
        unfold repPost ptr
        generalize FloatKind.f64.nearest n = y1 at *
        generalize FloatKind.f64.nearest m = y2 at *
        clear d1 d2 d3 d4 d5 d6 h6 h6f hfit hfit' z1 z2 R I eE e2 e3 e0 hk'
        go_enter Try.func28, Try.ntmps28
        go_wp2_with fail
        refine hc.mono ?_
        rintro e w' ⟨rfl, rfl⟩
        go_wp2_with fail
        refine hf.mono ?_
        rintro e w' ⟨rfl, rfl⟩
        go_wp2_with fail
        refine hwh.mono ?_
        rintro e w' ⟨rfl, rfl⟩
        go_wp2
        go_ret
        exact ⟨rfl, Chg.refl _ _, unhide RH⟩
    · have hff : inP n m 4 = false := by simpa using hfit
      have h6f := fits4 n m hff
      have eE : Hid (divE re im k n m = 3) := by show _ = _; simp [divE, e0, h6f]
      have e2 : Hid (divR re im k n m = re) := by show _ = _; simp [divR, unhide eE]
      have e3 : Hid (divI re im k n m = im) := by show _ = _; simp [divI, unhide eE]
      rw [unhide eE, unhide e2, unhide e3]
      rw [hff] at hf
      unfold repPost ptr
      clear hfit hff h6f R I eE e2 e3 e0 hk'
      go_enter Try.func28, Try.ntmps28
      go_wp2_with fail
      refine hc.mono ?_
      rintro e w' ⟨rfl, rfl⟩
      go_wp2_with fail
      refine hf.mono ?_
      rintro e w' ⟨rfl, rfl⟩
      go_wp2
      go_ret
      exact ⟨rfl, Chg.refl _ _, unhide RH⟩
  · have eE : Hid (divE re im i n m = 1) := by show _ = _; simp [divE, e0]
    have e2 : Hid (divR re im i n m = re) := by show _ = _; simp [divR, unhide eE]
    have e3 : Hid (divI re im i n m = im) := by show _ = _; simp [divI, unhide eE]
    rw [e0] at hc
    rw [unhide eE, unhide e2, unhide e3]
    unfold repPost ptr
    clear eE e2 e3 e0 R I
    go_enter Try.func28, Try.ntmps28
    go_wp2_with fail
    refine hc.mono ?_
    rintro e w' ⟨rfl, rfl⟩
    go_wp2
    go_ret
    exact ⟨rfl, Chg.refl _ _, unhide RH⟩
end Go.Proofs.Qxb6500362a
