/-
  THE REAL BENCH: Rot, Conj, Mul32.
-/
import Derived.Test.Qxb6500362aOps
namespace Go.Qx
open Ieee
/-- complex128 to complex64, of small whole numbers. -/
theorem cnarrow {a b : Nat} {n m : Int} (ha : W64 a n) (hb : W64 b m) (h1 : n.natAbs ≤ 16777216) (h2 : m.natAbs ≤ 16777216) (P : Program) (src dst : TypeId) (hs : (P.underlying src).isSome = true) (hd : P.underlying dst = some (.complex .f32)) :
    ∃ z y, (∀ W, (convert src dst (.complex .f64 a b)).run P W = .ok (.complex .f32 z y) W) ∧ W32 z n ∧ W32 y m := by
  obtain ⟨u, hs'⟩ := Option.isSome_iff_exists.1 hs
  obtain ⟨s, k, e, r1, v1⟩ := ha
  obtain ⟨t, l, f, r2, v2⟩ := hb
  have w1 : W32 (single.write (.number s k e)) n := write_whole good_single v1 (by rw [two_binades32]; exact h1)
  have w2 : W32 (single.write (.number t l f)) m := write_whole good_single v2 (by rw [two_binades32]; exact h2)
  refine ⟨_, _, ?_, w1, w2⟩
  intro W
  obtain ⟨z, hz, _⟩ := narrow_whole (P := P) ⟨s, k, e, r1, v1⟩ h1 W
  have q1 : (Conv.floatToFloat .f64 a .f32).run P W = .ok (.float .f32 (single.write (.number s k e))) W := by
    unfold Conv.floatToFloat
    rw [if_neg (by decide), show FloatKind.f64.decode a = .number s k e from r1]
    simp only
    rw [if_neg]
    · rfl
    · show ¬ (single.read (single.write (.number s k e))).isInfinity = true
      rw [w1.finite]; simp
  have q2 : (Conv.floatToFloat .f64 b .f32).run P W = .ok (.float .f32 (single.write (.number t l f))) W := by
    unfold Conv.floatToFloat
    rw [if_neg (by decide), show FloatKind.f64.decode b = .number t l f from r2]
    simp only
    rw [if_neg]
    · rfl
    · show ¬ (single.read (single.write (.number t l f))).isInfinity = true
      rw [w2.finite]; simp
  cases u <;> simp [convert, run_underlying hs', run_underlying hd, Conv.complexToComplex, q1, q2]

/-- complex64 to complex128, of whole numbers. -/
theorem cwiden {a b : Nat} {n m : Int} (ha : W32 a n) (hb : W32 b m) (h1 : n.natAbs ≤ 9007199254740992) (h2 : m.natAbs ≤ 9007199254740992) (P : Program) (src dst : TypeId) (hs : (P.underlying src).isSome = true) (hd : P.underlying dst = some (.complex .f64)) :
    ∃ z y, (∀ W, (convert src dst (.complex .f32 a b)).run P W = .ok (.complex .f64 z y) W) ∧ W64 z n ∧ W64 y m := by
  obtain ⟨u, hs'⟩ := Option.isSome_iff_exists.1 hs
  obtain ⟨s, k, e, r1, v1⟩ := ha
  obtain ⟨t, l, f, r2, v2⟩ := hb
  have w1 : W64 (double.write (.number s k e)) n := write_whole good_double v1 (by rw [two_binades]; exact h1)
  have w2 : W64 (double.write (.number t l f)) m := write_whole good_double v2 (by rw [two_binades]; exact h2)
  refine ⟨_, _, ?_, w1, w2⟩
  intro W
  have q1 : (Conv.floatToFloat .f32 a .f64).run P W = .ok (.float .f64 (double.write (.number s k e))) W := by
    unfold Conv.floatToFloat
    rw [if_neg (by decide), show FloatKind.f32.decode a = .number s k e from r1]
    simp only
    rw [if_neg]
    · rfl
    · show ¬ (double.read (double.write (.number s k e))).isInfinity = true
      rw [w1.finite]; simp
  have q2 : (Conv.floatToFloat .f32 b .f64).run P W = .ok (.float .f64 (double.write (.number t l f))) W := by
    unfold Conv.floatToFloat
    rw [if_neg (by decide), show FloatKind.f32.decode b = .number t l f from r2]
    simp only
    rw [if_neg]
    · rfl
    · show ¬ (double.read (double.write (.number t l f))).isInfinity = true
      rw [w2.finite]; simp
  cases u <;> simp [convert, run_underlying hs', run_underlying hd, Conv.complexToComplex, q1, q2]

theorem conv_up {x : Nat} {n : Int} (h : W32 x n) (hn : n.natAbs ≤ 9007199254740992) : ∃ z, W64 z n ∧ ∀ (P : Program) (W : World), (Op.Complex.conv .f32 x .f64).run P W = .ok z W := by
  obtain ⟨s, k, e, r1, v1⟩ := h
  have w1 : W64 (double.write (.number s k e)) n := write_whole good_double v1 (by rw [two_binades]; exact hn)
  refine ⟨_, w1, ?_⟩
  intro P W
  have q1 : (Conv.floatToFloat .f32 x .f64).run P W = .ok (.float .f64 (double.write (.number s k e))) W := by
    unfold Conv.floatToFloat
    rw [if_neg (by decide), show FloatKind.f32.decode x = .number s k e from r1]
    simp only
    rw [if_neg]
    · rfl
    · show ¬ (double.read (double.write (.number s k e))).isInfinity = true
      rw [w1.finite]; simp
  simp [Op.Complex.conv, q1]

theorem conv_down {x : Nat} {n : Int} (h : W64 x n) (hn : n.natAbs ≤ 16777216) : ∃ z, W32 z n ∧ ∀ (P : Program) (W : World), (Op.Complex.conv .f64 x .f32).run P W = .ok z W := by
  obtain ⟨s, k, e, r1, v1⟩ := h
  have w1 : W32 (single.write (.number s k e)) n := write_whole good_single v1 (by rw [two_binades32]; exact hn)
  refine ⟨_, w1, ?_⟩
  intro P W
  have q1 : (Conv.floatToFloat .f64 x .f32).run P W = .ok (.float .f32 (single.write (.number s k e))) W := by
    unfold Conv.floatToFloat
    rw [if_neg (by decide), show FloatKind.f64.decode x = .number s k e from r1]
    simp only
    rw [if_neg]
    · rfl
    · show ¬ (single.read (single.write (.number s k e))).isInfinity = true
      rw [w1.finite]; simp
  simp [Op.Complex.conv, q1]

/-- The narrow product. -/
theorem cmul32_whole {a b c d : Nat} {n m n' m' : Int} (ha : W32 a n) (hb : W32 b m) (hc : W32 c n') (hd : W32 d m')
    (k1 : n.natAbs ≤ 16777216) (k2 : m.natAbs ≤ 16777216) (k3 : n'.natAbs ≤ 16777216) (k4 : m'.natAbs ≤ 16777216)
    (h1 : (n * n').natAbs ≤ 9007199254740992) (h2 : (m * m').natAbs ≤ 9007199254740992) (h3 : (n * m').natAbs ≤ 9007199254740992) (h4 : (m * n').natAbs ≤ 9007199254740992)
    (h5 : (n * n' - m * m').natAbs ≤ 16777216) (h6 : (n * m' + m * n').natAbs ≤ 16777216) :
    ∃ e f, (∀ (P : Program) (t : TypeId) (W : World), (binOp .mul t (.complex .f32 a b) (.complex .f32 c d)).run P W = .ok (.complex .f32 e f) W) ∧ W32 e (n * n' - m * m') ∧ W32 f (n * m' + m * n') := by
  obtain ⟨a', wa, ca⟩ := conv_up ha (by omega)
  obtain ⟨b', wb, cb⟩ := conv_up hb (by omega)
  obtain ⟨c', wc, cc⟩ := conv_up hc (by omega)
  obtain ⟨d', wd, cd⟩ := conv_up hd (by omega)
  obtain ⟨x1, e1, w1⟩ := w64_mul wa wc h1
  obtain ⟨x2, e2, w2⟩ := w64_mul wb wd h2
  obtain ⟨x3, e3, w3⟩ := w64_mul wa wd h3
  obtain ⟨x4, e4, w4⟩ := w64_mul wb wc h4
  obtain ⟨e0, e5, w5⟩ := w64_sub w1 w2 (by omega)
  obtain ⟨f0, e6, w6⟩ := w64_add w3 w4 (by omega)
  obtain ⟨e, we, ce⟩ := conv_down w5 h5
  obtain ⟨f, wf, cf⟩ := conv_down w6 h6
  refine ⟨e, f, ?_, we, wf⟩
  intro P t W
  simp [binOp, Op.complexOp, ca, cb, cc, cd, ce, cf, Op.Complex.product, Op.Complex.mul, Op.Complex.sub, Op.Complex.add, run_carith W e1, run_carith W e2, run_carith W e3, run_carith W e4, run_carith W e5, run_carith W e6]
end Go.Qx
namespace Go.Proofs.Qxb6500362a
open Go.RowKit Go.Qx
set_option linter.unusedVariables false
set_option linter.unusedSimpArgs false

def conjE (i : Int) : Int := if cellsP i i = true then 0 else 1
def conjI (im : Nat → Int) (i : Int) : Nat → Int := if cellsP i i = true then upd im i.toNat (-(im i.toNat)) else im

theorem upd_same (f : Nat → Int) (i : Nat) : upd f i (f i) = f := by
  funext j; unfold upd; split
  · rename_i e; rw [e]
  · rfl

theorem conj_any (w : World) (x v : Nat) (re im : Nat → Int) (R : Rep w x v re im) (i : Int) : Calls Try.prog 27 #[ptr x, .int .i64 i] w (repPost w x v (conjE i) re (conjI im i)) := by
  have hc := cells_any w i i
  rcases cells_cases i i with ⟨k, k', rfl, hk', hk, _, e0⟩ | e0
  · have e1 : Hid (conjE k = 0) := by show _ = _; simp [conjE, e0]
    have e2 : Hid (conjI im k = upd im k (-(im k))) := by show _ = _; simp [conjI, e0]
    rw [e0] at hc
    rw [unhide e1, unhide e2]
    obtain ⟨aa, bb, rowB, hrow⟩ := R.row
    have c0 := R.blk.cell 0
    simp at c0
    have cr := (rowB.cell k).trans (rowC_get aa bb k hk)
    have fr := rowB.frozen k
    have i0 : (0 : Int) ≤ (k : Int) := by omega
    have i1 : (k : Int) < 4 := by omega
    have hun : ∀ W, (Op.unary .neg (.float .f64 (bb k))).run Try.prog W = .ok (.float .f64 (Op.negFloat .f64 (bb k))) W := fun W => rfl
    have fin : Hid (Chg (own x v) w (w.setCell ⟨v, k, none⟩ (.complex .f64 (aa k) (Op.negFloat .f64 (bb k)))) ∧ Rep (w.setCell ⟨v, k, none⟩ (.complex .f64 (aa k) (Op.negFloat .f64 (bb k)))) x v re (upd im k (-(im k)))) := by
      refine ⟨(Chg.refl (own x v) w).setCell (p := ⟨v, k, none⟩) (.inl (.inr rfl)) _, ?_⟩
      have h := R.set k hk _ _ (re k) (-(im k)) (hrow k hk).1 (w64_neg (hrow k hk).2)
      rw [upd_same] at h
      exact h
    generalize Op.negFloat .f64 (bb k) = nb at *
    unfold repPost ptr
    clear e1 e2 e0 hk' R rowB hrow
    go_enter Try.func27, Try.ntmps27
    go_wp2_with fail
    refine hc.mono ?_
    rintro e w' ⟨rfl, rfl⟩
    go_wp2
    go_ret
    exact ⟨rfl, (unhide fin).1, (unhide fin).2⟩
  · have e1 : Hid (conjE i = 1) := by show _ = _; simp [conjE, e0]
    have e2 : Hid (conjI im i = im) := by show _ = _; simp [conjI, e0]
    rw [e0] at hc
    rw [unhide e1, unhide e2]
    have RH := hide R
    unfold repPost ptr
    clear e1 e2 e0 R
    go_enter Try.func27, Try.ntmps27
    go_wp2_with fail
    refine hc.mono ?_
    rintro e w' ⟨rfl, rfl⟩
    go_wp2
    go_ret
    exact ⟨rfl, Chg.refl _ _, unhide RH⟩

/-- k, brought into 0 .. 3. -/
def quad (k : Int) : Int := (k.tmod 4 + 4).tmod 4

def rotR (re im : Nat → Int) (i k : Int) : Nat → Int := if cellsP i i = true then upd re i.toNat (re i.toNat * uR (quad k) - im i.toNat * uI (quad k)) else re
def rotI (re im : Nat → Int) (i k : Int) : Nat → Int := if cellsP i i = true then upd im i.toNat (re i.toNat * uI (quad k) + im i.toNat * uR (quad k)) else im

theorem unit_cases (q : Int) : (uR q = 0 ∧ uI q = 1) ∨ (uR q = -1 ∧ uI q = 0) ∨ (uR q = 0 ∧ uI q = -1) ∨ (uR q = 1 ∧ uI q = 0) := by
  unfold uR uI
  by_cases h1 : q = 1
  · simp [h1]
  · by_cases h2 : q = 2
    · simp [h2]
    · by_cases h3 : q = 3
      · simp [h3]
      · simp [h1, h2, h3]

set_option maxHeartbeats 1000000 in
theorem rot_any (w : World) (x v : Nat) (re im : Nat → Int) (R : Rep w x v re im) (I : Inv re im) (i k : Int) : Calls Try.prog 26 #[ptr x, .int .i64 i, .int .i64 k] w (repPost w x v (conjE i) (rotR re im i k) (rotI re im i k)) := by
  have hc := cells_any w i i
  rcases cells_cases i i with ⟨l, l', rfl, hl', hl, _, e0⟩ | e0
  · have e1 : Hid (conjE l = 0) := by show _ = _; simp [conjE, e0]
    have e2 : Hid (rotR re im l k = upd re l (re l * uR (quad k) - im l * uI (quad k))) := by show _ = _; simp [rotR, e0]
    have e3 : Hid (rotI re im l k = upd im l (re l * uI (quad k) + im l * uR (quad k))) := by show _ = _; simp [rotI, e0]
    rw [e0] at hc
    rw [unhide e1, unhide e2, unhide e3]
    obtain ⟨aa, bb, rowB, hrow⟩ := R.row
    have c0 := R.blk.cell 0
    simp at c0
    have cr := (rowB.cell l).trans (rowC_get aa bb l hl)
    have fr := rowB.frozen l
    have xv := R.xv
    have vx := Ne.symm xv
    have i0 : (0 : Int) ≤ (l : Int) := by omega
    have i1 : (l : Int) < 4 := by omega
    have q1 := I.r l hl
    have q2 := I.m l hl
    have t1 : -3 ≤ k.tmod 4 ∧ k.tmod 4 ≤ 3 := by
      have h1 := Int.tmod_lt_of_pos k (show (0 : Int) < 4 by decide)
      have h2 := Int.tmod_lt_of_pos (-k) (show (0 : Int) < 4 by decide)
      rw [Int.neg_tmod] at h2
      omega
    have wk : IntKind.i64.wrap (k.tmod 4 + 4) = k.tmod 4 + 4 := by rw [IntKind.wrap_i64]; omega
    have hq : (k.tmod 4 + 4).tmod 4 = quad k := rfl
    obtain ⟨hp, hqq⟩ := unit_w (quad k)
    have bnds : (re l * uR (quad k)).natAbs ≤ 9007199254740992 ∧ (im l * uI (quad k)).natAbs ≤ 9007199254740992 ∧ (re l * uI (quad k)).natAbs ≤ 9007199254740992 ∧ (im l * uR (quad k)).natAbs ≤ 9007199254740992 ∧ (re l * uR (quad k) - im l * uI (quad k)).natAbs ≤ 9007199254740992 ∧ (re l * uI (quad k) + im l * uR (quad k)).natAbs ≤ 9007199254740992 := by
      rcases unit_cases (quad k) with ⟨h1, h2⟩ | ⟨h1, h2⟩ | ⟨h1, h2⟩ | ⟨h1, h2⟩ <;> rw [h1, h2] <;> simp <;> omega
    obtain ⟨e, f, h1, h2, h3⟩ := cmul_whole (hrow l hl).1 (hrow l hl).2 hp hqq bnds.1 bnds.2.1 bnds.2.2.1 bnds.2.2.2.1 bnds.2.2.2.2.1 bnds.2.2.2.2.2
    have hmul := h1 Try.prog 66
    have fin : Hid (Chg (own x v) w (w.setCell ⟨v, l, none⟩ (.complex .f64 e f)) ∧ Rep (w.setCell ⟨v, l, none⟩ (.complex .f64 e f)) x v (upd re l (re l * uR (quad k) - im l * uI (quad k))) (upd im l (re l * uI (quad k) + im l * uR (quad k)))) := ⟨(Chg.refl (own x v) w).setCell (p := ⟨v, l, none⟩) (.inl (.inr rfl)) _, R.set l hl e f _ _ h2 h3⟩
    have h50 := unit_any w.drew (quad k)
    unfold repPost ptr
    clear e1 e2 e3 e0 hl' R I rowB hrow q1 q2 t1 bnds h1 h2 h3 hp hqq
    generalize uA (quad k) = ua at *
    generalize uB (quad k) = ub at *
    generalize quad k = Q at *
    go_enter Try.func26, Try.ntmps26
    go_wp2_with fail
    refine hc.mono ?_
    rintro e w' ⟨rfl, rfl⟩
    go_wp2
    go_region_with (go_at_call 50; (with_reducible refine h50.mono ?_); rintro e w2 ⟨rfl, rfl⟩)
    all_goals
      have yH := hide (And.intro (unhide fin).1.drew ((unhide fin).2.quiet ((Chg.refl _ _).drew)))
      go_wp2
      go_ret
      exact ⟨rfl, (unhide yH).1, (unhide yH).2⟩
  · have e1 : Hid (conjE i = 1) := by show _ = _; simp [conjE, e0]
    have e2 : Hid (rotR re im i k = re) := by show _ = _; simp [rotR, e0]
    have e3 : Hid (rotI re im i k = im) := by show _ = _; simp [rotI, e0]
    rw [e0] at hc
    rw [unhide e1, unhide e2, unhide e3]
    have RH := hide R
    unfold repPost ptr
    clear e1 e2 e3 e0 R I
    go_enter Try.func26, Try.ntmps26
    go_wp2_with fail
    refine hc.mono ?_
    rintro e w' ⟨rfl, rfl⟩
    go_wp2
    go_ret
    exact ⟨rfl, Chg.refl _ _, unhide RH⟩
end Go.Proofs.Qxb6500362a
