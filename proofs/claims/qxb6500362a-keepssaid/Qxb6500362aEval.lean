/-
  THE REAL BENCH: Eval, Show, Check.
-/
import Derived.Test.Qxb6500362aOps
namespace Go.Proofs.Qxb6500362a
open Go.RowKit Go.Qx
set_option linter.unusedVariables false
set_option linter.unusedSimpArgs false

/-- Horner's rule: the cells from n on. -/
def horn (re im : Nat → Int) (x y : Int) : Nat → Int × Int
  | 0 => (0, 0)
  | k + 1 => ((horn re im x y k).1 * x - (horn re im x y k).2 * y + re (3 - k), (horn re im x y k).1 * y + (horn re im x y k).2 * x + im (3 - k))

def evalP (re im : Nat → Int) (x y : Int) : Int × Int × Int := if inP x y 32 = true then ((horn re im x y 4).1, (horn re im x y 4).2, 0) else (0, 0, 2)

theorem prod_bound (a b : Int) (A B : Nat) (ha : a.natAbs ≤ A) (hb : b.natAbs ≤ B) : (a * b).natAbs ≤ A * B := by
  rw [Int.natAbs_mul]; exact Nat.mul_le_mul ha hb

def hB : Nat → Nat
  | 0 => 0
  | k + 1 => hB k * 32 + hB k * 32 + 67108864

theorem horn_bound {re im : Nat → Int} (I : Inv re im) {x y : Int} (hx : x.natAbs ≤ 32) (hy : y.natAbs ≤ 32) : ∀ k, k ≤ 4 → (horn re im x y k).1.natAbs ≤ hB k ∧ (horn re im x y k).2.natAbs ≤ hB k
  | 0, _ => by simp [horn, hB]
  | k + 1, hk => by
    obtain ⟨h1, h2⟩ := horn_bound I hx hy k (by omega)
    have r1 := I.r (3 - k) (by omega)
    have r2 := I.m (3 - k) (by omega)
    have p1 := prod_bound _ _ _ _ h1 hx
    have p2 := prod_bound _ _ _ _ h2 hy
    have p3 := prod_bound _ _ _ _ h1 hy
    have p4 := prod_bound _ _ _ _ h2 hx
    unfold horn hB
    constructor <;> simp only <;> omega

theorem hB_le : ∀ k, k ≤ 4 → hB k ≤ 35184372088832 := by
  intro k hk
  have : k = 0 ∨ k = 1 ∨ k = 2 ∨ k = 3 ∨ k = 4 := by omega
  rcases this with rfl | rfl | rfl | rfl | rfl <;> decide

set_option maxRecDepth 100000 in
set_option maxHeartbeats 2000000 in
theorem eval_any (w : World) (z v : Nat) (re im : Nat → Int) (R : Rep w z v re im) (I : Inv re im) (x y : Int) : Calls Try.prog 30 #[ptr z, .int .i64 x, .int .i64 y] w fun e w' => e = .returned (.tuple #[.int .i64 (evalP re im x y).1, .int .i64 (evalP re im x y).2.1, .int .i64 (evalP re im x y).2.2]) ∧ w' = w := by
  have hf := fits_any w x y 32 (by omega)
  by_cases hfit : inP x y 32 = true
  · have e1 : Hid (evalP re im x y = ((horn re im x y 4).1, (horn re im x y 4).2, 0)) := by show _ = _; simp [evalP, hfit]
    rw [unhide e1]
    rw [hfit] at hf
    simp only [inP, decide_eq_true_eq] at hfit
    have hx : x.natAbs ≤ 32 := by omega
    have hy : y.natAbs ≤ 32 := by omega
    have z1 := w64_of x (by omega)
    have z2 := w64_of y (by omega)
    have hwh := whole_any w x y
    obtain ⟨aa, bb, rowB, hrow⟩ := R.row
    have c0 := R.blk.cell 0
    simp at c0
    have hbd : Hid (∀ k, k ≤ 4 → (horn re im x y k).1.natAbs ≤ hB k ∧ (horn re im x y k).2.natAbs ≤ hB k) := horn_bound I hx hy
    have step : Hid (∀ k a b, k < 4 → W64 a (horn re im x y k).1 → W64 b (horn re im x y k).2 → ∃ p q e f, (∀ W, (binOp .mul 66 (.complex .f64 a b) (.complex .f64 (FloatKind.f64.nearest x) (FloatKind.f64.nearest y))).run Try.prog W = .ok (.complex .f64 p q) W) ∧ (∀ W, (binOp .add 66 (.complex .f64 p q) (.complex .f64 (aa (3 - k)) (bb (3 - k)))).run Try.prog W = .ok (.complex .f64 e f) W) ∧ W64 e (horn re im x y (k + 1)).1 ∧ W64 f (horn re im x y (k + 1)).2) := by
      intro k a b hk ha hb
      obtain ⟨h1, h2⟩ := unhide hbd k (by omega)
      have hb0 := hB_le k (by omega)
      have p1 := prod_bound _ _ _ _ h1 hx
      have p2 := prod_bound _ _ _ _ h2 hy
      have p3 := prod_bound _ _ _ _ h1 hy
      have p4 := prod_bound _ _ _ _ h2 hx
      obtain ⟨p, q, g1, g2, g3⟩ := cmul_whole ha hb z1 z2 (by omega) (by omega) (by omega) (by omega) (by omega) (by omega)
      have r1 := I.r (3 - k) (by omega)
      have r2 := I.m (3 - k) (by omega)
      obtain ⟨e, f, g4, g5, g6⟩ := cadd_whole g2 g3 (hrow (3 - k) (by omega)).1 (hrow (3 - k) (by omega)).2 (by omega) (by omega)
      exact ⟨p, q, e, f, g1 Try.prog 66, g4 Try.prog 66, g5, g6⟩
    have hcell : Hid (∀ k, k < 4 → w.cell? ⟨v, 3 - k, none⟩ = some (.complex .f64 (aa (3 - k)) (bb (3 - k)))) := fun k hk => (rowB.cell _).trans (rowC_get aa bb (3 - k) (by omega))
    unfold ptr
    generalize FloatKind.f64.nearest x = y1 at *
    generalize FloatKind.f64.nearest y = y2 at *
    clear e1 R I rowB hrow z1 z2 hfit
    go_enter Try.func30, Try.ntmps30
    go_wp2_with fail
    refine hf.mono ?_
    rintro e w' ⟨rfl, rfl⟩
    go_wp2_with fail
    refine hwh.mono ?_
    rintro e w' ⟨rfl, rfl⟩
    go_wp2
    go_loopw [10, 11] (fun u i wr => ∃ k a b : Nat, k ≤ 4 ∧ i = .int .i64 (3 - (k : Int)) ∧ u = .complex .f64 a b ∧ W64 a (horn re im x y k).1 ∧ W64 b (horn re im x y k).2 ∧ wr = w') (fun _ i _ => (intOf i + 1).toNat)
    case atStart => exact ⟨0, 0, 0, by omega, rfl, rfl, w_0, w_0, rfl⟩
    case round =>
      obtain ⟨k, a, b, hk, rfl, rfl, ha, hb, rfl⟩ := hrel
      by_cases hlt : k < 4
      · obtain ⟨j, hj⟩ : ∃ j : Nat, 3 - k = j := ⟨_, rfl⟩
        have hji : (3 : Int) - (k : Int) = (j : Int) := by omega
        have j0 : (0 : Int) ≤ (j : Int) := by omega
        have j1 : (j : Int) < 4 := by omega
        obtain ⟨p, q, e, f, m1, m2, m3, m4⟩ := unhide step k a b hlt ha hb
        have hc := unhide hcell k hlt
        rw [hj] at m2 hc
        have w3 := hide m3
        have w4 := hide m4
        rw [hji]
        clear ha hb m3 m4
        go_wp2
        go_roundw
        case rel =>
          have ej : (j : Int) - 1 = 3 - ((k + 1 : Nat) : Int) := by omega
          refine ⟨k + 1, e, f, by omega, ?_, rfl, unhide w3, unhide w4, ?_⟩
          · rw [← ej]
          · first | rfl | trivial
        case measure => simp [intOf]
      · obtain rfl : k = 4 := by omega
        obtain ⟨h1, h2⟩ := unhide hbd 4 (by omega)
        have hb4 := hB_le 4 (by omega)
        have hp := hide (parts_whole wr a b _ _ ha hb (by omega) (by omega))
        have k1 : ¬ (0 : Int) ≤ 3 - ((4 : Nat) : Int) := by decide
        clear ha hb h1 h2 hb4
        go_wp2_with fail
        refine (unhide hp).mono ?_
        rintro e w2 ⟨rfl, rfl⟩
        go_wp2
        go_ret3
        exact ⟨rfl, rfl⟩
  · have hff : inP x y 32 = false := by simpa using hfit
    have e1 : Hid (evalP re im x y = (0, 0, 2)) := by show _ = _; simp [evalP, hff]
    rw [unhide e1]
    rw [hff] at hf
    unfold ptr
    clear e1 R I hfit hff
    go_enter Try.func30, Try.ntmps30
    go_wp2_with fail
    refine hf.mono ?_
    rintro e w' ⟨rfl, rfl⟩
    go_wp2
    go_ret3
    exact ⟨rfl, rfl⟩

def cellT (a b : Int) : List UInt8 := itoa a ++ [44] ++ itoa b ++ [59]
def showTo (re im : Nat → Int) : Nat → List UInt8
  | 0 => []
  | k + 1 => showTo re im k ++ cellT (re k) (im k)
def showP (re im : Nat → Int) : List UInt8 := showTo re im 4

theorem showTo_length (re im : Nat → Int) : ∀ k, (showTo re im k).length ≤ 42 * k
  | 0 => by simp [showTo]
  | k + 1 => by
    have ih := showTo_length re im k
    have h1 := itoa_length (re k)
    have h2 := itoa_length (im k)
    simp [showTo, cellT]
    omega

set_option maxRecDepth 100000 in
set_option maxHeartbeats 2000000 in
theorem show_any (w : World) (x v : Nat) (re im : Nat → Int) (R : Rep w x v re im) (I : Inv re im) : Calls Try.prog 19 #[ptr x] w fun e w' => e = .returned (.string (str (showP re im))) ∧ Quiet w w' := by
  have RH := hide R
  have IH := hide I
  clear R I
  unfold ptr
  go_enter Try.func19, Try.ntmps19
  go_wp2
  go_loopw [3, 4] (fun s i wr => ∃ k : Nat, k ≤ 4 ∧ i = .int .i64 k ∧ s = .string (str (showTo re im k)) ∧ Quiet w wr) (fun _ i _ => 5 - (intOf i).toNat)
  case atStart => exact ⟨0, by omega, rfl, rfl, Chg.refl _ _⟩
  case round =>
    obtain ⟨k, hk, rfl, rfl, q⟩ := hrel
    have R2 := (unhide RH).quiet q
    obtain ⟨aa, bb, rowB, hrow⟩ := R2.row
    have c0 := R2.blk.cell 0
    simp at c0
    by_cases hlt : k < 4
    · have k0 : (0 : Int) ≤ (k : Int) := by omega
      have k1 : (k : Int) < 4 := by omega
      have cr := (rowB.cell k).trans (rowC_get aa bb k hlt)
      have q1 := (unhide IH).r k hlt
      have q2 := (unhide IH).m k hlt
      have hp := hide (parts_whole wr _ _ _ _ (hrow k hlt).1 (hrow k hlt).2 (by omega) (by omega))
      have h1 : Hid (∀ W, Calls Try.prog 11 #[.int .i64 (re k)] W fun e w' => e = .returned (.string (str (itoa (re k)))) ∧ Quiet W w') := fun W => itoa_any (re k) W (by omega) (by omega)
      have h2 : Hid (∀ W, Calls Try.prog 11 #[.int .i64 (im k)] W fun e w' => e = .returned (.string (str (itoa (im k)))) ∧ Quiet W w') := fun W => itoa_any (im k) W (by omega) (by omega)
      have hT : Hid (str (showTo re im (k + 1)) = str (showTo re im k) ++ str (itoa (re k)) ++ ⟨#[44]⟩ ++ str (itoa (im k)) ++ ⟨#[59]⟩) := by
        show _ = _
        rw [show (⟨#[44]⟩ : ByteArray) = str [44] from rfl, show (⟨#[59]⟩ : ByteArray) = str [59] from rfl]
        simp only [str_append, showTo, cellT, List.append_assoc]
      have l1 := itoa_length (re k)
      have l2 := itoa_length (im k)
      have l3 := showTo_length re im k
      have z1 : (str (showTo re im k)).size ≤ 200 := by rw [str_size]; omega
      have z2 : (str (itoa (re k))).size ≤ 20 := by rw [str_size]; omega
      have z3 : (str (itoa (im k))).size ≤ 20 := by rw [str_size]; omega
      generalize str (showTo re im k) = S1 at *
      generalize str (itoa (re k)) = S2 at *
      generalize str (itoa (im k)) = S3 at *
      generalize re k = rk at *
      generalize im k = ik at *
      have qH := hide q
      clear R2 rowB hrow q q1 q2 l1 l2 l3
      go_wp2_with fail
      refine (unhide hp).mono ?_
      rintro e w2 ⟨rfl, rfl⟩
      go_wp2_with fail
      refine (unhide h1 _).mono ?_
      rintro e w3 ⟨rfl, q3⟩
      go_wp2_with fail
      refine (unhide h2 _).mono ?_
      rintro e w4 ⟨rfl, q4⟩
      have qq := hide (Quiet.trans (unhide qH) (Quiet.trans q3 q4))
      clear q3 q4 hp h1 h2
      go_wp2
      go_roundw
      case rel => exact ⟨k + 1, by omega, by go_num, by rw [unhide hT], unhide qq⟩
      case measure => simp [intOf]; omega
    · have k1 : ¬ (k : Int) < 4 := by omega
      obtain rfl : k = 4 := by omega
      clear R2 rowB hrow
      go_wp2
      go_ret
      exact ⟨rfl, q⟩

set_option maxRecDepth 100000 in
set_option maxHeartbeats 2000000 in
theorem check_any (w : World) (x v : Nat) (re im : Nat → Int) (R : Rep w x v re im) (I : Inv re im) : Calls Try.prog 32 #[ptr x] w fun e w' => e = .returned (.bool true) ∧ Quiet w w' := by
  have c0 := R.blk.cell 0
  simp at c0
  have RH := hide R
  have IH := hide I
  clear R I
  unfold ptr
  go_enter Try.func32, Try.ntmps32
  go_wp2
  clear c0
  go_loopw [3] (fun i wr => ∃ k : Nat, k ≤ 4 ∧ i = .int .i64 k ∧ Quiet w wr) (fun i _ => 5 - (intOf i).toNat)
  case atStart => exact ⟨0, by omega, rfl, Chg.refl _ _⟩
  case round =>
    obtain ⟨k, hk, rfl, q⟩ := hrel
    have R2 := (unhide RH).quiet q
    obtain ⟨aa, bb, rowB, hrow⟩ := R2.row
    have c0 := R2.blk.cell 0
    simp at c0
    by_cases hlt : k < 4
    · have k0 : (0 : Int) ≤ (k : Int) := by omega
      have k1 : (k : Int) < 4 := by omega
      have cr := (rowB.cell k).trans (rowC_get aa bb k hlt)
      have q1 := (unhide IH).r k hlt
      have q2 := (unhide IH).m k hlt
      have hw := hide (within_any wr _ _ _ _ _ _ (hrow k hlt).1 (hrow k hlt).2 w_top)
      have hin : inP (re k) (im k) 67108864 = true := by simp only [inP, decide_eq_true_eq]; omega
      rw [hin] at hw
      have hp := hide (parts_whole wr _ _ _ _ (hrow k hlt).1 (hrow k hlt).2 (by omega) (by omega))
      have hwh := whole_any wr.drew (re k) (im k)
      have hne := cne_whole (Q64.of_whole (hrow k hlt).1) (Q64.of_whole (hrow k hlt).2) (Q64.of_whole (w64_of (re k) (by omega))) (Q64.of_whole (w64_of (im k) (by omega))) Try.prog 66
      simp only [and_self, decide_true, Bool.not_true] at hne
      generalize FloatKind.f64.nearest (re k) = y1 at *
      generalize FloatKind.f64.nearest (im k) = y2 at *
      generalize re k = rk at *
      generalize im k = ik at *
      have qH := hide q
      clear R2 rowB hrow q q1 q2 hin
      go_wp2_with fail
      refine (unhide hw).mono ?_
      rintro e w2 ⟨rfl, rfl⟩
      go_wp2_with fail
      refine (unhide hp).mono ?_
      rintro e w3 ⟨rfl, rfl⟩
      go_wp2_with fail
      go_region_held3 (fun W => W.cell? ⟨x, 0, none⟩ = some (.slice (some ⟨v, 0, none⟩) 4 4) ∧ W.cell? ⟨v, k, none⟩ = some (.complex .f64 (aa k) (bb k))) (go_keep) (first | (go_at_call 47; (with_reducible refine hwh.mono ?_); rintro e w5 ⟨rfl, rfl⟩))
      rename_i hHeld
      clear hHeld hw hp hwh hne
      go_wp2
      go_roundw
      case rel => exact ⟨k + 1, by omega, by go_num, Chg.drew (unhide qH)⟩
      case measure => simp [intOf]; omega
    · have k1 : ¬ (k : Int) < 4 := by omega
      clear R2 rowB hrow
      go_wp2
      go_ret
      exact ⟨rfl, q⟩
end Go.Proofs.Qxb6500362a
