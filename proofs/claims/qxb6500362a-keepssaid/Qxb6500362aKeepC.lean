/-
  THE LAW's SMALL FUNCTIONS, third part: Product, Poly, Times. (gen2keepC.py)
-/
import Derived.Test.Qxb6500362aKeepB
namespace Go.Proofs.Qxb6500362a
open Go.RowKit Go.Qx
set_option linter.unusedVariables false
set_option linter.unusedSimpArgs false

theorem wrap_is (z : Int) : IntKind.i64.wrap z = wrap64 z := by rw [IntKind.wrap_i64]; unfold wrap64; omega

theorem get_bound {re im : Nat → Int} (I : Inv re im) (i : Int) : ((getP re im i).1.natAbs ≤ 67108864 ∧ (getP re im i).2.1.natAbs ≤ 67108864) := by
  unfold getP
  split
  · rename_i h
    have hl := (cells_lt h).1
    have h1 := I.r _ hl
    have h2 := I.m _ hl
    simp only; omega
  · simp

theorem nat_mul_le {a b : Int} {A B : Nat} (ha : a.natAbs ≤ A) (hb : b.natAbs ≤ B) : (a * b).natAbs ≤ A * B := by
  rw [Int.natAbs_mul]; exact Nat.mul_le_mul ha hb

theorem ival {z : Int} {B : Nat} (h : z.natAbs ≤ B) : -(B : Int) ≤ z ∧ z ≤ (B : Int) := by omega
theorem ivalN {z : Int} {B : Nat} (h1 : -(B : Int) ≤ z) (h2 : z ≤ (B : Int)) : z.natAbs ≤ B := by omega

def prodP (re im : Nat → Int) (i j : Int) : Int × Int := ((getP re im i).1 * (getP re im j).1 - (getP re im i).2.1 * (getP re im j).2.1, (getP re im i).1 * (getP re im j).2.1 + (getP re im i).2.1 * (getP re im j).1)

set_option maxRecDepth 100000 in
set_option maxHeartbeats 4000000 in
theorem product_any (w : World) (y u : Nat) (re im : Nat → Int) (R : Rep w y u re im) (I : Inv re im) (i j : Int) :
    Calls Try.prog 38 #[ptr y, .int .i64 i, .int .i64 j] w fun e w' => e = .returned (.tuple #[.int .i64 (prodP re im i j).1, .int .i64 (prodP re im i j).2]) ∧ Quiet w w' := by
  have g1 := do_get_w w y u re im R I i 0 0 ⟨#[]⟩ ⟨#[]⟩ w (Quiet.refl w)
  have g2 : Hid (∀ W, Quiet w W → Calls Try.prog 15 #[.pointer (some ⟨y, 0, none⟩), .agg #[.int .i64 3, .int .i64 j, .int .i64 0, .int .i64 0, .string ⟨#[]⟩, .string ⟨#[]⟩]] W fun e w' => e = .returned (.agg #[.int .i64 (getP re im j).2.2, .int .i64 (getP re im j).1, .int .i64 (getP re im j).2.1, .string ⟨#[]⟩]) ∧ Quiet W w') := fun W q => do_get_w w y u re im R I j 0 0 _ _ W q
  obtain ⟨b1, b2⟩ := get_bound I i
  obtain ⟨b3, b4⟩ := get_bound I j
  unfold prodP
  generalize (getP re im i).1 = a at *
  generalize (getP re im i).2.1 = b at *
  generalize (getP re im i).2.2 = e1 at *
  generalize (getP re im j).1 = c at *
  generalize (getP re im j).2.1 = d at *
  generalize (getP re im j).2.2 = e2 at *
  have p1 := nat_mul_le b1 b3
  have p2 := nat_mul_le b2 b4
  have p3 := nat_mul_le b1 b4
  have p4 := nat_mul_le b2 b3
  have w1 : wrap64 (a * c) = a * c := by unfold wrap64; omega
  have w2 : wrap64 (b * d) = b * d := by unfold wrap64; omega
  have w3 : wrap64 (a * d) = a * d := by unfold wrap64; omega
  have w4 : wrap64 (b * c) = b * c := by unfold wrap64; omega
  have w5 : wrap64 (a * c - b * d) = a * c - b * d := by unfold wrap64; omega
  have w6 : wrap64 (a * d + b * c) = a * d + b * c := by unfold wrap64; omega
  have w1' : IntKind.i64.wrap (a * c) = a * c := by rw [IntKind.wrap_i64]; omega
  have w2' : IntKind.i64.wrap (b * d) = b * d := by rw [IntKind.wrap_i64]; omega
  have w3' : IntKind.i64.wrap (a * d) = a * d := by rw [IntKind.wrap_i64]; omega
  have w4' : IntKind.i64.wrap (b * c) = b * c := by rw [IntKind.wrap_i64]; omega
  have w5' : IntKind.i64.wrap (a * c - b * d) = a * c - b * d := by rw [IntKind.wrap_i64]; omega
  have w6' : IntKind.i64.wrap (a * d + b * c) = a * d + b * c := by rw [IntKind.wrap_i64]; omega
  clear b1 b2 b3 b4 p1 p2 p3 p4 R I
  unfold ptr at *
  go_enter Try.func38, Try.ntmps38
  go_wp2_with fail
  refine g1.mono ?_
  clear g1
  rintro e w1 ⟨rfl, q1⟩
  have q2 : Quiet w (w1.alloc (.cells #[.int .i64 e1, .int .i64 a, .int .i64 b, .string ⟨#[]⟩] 35)) := Quiet.trans q1 ((Chg.refl _ _).alloc _)
  have bx := Blk.new w1 35 [.int .i64 e1, .int .i64 a, .int .i64 b, .string ⟨#[]⟩]
  have g3 := unhide g2 _ q2
  have q2H := hide q2
  have bxH := hide bx
  clear g2 q1 q2 bx
  go_wp2_with fail
  refine g3.mono ?_
  clear g3
  rintro e w3 ⟨rfl, q3⟩
  have q4 : Quiet w (w3.alloc (.cells #[.int .i64 e2, .int .i64 c, .int .i64 d, .string ⟨#[]⟩] 35)) := Quiet.trans (Quiet.trans (unhide q2H) q3) ((Chg.refl _ _).alloc _)
  have b1 := (q3.blk (unhide bxH)).alloc (.cells #[.int .i64 e2, .int .i64 c, .int .i64 d, .string ⟨#[]⟩] 35)
  have b2 := Blk.new w3 35 [.int .i64 e2, .int .i64 c, .int .i64 d, .string ⟨#[]⟩]
  have c1 := b1.cell
  have c2 := b2.cell
  have q4H := hide q4
  clear q3 q4 b1 b2 bxH q2H
  go_wp2
  go_quiet (fail)
  go_wp2
  go_ret2
  exact ⟨rfl, Quiet.trans (unhide q4H) ((Chg.refl _ _).drewN _)⟩

/-- The sum of the first n terms, and z ^ n. -/
def polyT (re im : Nat → Int) (a b : Int) : Nat → (Int × Int) × (Int × Int)
  | 0 => ((0, 0), (1, 0))
  | n + 1 => (((polyT re im a b n).1.1 + re n * (polyT re im a b n).2.1 - im n * (polyT re im a b n).2.2, (polyT re im a b n).1.2 + re n * (polyT re im a b n).2.2 + im n * (polyT re im a b n).2.1),
      ((polyT re im a b n).2.1 * a - (polyT re im a b n).2.2 * b, (polyT re im a b n).2.1 * b + (polyT re im a b n).2.2 * a))

theorem poly_horn (re im : Nat → Int) (a b : Int) : (polyT re im a b 4).1 = horn re im a b 4 := by
  simp only [polyT, horn]
  generalize re 0 = r0
  generalize re 1 = r1
  generalize re 2 = r2
  generalize re 3 = r3
  generalize im 0 = i0
  generalize im 1 = i1
  generalize im 2 = i2
  generalize im 3 = i3
  refine Prod.ext ?_ ?_
  · show _ = _
    simp only
    grind
  · show _ = _
    simp only
    grind

set_option maxHeartbeats 4000000 in
theorem polyT_bound {re im : Nat → Int} (I : Inv re im) {a b : Int} (ha : a.natAbs ≤ 32) (hb : b.natAbs ≤ 32) : ∀ n, n ≤ 4 →
    ((polyT re im a b n).1.1.natAbs ≤ 134217728 * 64 ^ n ∧ (polyT re im a b n).1.2.natAbs ≤ 134217728 * 64 ^ n) ∧ ((polyT re im a b n).2.1.natAbs ≤ 64 ^ n ∧ (polyT re im a b n).2.2.natAbs ≤ 64 ^ n)
  | 0, _ => by simp [polyT]
  | n + 1, hn => by
    obtain ⟨⟨h1, h2⟩, h3, h4⟩ := polyT_bound I ha hb n (by omega)
    have r := I.r n (by omega)
    have m := I.m n (by omega)
    have r' : (re n).natAbs ≤ 67108864 := by omega
    have m' : (im n).natAbs ≤ 67108864 := by omega
    have p1 := nat_mul_le r' h3
    have p2 := nat_mul_le m' h4
    have p3 := nat_mul_le r' h4
    have p4 := nat_mul_le m' h3
    have p5 := nat_mul_le h3 ha
    have p6 := nat_mul_le h4 hb
    have p7 := nat_mul_le h3 hb
    have p8 := nat_mul_le h4 ha
    have e : 64 ^ (n + 1) = 64 * 64 ^ n := by rw [Nat.pow_succ]; omega
    have t1 : (polyT re im a b (n + 1)).1.1 = (polyT re im a b n).1.1 + re n * (polyT re im a b n).2.1 - im n * (polyT re im a b n).2.2 := rfl
    have t2 : (polyT re im a b (n + 1)).1.2 = (polyT re im a b n).1.2 + re n * (polyT re im a b n).2.2 + im n * (polyT re im a b n).2.1 := rfl
    have t3 : (polyT re im a b (n + 1)).2.1 = (polyT re im a b n).2.1 * a - (polyT re im a b n).2.2 * b := rfl
    have t4 : (polyT re im a b (n + 1)).2.2 = (polyT re im a b n).2.1 * b + (polyT re im a b n).2.2 * a := rfl
    rw [t1, t2, t3, t4, e]
    clear t1 t2 t3 t4
    generalize (polyT re im a b n).1.1 = S1 at *
    generalize (polyT re im a b n).1.2 = S2 at *
    generalize re n * (polyT re im a b n).2.1 = A at *
    generalize im n * (polyT re im a b n).2.2 = B at *
    generalize re n * (polyT re im a b n).2.2 = C at *
    generalize im n * (polyT re im a b n).2.1 = D at *
    generalize (polyT re im a b n).2.1 * a = E at *
    generalize (polyT re im a b n).2.2 * b = F at *
    generalize (polyT re im a b n).2.1 * b = G at *
    generalize (polyT re im a b n).2.2 * a = H at *
    generalize 64 ^ n = Z at *
    obtain ⟨c1, c2⟩ := ival h1
    obtain ⟨c3, c4⟩ := ival h2
    obtain ⟨d1, f1⟩ := ival p1
    obtain ⟨d2, f2⟩ := ival p2
    obtain ⟨d3, f3⟩ := ival p3
    obtain ⟨d4, f4⟩ := ival p4
    obtain ⟨d5, f5⟩ := ival p5
    obtain ⟨d6, f6⟩ := ival p6
    obtain ⟨d7, f7⟩ := ival p7
    obtain ⟨d8, f8⟩ := ival p8
    clear h1 h2 h3 h4 r m r' m' e ha hb I p1 p2 p3 p4 p5 p6 p7 p8
    refine ⟨⟨ivalN ?_ ?_, ivalN ?_ ?_⟩, ivalN ?_ ?_, ivalN ?_ ?_⟩ <;> omega

set_option maxHeartbeats 4000000 in
theorem poly_wraps {S1 S2 Z1 Z2 rn mn a b : Int} {Z : Nat} (b1 : S1.natAbs ≤ 134217728 * Z) (b2 : S2.natAbs ≤ 134217728 * Z) (b3 : Z1.natAbs ≤ Z) (b4 : Z2.natAbs ≤ Z) (hz : Z ≤ 262144) (r' : rn.natAbs ≤ 67108864) (m' : mn.natAbs ≤ 67108864) (ha : a.natAbs ≤ 32) (hb : b.natAbs ≤ 32) :
    wrap64 (rn * Z1) = rn * Z1 ∧ wrap64 (mn * Z2) = mn * Z2 ∧ wrap64 (rn * Z2) = rn * Z2 ∧ wrap64 (mn * Z1) = mn * Z1 ∧ wrap64 (S1 + rn * Z1) = S1 + rn * Z1 ∧ wrap64 (S1 + rn * Z1 - mn * Z2) = S1 + rn * Z1 - mn * Z2 ∧ wrap64 (S2 + rn * Z2) = S2 + rn * Z2 ∧ wrap64 (S2 + rn * Z2 + mn * Z1) = S2 + rn * Z2 + mn * Z1 ∧
    wrap64 (0 : Int) = 0 ∧ wrap64 (Z1 * a) = Z1 * a ∧ wrap64 (Z2 * b) = Z2 * b ∧ wrap64 (Z1 * a - Z2 * b) = Z1 * a - Z2 * b ∧ wrap64 (Z1 * b) = Z1 * b ∧ wrap64 (Z2 * a) = Z2 * a ∧ wrap64 (Z1 * b + Z2 * a) = Z1 * b + Z2 * a := by
  have p1 := nat_mul_le r' b3
  have p2 := nat_mul_le m' b4
  have p3 := nat_mul_le r' b4
  have p4 := nat_mul_le m' b3
  have p5 := nat_mul_le b3 ha
  have p6 := nat_mul_le b4 hb
  have p7 := nat_mul_le b3 hb
  have p8 := nat_mul_le b4 ha
  generalize rn * Z1 = A at *
  generalize mn * Z2 = B at *
  generalize rn * Z2 = C at *
  generalize mn * Z1 = D at *
  generalize Z1 * a = E at *
  generalize Z2 * b = F at *
  generalize Z1 * b = G at *
  generalize Z2 * a = H at *
  obtain ⟨c1, c2⟩ := ival b1
  obtain ⟨c3, c4⟩ := ival b2
  obtain ⟨d1, f1⟩ := ival p1
  obtain ⟨d2, f2⟩ := ival p2
  obtain ⟨d3, f3⟩ := ival p3
  obtain ⟨d4, f4⟩ := ival p4
  obtain ⟨d5, f5⟩ := ival p5
  obtain ⟨d6, f6⟩ := ival p6
  obtain ⟨d7, f7⟩ := ival p7
  obtain ⟨d8, f8⟩ := ival p8
  clear b1 b2 b3 b4 r' m' ha hb p1 p2 p3 p4 p5 p6 p7 p8
  unfold wrap64
  refine ⟨?_, ?_, ?_, ?_, ?_, ?_, ?_, ?_, ?_, ?_, ?_, ?_, ?_, ?_, ?_⟩ <;> omega

set_option maxRecDepth 100000 in
set_option maxHeartbeats 4000000 in
theorem poly_any (w : World) (y u : Nat) (re im : Nat → Int) (R : Rep w y u re im) (I : Inv re im) (a b : Int) (ha : a.natAbs ≤ 32) (hb : b.natAbs ≤ 32) :
    Calls Try.prog 37 #[ptr y, .int .i64 a, .int .i64 b] w fun e w' => e = .returned (.tuple #[.int .i64 (horn re im a b 4).1, .int .i64 (horn re im a b 4).2]) ∧ Quiet w w' := by
  have hph := hide (poly_horn re im a b)
  have g1 : Hid (∀ (k : Nat) W, Quiet w W → Calls Try.prog 15 #[.pointer (some ⟨y, 0, none⟩), .agg #[.int .i64 3, .int .i64 k, .int .i64 0, .int .i64 0, .string ⟨#[]⟩, .string ⟨#[]⟩]] W fun e w' => e = .returned (.agg #[.int .i64 (getP re im k).2.2, .int .i64 (getP re im k).1, .int .i64 (getP re im k).2.1, .string ⟨#[]⟩]) ∧ Quiet W w') := fun k W q => do_get_w w y u re im R I k 0 0 _ _ W q
  have bd : Hid (∀ n, n ≤ 4 → ((polyT re im a b n).1.1.natAbs ≤ 134217728 * 64 ^ n ∧ (polyT re im a b n).1.2.natAbs ≤ 134217728 * 64 ^ n) ∧ ((polyT re im a b n).2.1.natAbs ≤ 64 ^ n ∧ (polyT re im a b n).2.2.natAbs ≤ 64 ^ n)) := polyT_bound I ha hb
  have IH := hide I
  clear R I
  unfold ptr
  go_enter Try.func37, Try.ntmps37
  go_wp2
  go_loopw [8, 9, 10, 11, 12] (fun s1 s2 z1 z2 i wr => ∃ n : Nat, n ≤ 4 ∧ s1 = .int .i64 (polyT re im a b n).1.1 ∧ s2 = .int .i64 (polyT re im a b n).1.2 ∧ z1 = .int .i64 (polyT re im a b n).2.1 ∧ z2 = .int .i64 (polyT re im a b n).2.2 ∧ i = .int .i64 n ∧ Quiet w wr) (fun _ _ _ _ i _ => 5 - (intOf i).toNat)
  case atStart => exact ⟨0, by omega, rfl, rfl, rfl, rfl, rfl, Chg.refl _ _⟩
  case round =>
    obtain ⟨n, hn, rfl, rfl, rfl, rfl, rfl, qr⟩ := hrel
    by_cases hlt : n < 4
    · have n1 : (n : Int) < 4 := by omega
      have n0 : (0 : Int) ≤ (n : Int) := by omega
      have h1 := unhide g1 n wr qr
      rw [get_in re im n hlt] at h1
      obtain ⟨⟨b1, b2⟩, b3, b4⟩ := unhide bd n hn
      have r := (unhide IH).r n hlt
      have m := (unhide IH).m n hlt
      have r' : (re n).natAbs ≤ 67108864 := by omega
      have m' : (im n).natAbs ≤ 67108864 := by omega
      have hz : 64 ^ n ≤ 262144 := by
        have := Nat.pow_le_pow_right (n := 64) (by decide) (show n ≤ 3 by omega)
        exact this
      have tH : Hid ((polyT re im a b (n + 1)).1.1 = (polyT re im a b n).1.1 + re n * (polyT re im a b n).2.1 - im n * (polyT re im a b n).2.2 ∧ (polyT re im a b (n + 1)).1.2 = (polyT re im a b n).1.2 + re n * (polyT re im a b n).2.2 + im n * (polyT re im a b n).2.1 ∧
          (polyT re im a b (n + 1)).2.1 = (polyT re im a b n).2.1 * a - (polyT re im a b n).2.2 * b ∧ (polyT re im a b (n + 1)).2.2 = (polyT re im a b n).2.1 * b + (polyT re im a b n).2.2 * a) := ⟨rfl, rfl, rfl, rfl⟩
      generalize (polyT re im a b n).1.1 = S1 at *
      generalize (polyT re im a b n).1.2 = S2 at *
      generalize (polyT re im a b n).2.1 = Z1 at *
      generalize (polyT re im a b n).2.2 = Z2 at *
      generalize re n = rn at *
      generalize im n = mn at *
      have W := poly_wraps b1 b2 b3 b4 hz r' m' ha hb
      obtain ⟨w1, w2, w3, w4, w5, w6, w7, w8, w9, x1, x2, x3, x4, x5, x6⟩ := W
      have w1' : IntKind.i64.wrap (rn * Z1) = rn * Z1 := (wrap_is _).trans w1
      have w2' : IntKind.i64.wrap (mn * Z2) = mn * Z2 := (wrap_is _).trans w2
      have w3' : IntKind.i64.wrap (rn * Z2) = rn * Z2 := (wrap_is _).trans w3
      have w4' : IntKind.i64.wrap (mn * Z1) = mn * Z1 := (wrap_is _).trans w4
      have w5' : IntKind.i64.wrap (S1 + rn * Z1) = S1 + rn * Z1 := (wrap_is _).trans w5
      have w6' : IntKind.i64.wrap (S1 + rn * Z1 - mn * Z2) = S1 + rn * Z1 - mn * Z2 := (wrap_is _).trans w6
      have w7' : IntKind.i64.wrap (S2 + rn * Z2) = S2 + rn * Z2 := (wrap_is _).trans w7
      have w8' : IntKind.i64.wrap (S2 + rn * Z2 + mn * Z1) = S2 + rn * Z2 + mn * Z1 := (wrap_is _).trans w8
      have h1H := hide h1
      have qH := hide qr
      clear h1 qr b1 b2 b3 b4 r m r' m' hz
      go_wp2_with fail
      refine (unhide h1H).mono ?_
      clear h1H
      rintro e w1 ⟨rfl, q1⟩
      have hq := hide (Quiet.trans (Quiet.trans (unhide qH) q1) ((Chg.refl _ _).alloc (.cells #[.int .i64 0, .int .i64 rn, .int .i64 mn, .string ⟨#[]⟩] 35)))
      have bx := Blk.new w1 35 [.int .i64 0, .int .i64 rn, .int .i64 mn, .string ⟨#[]⟩]
      have hc := bx.cell
      clear bx q1
      go_wp2
      go_quiet (fail)
      go_wp2
      go_roundw
      case rel =>
        obtain ⟨t1, t2, t3, t4⟩ := unhide tH
        refine ⟨n + 1, by omega, ?_, ?_, ?_, ?_, by go_num, Quiet.trans (unhide hq) ((Chg.refl _ _).drewN _)⟩
        · first | rw [t1, w6] | rw [t1]
        · first | rw [t2, w8] | rw [t2]
        · first | rw [t3, x3] | rw [t3]
        · first | rw [t4, x6] | rw [t4]
      case measure => simp [intOf]; omega
    · have n1 : ¬ (n : Int) < 4 := by omega
      obtain rfl : n = 4 := by omega
      rw [unhide hph]
      go_wp2
      go_ret2
      exact ⟨rfl, qr⟩
end Go.Proofs.Qxb6500362a
