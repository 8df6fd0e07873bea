/-
  THE REAL GATE's METHODS (2): Feed, Odd, Quote, Size, Tenths.
-/
import Derived.Test.Qxb6500365aReal
namespace Go.Proofs.Qxb6500365a
open Go.RowKit Go.Qx Ieee
set_option linter.unusedVariables false
set_option linter.unusedSimpArgs false

/-- One store into the wire's price. -/
theorem Rep.wire {w w1 : World} {g : Nat} {S : GS} {x px vo no x' : Nat} {t e : Int} (b : Blk w g 38 (cellsG S x px vo no)) (r : Px S.d px S.s S.n ∧ Dbl vo (S.v * one) ∧ Dbl no (S.k * one)) (hw : w1.heap = (w.setCell ⟨g, 2, none⟩ (.float .f64 x')).heap) (T : Tick S.d x' t e) : Rep w1 g ⟨S.d, t, e, S.q, S.n, S.s, S.v, S.k⟩ := by
  have b1 := b.set 2 (.float .f64 x')
  exact ⟨x', px, vo, no, b1.of_heap (by rw [hw]), T, r⟩

theorem wrap_pow (n : Nat) (h : n ≤ 16) : wrap64 ((2 : Int) ^ n) = 2 ^ n := by
  have : n = 0 ∨ n = 1 ∨ n = 2 ∨ n = 3 ∨ n = 4 ∨ n = 5 ∨ n = 6 ∨ n = 7 ∨ n = 8 ∨ n = 9 ∨ n = 10 ∨ n = 11 ∨ n = 12 ∨ n = 13 ∨ n = 14 ∨ n = 15 ∨ n = 16 := by omega
  rcases this with rfl | rfl | rfl | rfl | rfl | rfl | rfl | rfl | rfl | rfl | rfl | rfl | rfl | rfl | rfl | rfl | rfl <;> decide +kernel
def feedE (m u k : Int) : Int := if m < -549755813888 ∨ m > 549755813888 then 2 else if u < 0 ∨ u > 8 ∨ k < 0 ∨ k > 16 then 3 else 0
def feedS (S : GS) (m u k : Int) : GS := if feedE m u k = 0 then ⟨S.d, (feedT S.d m u.toNat k.toNat).1, (feedT S.d m u.toNat k.toNat).2, S.q, S.n, S.s, S.v, S.k⟩ else S

set_option maxHeartbeats 1000000 in
theorem feed_any (w : World) (g : Nat) (S : GS) (R : Rep w g S) (I : Inv S) (m u k : Int) :
    Calls Try.prog 23 #[.pointer (some ⟨g, 0, none⟩), .int .i64 m, .int .i64 u, .int .i64 k] w fun ex w' => ex = .returned (.int .i64 (feedE m u k)) ∧ Chg (fun k => k = g) w w' ∧ Rep w' g (feedS S m u k) := by
  by_cases h1 : m < -549755813888
  · have e1 : feedE m u k = 2 := by unfold feedE; rw [if_pos (.inl h1)]
    have e2 : feedS S m u k = S := by unfold feedS; rw [e1, if_neg (by decide)]
    rw [e1, e2]
    have hH := hide R
    have h1' : (m < -549755813888) = True := eq_true h1
    clear R I e1 e2 h1
    go_enter Try.func23, Try.ntmps23
    go_wp2
    go_ret
    exact ⟨rfl, Chg.refl _ _, unhide hH⟩
  by_cases h2 : m > 549755813888
  · have e1 : feedE m u k = 2 := by unfold feedE; rw [if_pos (.inr h2)]
    have e2 : feedS S m u k = S := by unfold feedS; rw [e1, if_neg (by decide)]
    rw [e1, e2]
    have hH := hide R
    have h1' : (m < -549755813888) = False := eq_false h1
    have h2' : (549755813888 < m) = True := eq_true h2
    clear R I e1 e2 h1 h2
    go_enter Try.func23, Try.ntmps23
    go_wp2
    go_ret
    exact ⟨rfl, Chg.refl _ _, unhide hH⟩
  have h1' : (m < -549755813888) = False := eq_false h1
  have h2' : (549755813888 < m) = False := eq_false h2
  have hm0 : ¬ (m < -549755813888 ∨ m > 549755813888) := by omega
  by_cases hb : u < 0 ∨ u > 8 ∨ k < 0 ∨ k > 16
  · have e1 : feedE m u k = 3 := by unfold feedE; rw [if_neg hm0, if_pos hb]
    have e2 : feedS S m u k = S := by unfold feedS; rw [e1, if_neg (by decide)]
    rw [e1, e2]
    have hH := hide R
    clear R I e1 e2 h1 h2 hm0
    by_cases u1 : u < 0
    · have u1' : (u < 0) = True := eq_true u1
      clear u1 hb
      go_enter Try.func23, Try.ntmps23
      go_wp2
      go_ret
      exact ⟨rfl, Chg.refl _ _, unhide hH⟩
    have u1' : (u < 0) = False := eq_false u1
    by_cases u2 : 8 < u
    · have u2' : (8 < u) = True := eq_true u2
      clear u1 u2 hb
      go_enter Try.func23, Try.ntmps23
      go_wp2
      go_ret
      exact ⟨rfl, Chg.refl _ _, unhide hH⟩
    have u2' : (8 < u) = False := eq_false u2
    by_cases k1 : k < 0
    · have k1' : (k < 0) = True := eq_true k1
      clear u1 u2 k1 hb
      go_enter Try.func23, Try.ntmps23
      go_wp2
      go_ret
      exact ⟨rfl, Chg.refl _ _, unhide hH⟩
    have k1' : (k < 0) = False := eq_false k1
    have k2' : (16 < k) = True := eq_true (by omega)
    clear u1 u2 k1 hb
    go_enter Try.func23, Try.ntmps23
    go_wp2
    go_ret
    exact ⟨rfl, Chg.refl _ _, unhide hH⟩
  · have e1 : feedE m u k = 0 := by unfold feedE; rw [if_neg hm0, if_neg hb]
    obtain ⟨un, rfl⟩ := Int.eq_ofNat_of_zero_le (show 0 ≤ u by omega)
    obtain ⟨kn, rfl⟩ := Int.eq_ofNat_of_zero_le (show 0 ≤ k by omega)
    have e2 : feedS S m un kn = ⟨S.d, (feedT S.d m un kn).1, (feedT S.d m un kn).2, S.q, S.n, S.s, S.v, S.k⟩ := by unfold feedS; rw [e1, if_pos rfl]; rfl
    rw [e1, e2]
    obtain ⟨x, px, vo, no, b, T, r⟩ := R
    obtain ⟨p, x', f1, f2, f3⟩ := tick_feed I.ten (m := m) (by omega) un kn (by omega) (by omega)
    have c2 : w.cell? ⟨g, 2, none⟩ = some (.float .f64 x) := b.cell 2
    have z2 : w.frozen? ⟨g, 2, none⟩ = false := b.frozen 2
    have g1 := ar_mul f1
    have g2 := ar_div f2
    have fin : Hid (∀ w1 : World, w1.heap = (w.setCell ⟨g, 2, none⟩ (.float .f64 x')).heap → Rep w1 g ⟨S.d, (feedT S.d m un kn).1, (feedT S.d m un kn).2, S.q, S.n, S.s, S.v, S.k⟩) := fun w1 hw => Rep.wire b r hw f3
    have u1' : ((un : Int) < 0) = False := eq_false (by omega)
    have u2' : (8 < (un : Int)) = False := eq_false (by omega)
    have k1' : ((kn : Int) < 0) = False := eq_false (by omega)
    have k2' : (16 < (kn : Int)) = False := eq_false (by omega)
    have hu9 : un ≤ 8 := by omega
    have hk9 : kn ≤ 16 := by omega
    clear f1 f2 f3 b T r e1 e2 h1 h2 hm0 hb I
    have wr1 := wrap_pow un (by omega)
    have wr2 := wrap_pow kn (by omega)
    go_enter Try.func23, Try.ntmps23
    go_wp2
    go_ret
    exact ⟨rfl, chg_set (Chg.refl _ _) _ _, unhide fin _ rfl⟩

def quoteE (n : Int) : Int := if n < -1000000000000 ∨ n > 1000000000000 then 8 else 0
def quoteS (S : GS) (n : Int) : GS := if quoteE n = 0 then ⟨S.d, n, 0, S.q, S.n, S.s, S.v, S.k⟩ else S
set_option maxHeartbeats 1000000 in
theorem quote_any (w : World) (g : Nat) (S : GS) (R : Rep w g S) (I : Inv S) (n : Int) :
    Calls Try.prog 25 #[.pointer (some ⟨g, 0, none⟩), .int .i64 n] w fun ex w' => ex = .returned (.int .i64 (quoteE n)) ∧ Chg (fun k => k = g) w w' ∧ Rep w' g (quoteS S n) := by
  by_cases h1 : n < -1000000000000
  · have e1 : quoteE n = 8 := by unfold quoteE; rw [if_pos (.inl h1)]
    have e2 : quoteS S n = S := by unfold quoteS; rw [e1, if_neg (by decide)]
    rw [e1, e2]
    have hH := hide R
    have h1' : (n < -1000000000000) = True := eq_true h1
    clear R I e1 e2 h1
    go_enter Try.func25, Try.ntmps25
    go_wp2
    go_ret
    exact ⟨rfl, Chg.refl _ _, unhide hH⟩
  have h1' : (n < -1000000000000) = False := eq_false h1
  by_cases h2 : 1000000000000 < n
  · have e1 : quoteE n = 8 := by unfold quoteE; rw [if_pos (.inr h2)]
    have e2 : quoteS S n = S := by unfold quoteS; rw [e1, if_neg (by decide)]
    rw [e1, e2]
    have hH := hide R
    have h2' : (1000000000000 < n) = True := eq_true h2
    clear R I e1 e2 h1 h2
    go_enter Try.func25, Try.ntmps25
    go_wp2
    go_ret
    exact ⟨rfl, Chg.refl _ _, unhide hH⟩
  have h2' : (1000000000000 < n) = False := eq_false h2
  have e1 : quoteE n = 0 := by unfold quoteE; rw [if_neg (by omega)]
  have e2 : quoteS S n = ⟨S.d, n, 0, S.q, S.n, S.s, S.v, S.k⟩ := by unfold quoteS; rw [e1, if_pos rfl]
  rw [e1, e2]
  obtain ⟨x, px, vo, no, b, T, r⟩ := R
  obtain ⟨x', f1, f2⟩ := tick_quote I.ten (n := n) (by omega) (by omega)
  have c1 : w.cell? ⟨g, 1, none⟩ = some (.float .f64 (floatOfInt .f64 S.d)) := b.cell 1
  have c2 : w.cell? ⟨g, 2, none⟩ = some (.float .f64 x) := b.cell 2
  have z2 : w.frozen? ⟨g, 2, none⟩ = false := b.frozen 2
  have g1 := ar_div f1
  have fin : Hid (∀ w1 : World, w1.heap = (w.setCell ⟨g, 2, none⟩ (.float .f64 x')).heap → Rep w1 g ⟨S.d, n, 0, S.q, S.n, S.s, S.v, S.k⟩) := fun w1 hw => Rep.wire b r hw f2
  clear f1 f2 b T r e1 e2 h1 h2 I
  generalize floatOfInt .f64 S.d = fd at *
  go_enter Try.func25, Try.ntmps25
  go_wp2
  go_ret
  exact ⟨rfl, chg_set (Chg.refl _ _) _ _, unhide fin _ rfl⟩

def sizeE (q : Int) : Int := if q < 1 ∨ q > 16777216 then 5 else 0
def sizeS (S : GS) (q : Int) : GS := if sizeE q = 0 then ⟨S.d, S.t, S.e, q, S.n, S.s, S.v, S.k⟩ else S
set_option maxHeartbeats 1000000 in
theorem size_any (w : World) (g : Nat) (S : GS) (R : Rep w g S) (q : Int) :
    Calls Try.prog 26 #[.pointer (some ⟨g, 0, none⟩), .int .i64 q] w fun ex w' => ex = .returned (.int .i64 (sizeE q)) ∧ Chg (fun k => k = g) w w' ∧ Rep w' g (sizeS S q) := by
  by_cases h1 : q < 1
  · have e1 : sizeE q = 5 := by unfold sizeE; rw [if_pos (.inl h1)]
    have e2 : sizeS S q = S := by unfold sizeS; rw [e1, if_neg (by decide)]
    rw [e1, e2]
    have hH := hide R
    have h1' : (q < 1) = True := eq_true h1
    clear R e1 e2 h1
    go_enter Try.func26, Try.ntmps26
    go_wp2
    go_ret
    exact ⟨rfl, Chg.refl _ _, unhide hH⟩
  have h1' : (q < 1) = False := eq_false h1
  by_cases h2 : 16777216 < q
  · have e1 : sizeE q = 5 := by unfold sizeE; rw [if_pos (.inr h2)]
    have e2 : sizeS S q = S := by unfold sizeS; rw [e1, if_neg (by decide)]
    rw [e1, e2]
    have hH := hide R
    have h2' : (16777216 < q) = True := eq_true h2
    clear R e1 e2 h1 h2
    go_enter Try.func26, Try.ntmps26
    go_wp2
    go_ret
    exact ⟨rfl, Chg.refl _ _, unhide hH⟩
  have h2' : (16777216 < q) = False := eq_false h2
  have e1 : sizeE q = 0 := by unfold sizeE; rw [if_neg (by omega)]
  have e2 : sizeS S q = ⟨S.d, S.t, S.e, q, S.n, S.s, S.v, S.k⟩ := by unfold sizeS; rw [e1, if_pos rfl]
  rw [e1, e2]
  obtain ⟨x, px, vo, no, b, r⟩ := R
  have c3 : w.cell? ⟨g, 3, none⟩ = some (.float .f32 (floatOfInt .f32 S.q)) := b.cell 3
  have z3 : w.frozen? ⟨g, 3, none⟩ = false := b.frozen 3
  have fin : Hid (Rep (w.setCell ⟨g, 3, none⟩ (.float .f32 (floatOfInt .f32 q))) g ⟨S.d, S.t, S.e, q, S.n, S.s, S.v, S.k⟩) := ⟨x, px, vo, no, b.set 3 _, r⟩
  clear b r e1 e2 h1 h2
  go_enter Try.func26, Try.ntmps26
  go_wp2
  go_ret
  exact ⟨rfl, chg_set (Chg.refl _ _) _ _, unhide fin⟩

set_option maxHeartbeats 1000000 in
theorem tenths_any (w : World) (g : Nat) : Calls Try.prog 29 #[.pointer (some ⟨g, 0, none⟩)] w fun ex w' => ex = .returned (.int .i64 1) ∧ w' = w := by
  have h1 := ar_add (show double.add 4591870180066957722 4596373779694328218 = some 4599075939470750516 by decide +kernel)
  have h2 : (FloatKind.f64.format.order 4599075939470750516 4599075939470750515 != some .eq) = true := by decide +kernel
  have h3 : (FloatKind.f64.format.order 4599075939470750516 4599075939470750515 == some .gt) = true := by decide +kernel
  go_enter Try.func29, Try.ntmps29
  go_wp2
  go_ret
  exact ⟨rfl, rfl⟩

def oddE (k : Int) : Int := if k < 1 ∨ k > 7 then 4 else 0
def oddT (k : Int) : Int := if k = 1 then 6 else if k = 2 ∨ k = 3 then 7 else if k = 4 ∨ k = 5 then 8 else 0
def oddS (S : GS) (k : Int) : GS := if oddE k = 0 then ⟨S.d, 0, oddT k, S.q, S.n, S.s, S.v, S.k⟩ else S
set_option maxHeartbeats 2000000 in
theorem odd_any (w : World) (g : Nat) (S : GS) (R : Rep w g S) (I : Inv S) (k : Int) :
    Calls Try.prog 24 #[.pointer (some ⟨g, 0, none⟩), .int .i64 k] w fun ex w' => ex = .returned (.int .i64 (oddE k)) ∧ Chg (fun k => k = g) w w' ∧ Rep w' g (oddS S k) := by
  by_cases h1 : k < 1
  · have e1 : oddE k = 4 := by unfold oddE; rw [if_pos (.inl h1)]
    have e2 : oddS S k = S := by unfold oddS; rw [e1, if_neg (by decide)]
    rw [e1, e2]
    have hH := hide R
    have h1' : (k < 1) = True := eq_true h1
    clear R I e1 e2 h1
    go_enter Try.func24, Try.ntmps24
    go_wp2
    go_ret
    exact ⟨rfl, Chg.refl _ _, unhide hH⟩
  have h1' : (k < 1) = False := eq_false h1
  by_cases h2 : 7 < k
  · have e1 : oddE k = 4 := by unfold oddE; rw [if_pos (.inr h2)]
    have e2 : oddS S k = S := by unfold oddS; rw [e1, if_neg (by decide)]
    rw [e1, e2]
    have hH := hide R
    have h2' : (7 < k) = True := eq_true h2
    clear R I e1 e2 h1 h2
    go_enter Try.func24, Try.ntmps24
    go_wp2
    go_ret
    exact ⟨rfl, Chg.refl _ _, unhide hH⟩
  have hk : k = 1 ∨ k = 2 ∨ k = 3 ∨ k = 4 ∨ k = 5 ∨ k = 6 ∨ k = 7 := by omega
  clear h1 h2 h1'
  obtain ⟨x, px, vo, no, b, T, r⟩ := R
  have ht := I.ten
  have c2 : w.cell? ⟨g, 2, none⟩ = some (.float .f64 x) := b.cell 2
  have z2 : w.frozen? ⟨g, 2, none⟩ = false := b.frozen 2
  have m1 := ar_mul mul_huge
  have fin : Hid (∀ (x' : Nat) (e : Int), Tick S.d x' 0 e → ∀ w1 : World, w1.heap = (w.setCell ⟨g, 2, none⟩ (.float .f64 x')).heap → Rep w1 g ⟨S.d, 0, e, S.q, S.n, S.s, S.v, S.k⟩) := fun x' e T' w1 hw => Rep.wire b r hw T'
  have tH := hide ht
  have n1 : Op.negFloat .f64 9218868437227405312 = 18442240474082181120 := neg_inf
  have n2 : Op.negFloat .f64 9214364837600034816 = 18437736874454810624 := neg_huge
  have n3 : Op.negFloat .f64 0 = 9223372036854775808 := neg_zero
  clear b T r I ht
  rcases hk with rfl | rfl | rfl | rfl | rfl | rfl | rfl
  · have h2 : ∀ W : World, (binOp .sub 35 (.float .f64 9218868437227405312) (.float .f64 9218868437227405312)).run Try.prog W = .ok (.float .f64 ((Question.nanBits .f64 9218868437227405312 9218868437227405312).cut (W.tape W.drawn (.nanBits .f64 9218868437227405312 9218868437227405312)))) W.drew := fun W => run_float_nan W 35 _ _ sub_inf
    show Calls _ _ _ _ fun ex w' => ex = .returned (.int .i64 0) ∧ Chg (fun k => k = g) w w' ∧ Rep w' g ⟨S.d, 0, 6, S.q, S.n, S.s, S.v, S.k⟩
    go_enter Try.func24, Try.ntmps24
    go_wp2
    go_ret
    exact ⟨rfl, chg_set (Chg.refl _ _).drew _ _, unhide fin ((Question.nanBits .f64 9218868437227405312 9218868437227405312).cut (w.tape w.drawn (.nanBits .f64 9218868437227405312 9218868437227405312))) 6 (tick_nan _ (nan_cut _ _ _)) _ rfl⟩
  · show Calls _ _ _ _ fun ex w' => ex = .returned (.int .i64 0) ∧ Chg (fun k => k = g) w w' ∧ Rep w' g ⟨S.d, 0, 7, S.q, S.n, S.s, S.v, S.k⟩
    go_enter Try.func24, Try.ntmps24
    go_wp2
    go_ret
    exact ⟨rfl, chg_set (Chg.refl _ _) _ _, unhide fin _ 7 (tick_pinf _) _ rfl⟩
  · show Calls _ _ _ _ fun ex w' => ex = .returned (.int .i64 0) ∧ Chg (fun k => k = g) w w' ∧ Rep w' g ⟨S.d, 0, 7, S.q, S.n, S.s, S.v, S.k⟩
    go_enter Try.func24, Try.ntmps24
    go_wp2
    go_ret
    exact ⟨rfl, chg_set (Chg.refl _ _) _ _, unhide fin _ 7 (tick_ninf _) _ rfl⟩
  · show Calls _ _ _ _ fun ex w' => ex = .returned (.int .i64 0) ∧ Chg (fun k => k = g) w w' ∧ Rep w' g ⟨S.d, 0, 8, S.q, S.n, S.s, S.v, S.k⟩
    go_enter Try.func24, Try.ntmps24
    go_wp2
    go_ret
    exact ⟨rfl, chg_set (Chg.refl _ _) _ _, unhide fin _ 8 (tick_huge (unhide tH)) _ rfl⟩
  · show Calls _ _ _ _ fun ex w' => ex = .returned (.int .i64 0) ∧ Chg (fun k => k = g) w w' ∧ Rep w' g ⟨S.d, 0, 8, S.q, S.n, S.s, S.v, S.k⟩
    go_enter Try.func24, Try.ntmps24
    go_wp2
    go_ret
    exact ⟨rfl, chg_set (Chg.refl _ _) _ _, unhide fin _ 8 (tick_nhuge (unhide tH)) _ rfl⟩
  · show Calls _ _ _ _ fun ex w' => ex = .returned (.int .i64 0) ∧ Chg (fun k => k = g) w w' ∧ Rep w' g ⟨S.d, 0, 0, S.q, S.n, S.s, S.v, S.k⟩
    go_enter Try.func24, Try.ntmps24
    go_wp2
    go_ret
    exact ⟨rfl, chg_set (Chg.refl _ _) _ _, unhide fin _ 0 (tick_tiny (unhide tH)) _ rfl⟩
  · show Calls _ _ _ _ fun ex w' => ex = .returned (.int .i64 0) ∧ Chg (fun k => k = g) w w' ∧ Rep w' g ⟨S.d, 0, 0, S.q, S.n, S.s, S.v, S.k⟩
    go_enter Try.func24, Try.ntmps24
    go_wp2
    go_ret
    exact ⟨rfl, chg_set (Chg.refl _ _) _ _, unhide fin _ 0 (tick_nzero (unhide tH)) _ rfl⟩
end Go.Proofs.Qxb6500365a
