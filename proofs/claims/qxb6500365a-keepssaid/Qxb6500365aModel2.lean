/-
  THE ABSTRACT GATE's METHODS. (gen65m2.py)
-/
import Derived.Test.Qxb6500365aModel
namespace Go.Proofs.Qxb6500365a
open Go.RowKit Go.Qx Ieee
set_option linter.unusedVariables false
set_option linter.unusedSimpArgs false

theorem mw_first (d : Int) : MW (first d) 0 1 0 := by
  refine ⟨?_, by decide, by decide, by decide⟩
  unfold tickM first
  dsimp only
  rw [if_neg (by decide), Int.zero_mul, if_neg (by decide)]
  rfl
set_option maxHeartbeats 1000000 in
theorem mnew_any (w : World) : Calls Try.prog 16 #[] w fun ex w' => ∃ g, ex = .returned (.pointer (some ⟨g, 0, none⟩)) ∧ Quiet w w' ∧ w.heap.size ≤ g ∧ RepM w' g (first 1) := by
  go_enter Try.func16, Try.ntmps16
  go_wp2
  go_ret
  exact ⟨_, rfl, (Chg.refl _ _).alloc _, Nat.le_refl _, 0, 1, 0, Blk.new w 64 _, mw_first 1⟩

theorem mtenths_any (w : World) (g : Nat) : Calls Try.prog 47 #[.pointer (some ⟨g, 0, none⟩)] w fun ex w' => ex = .returned (.int .i64 1) ∧ w' = w := by
  go_enter Try.func47, Try.ntmps47
  go_wp2
  go_ret
  exact ⟨rfl, rfl⟩

set_option maxHeartbeats 1000000 in
theorem mdenom_any (w : World) (g : Nat) (S : GS) (R : RepM w g S) (d : Int) :
    Calls Try.prog 38 #[.pointer (some ⟨g, 0, none⟩), .int .i64 d] w fun ex w' => ex = .returned (.int .i64 (if decide (Ten d) then 0 else 1)) ∧ Chg (fun k => k = g) w w' ∧ RepM w' g (if decide (Ten d) then first d else S) := by
  have hd := isDenom_any w d
  have RH := hide R
  obtain ⟨num, den, bad, b, _⟩ := R
  by_cases ht : Ten d
  · rw [decide_eq_true ht] at hd
    rw [if_pos (decide_eq_true ht), if_pos (decide_eq_true ht)]
    have bH := hide b
    have c0 : w.cell? ⟨g, 0, none⟩ = some (.int .i64 S.d) := b.cell 0
    have c1 : w.cell? ⟨g, 1, none⟩ = some (.int .i64 num) := b.cell 1
    have c2 : w.cell? ⟨g, 2, none⟩ = some (.int .i64 den) := b.cell 2
    have c3 : w.cell? ⟨g, 3, none⟩ = some (.int .i64 S.q) := b.cell 3
    have c4 : w.cell? ⟨g, 4, none⟩ = some (.int .i64 bad) := b.cell 4
    have c5 : w.cell? ⟨g, 5, none⟩ = some (.int .i64 S.n) := b.cell 5
    have c6 : w.cell? ⟨g, 6, none⟩ = some (.int .i64 S.s) := b.cell 6
    have c7 : w.cell? ⟨g, 7, none⟩ = some (.int .i64 S.v) := b.cell 7
    have c8 : w.cell? ⟨g, 8, none⟩ = some (.int .i64 S.k) := b.cell 8
    have f0 : w.frozen? ⟨g, 0, none⟩ = false := b.frozen 0
    have f1 : w.frozen? ⟨g, 1, none⟩ = false := b.frozen 1
    have f2 : w.frozen? ⟨g, 2, none⟩ = false := b.frozen 2
    have f3 : w.frozen? ⟨g, 3, none⟩ = false := b.frozen 3
    have f4 : w.frozen? ⟨g, 4, none⟩ = false := b.frozen 4
    have f5 : w.frozen? ⟨g, 5, none⟩ = false := b.frozen 5
    have f6 : w.frozen? ⟨g, 6, none⟩ = false := b.frozen 6
    have f7 : w.frozen? ⟨g, 7, none⟩ = false := b.frozen 7
    have f8 : w.frozen? ⟨g, 8, none⟩ = false := b.frozen 8
    clear ht RH b
    go_enter Try.func38, Try.ntmps38
    go_wp2_with fail
    refine hd.mono ?_
    clear hd
    rintro e w1 ⟨rfl, rfl⟩
    go_wp2
    go_ret
    have b1 := (((((((((unhide bH).set 0 (.int .i64 d)).set 1 (.int .i64 0)).set 2 (.int .i64 1)).set 3 (.int .i64 1)).set 4 (.int .i64 0)).set 5 (.int .i64 0)).set 6 (.int .i64 0)).set 7 (.int .i64 0)).set 8 (.int .i64 0)
    have h0 : Chg (fun k => k = g) w1 w1 := Chg.refl _ _
    exact ⟨rfl, chg_set (chg_set (chg_set (chg_set (chg_set (chg_set (chg_set (chg_set (chg_set h0 _ _) _ _) _ _) _ _) _ _) _ _) _ _) _ _) _ _, 0, 1, 0, b1, mw_first d⟩
  · rw [decide_eq_false ht] at hd
    rw [if_neg (show ¬ decide (Ten d) = true by rw [decide_eq_false ht]; decide), if_neg (show ¬ decide (Ten d) = true by rw [decide_eq_false ht]; decide)]
    clear ht b
    go_enter Try.func38, Try.ntmps38
    go_wp2_with fail
    refine hd.mono ?_
    clear hd
    rintro e w1 ⟨rfl, rfl⟩
    go_wp2
    go_ret
    exact ⟨rfl, Chg.refl _ _, unhide RH⟩

/-- Three stores into the wire. -/
theorem RepM.wire {w : World} {g : Nat} {S : GS} {num den bad num' den' bad' t e : Int} (b : Blk w g 64 (cellsM S num den bad)) (h : MW ⟨S.d, t, e, S.q, S.n, S.s, S.v, S.k⟩ num' den' bad') :
    RepM (((w.setCell ⟨g, 4, none⟩ (.int .i64 bad')).setCell ⟨g, 1, none⟩ (.int .i64 num')).setCell ⟨g, 2, none⟩ (.int .i64 den')) g ⟨S.d, t, e, S.q, S.n, S.s, S.v, S.k⟩ :=
  ⟨num', den', bad', ((b.set 4 (.int .i64 bad')).set 1 (.int .i64 num')).set 2 (.int .i64 den'), h⟩

set_option maxHeartbeats 1000000 in
theorem mfeed_any (w : World) (g : Nat) (S : GS) (R : RepM w g S) (I : Inv S) (m u k : Int) :
    Calls Try.prog 39 #[.pointer (some ⟨g, 0, none⟩), .int .i64 m, .int .i64 u, .int .i64 k] w fun ex w' => ex = .returned (.int .i64 (feedE m u k)) ∧ Chg (fun k => k = g) w w' ∧ RepM w' g (feedS S m u k) := by
  by_cases h1 : m < -549755813888
  · have e1 : feedE m u k = 2 := by unfold feedE; rw [if_pos (.inl h1)]
    have e2 : feedS S m u k = S := by unfold feedS; rw [e1, if_neg (by decide)]
    rw [e1, e2]
    have hH := hide R
    have h1' : (m < -549755813888) = True := eq_true h1
    clear R I e1 e2 h1
    go_enter Try.func39, Try.ntmps39
    go_wp2
    go_ret
    exact ⟨rfl, Chg.refl _ _, unhide hH⟩
  by_cases h2 : m > 549755813888
  · have e1 : feedE m u k = 2 := by unfold feedE; rw [if_pos (.inr h2)]
    have e2 : feedS S m u k = S := by unfold feedS; rw [e1, if_neg (by decide)]
    rw [e1, e2]
    have hH := hide R
    have h1' : (m < -549755813888) = False := eq_false h1
    have h2' : (549755813888 < m) = True := eq_true h2
    clear R I e1 e2 h1 h2
    go_enter Try.func39, Try.ntmps39
    go_wp2
    go_ret
    exact ⟨rfl, Chg.refl _ _, unhide hH⟩
  have h1' : (m < -549755813888) = False := eq_false h1
  have h2' : (549755813888 < m) = False := eq_false h2
  have hm0 : ¬ (m < -549755813888 ∨ m > 549755813888) := by omega
  by_cases hb : u < 0 ∨ u > 8 ∨ k < 0 ∨ k > 16
  · have e1 : feedE m u k = 3 := by unfold feedE; rw [if_neg hm0, if_pos hb]
    have e2 : feedS S m u k = S := by unfold feedS; rw [e1, if_neg (by decide)]
    rw [e1, e2]
    have hH := hide R
    clear R I e1 e2 h1 h2 hm0
    by_cases u1 : u < 0
    · have u1' : (u < 0) = True := eq_true u1
      clear u1 hb
      go_enter Try.func39, Try.ntmps39
      go_wp2
      go_ret
      exact ⟨rfl, Chg.refl _ _, unhide hH⟩
    have u1' : (u < 0) = False := eq_false u1
    by_cases u2 : 8 < u
    · have u2' : (8 < u) = True := eq_true u2
      clear u1 u2 hb
      go_enter Try.func39, Try.ntmps39
      go_wp2
      go_ret
      exact ⟨rfl, Chg.refl _ _, unhide hH⟩
    have u2' : (8 < u) = False := eq_false u2
    by_cases k1 : k < 0
    · have k1' : (k < 0) = True := eq_true k1
      clear u1 u2 k1 hb
      go_enter Try.func39, Try.ntmps39
      go_wp2
      go_ret
      exact ⟨rfl, Chg.refl _ _, unhide hH⟩
    have k1' : (k < 0) = False := eq_false k1
    have k2' : (16 < k) = True := eq_true (by omega)
    clear u1 u2 k1 hb
    go_enter Try.func39, Try.ntmps39
    go_wp2
    go_ret
    exact ⟨rfl, Chg.refl _ _, unhide hH⟩
  · have e1 : feedE m u k = 0 := by unfold feedE; rw [if_neg hm0, if_neg hb]
    obtain ⟨un, rfl⟩ := Int.eq_ofNat_of_zero_le (show 0 ≤ u by omega)
    obtain ⟨kn, rfl⟩ := Int.eq_ofNat_of_zero_le (show 0 ≤ k by omega)
    have e2 : feedS S m un kn = ⟨S.d, (feedT S.d m un kn).1, (feedT S.d m un kn).2, S.q, S.n, S.s, S.v, S.k⟩ := by unfold feedS; rw [e1, if_pos rfl]; rfl
    rw [e1, e2]
    obtain ⟨num, den, bad, b, _⟩ := R
    have pu : ((2 : Int) ^ un) ≤ 256 ∧ 1 ≤ (2 : Int) ^ un := by
      have : un = 0 ∨ un = 1 ∨ un = 2 ∨ un = 3 ∨ un = 4 ∨ un = 5 ∨ un = 6 ∨ un = 7 ∨ un = 8 := by omega
      rcases this with rfl | rfl | rfl | rfl | rfl | rfl | rfl | rfl | rfl <;> decide
    have pk : ((2 : Int) ^ kn) ≤ 65536 ∧ 1 ≤ (2 : Int) ^ kn := by
      have h1 : ((2 : Int) ^ kn) ≤ 2 ^ 16 := by
        rw [← ip, ← ip]; exact Int.ofNat_le.2 (Nat.pow_le_pow_right (by omega) (by omega))
      have h2 : (0 : Int) < 2 ^ kn := Int.pow_pos (by omega)
      omega
    have hmu : (m * 2 ^ un).natAbs ≤ 549755813888 * 256 := by
      rw [Int.natAbs_mul]; exact Nat.mul_le_mul (by omega) (by omega)
    have mw : MW ⟨S.d, (feedT S.d m un kn).1, (feedT S.d m un kn).2, S.q, S.n, S.s, S.v, S.k⟩ (m * 2 ^ un) (2 ^ kn) 0 := by
      refine ⟨?_, pk.2, pk.1, by omega⟩
      unfold tickM feedT
      dsimp only
      rw [if_neg (by decide)]
    have fin := hide (RepM.wire b mw)
    have c1 : w.cell? ⟨g, 1, none⟩ = some (.int .i64 num) := b.cell 1
    have c2 : w.cell? ⟨g, 2, none⟩ = some (.int .i64 den) := b.cell 2
    have c4 : w.cell? ⟨g, 4, none⟩ = some (.int .i64 bad) := b.cell 4
    have f1 : w.frozen? ⟨g, 1, none⟩ = false := b.frozen 1
    have f2 : w.frozen? ⟨g, 2, none⟩ = false := b.frozen 2
    have f4 : w.frozen? ⟨g, 4, none⟩ = false := b.frozen 4
    have u1' : ((un : Int) < 0) = False := eq_false (by omega)
    have u2' : (8 < (un : Int)) = False := eq_false (by omega)
    have k1' : ((kn : Int) < 0) = False := eq_false (by omega)
    have k2' : (16 < (kn : Int)) = False := eq_false (by omega)
    have hu9 : un ≤ 8 := by omega
    have hk9 : kn ≤ 16 := by omega
    have wr2 := wrap_pow kn (by omega)
    have wr1 : wrap64 (m * 2 ^ un) = m * 2 ^ un := wrap64_ok _ (by omega) (by omega)
    have wr3 : IntKind.i64.wrap (m * 2 ^ un) = m * 2 ^ un := by rw [IntKind.wrap_i64]; omega
    have wr4 : IntKind.i64.wrap ((2 : Int) ^ kn) = 2 ^ kn := by rw [IntKind.wrap_i64]; omega
    clear b mw pu pk hmu e1 e2 h1 h2 hm0 hb I
    go_enter Try.func39, Try.ntmps39
    go_wp2
    go_wp2
    go_ret
    exact ⟨rfl, chg_set (chg_set (chg_set (Chg.refl _ _) _ _) _ _) _ _, unhide fin⟩

set_option maxHeartbeats 1000000 in
theorem mquote_any (w : World) (g : Nat) (S : GS) (R : RepM w g S) (I : Inv S) (n : Int) :
    Calls Try.prog 41 #[.pointer (some ⟨g, 0, none⟩), .int .i64 n] w fun ex w' => ex = .returned (.int .i64 (quoteE n)) ∧ Chg (fun k => k = g) w w' ∧ RepM w' g (quoteS S n) := by
  by_cases h1 : n < -1000000000000
  · have e1 : quoteE n = 8 := by unfold quoteE; rw [if_pos (.inl h1)]
    have e2 : quoteS S n = S := by unfold quoteS; rw [e1, if_neg (by decide)]
    rw [e1, e2]
    have hH := hide R
    have h1' : (n < -1000000000000) = True := eq_true h1
    clear R I e1 e2 h1
    go_enter Try.func41, Try.ntmps41
    go_wp2
    go_ret
    exact ⟨rfl, Chg.refl _ _, unhide hH⟩
  have h1' : (n < -1000000000000) = False := eq_false h1
  by_cases h2 : 1000000000000 < n
  · have e1 : quoteE n = 8 := by unfold quoteE; rw [if_pos (.inr h2)]
    have e2 : quoteS S n = S := by unfold quoteS; rw [e1, if_neg (by decide)]
    rw [e1, e2]
    have hH := hide R
    have h2' : (1000000000000 < n) = True := eq_true h2
    clear R I e1 e2 h1 h2
    go_enter Try.func41, Try.ntmps41
    go_wp2
    go_ret
    exact ⟨rfl, Chg.refl _ _, unhide hH⟩
  have h2' : (1000000000000 < n) = False := eq_false h2
  have e1 : quoteE n = 0 := by unfold quoteE; rw [if_neg (by omega)]
  have e2 : quoteS S n = ⟨S.d, n, 0, S.q, S.n, S.s, S.v, S.k⟩ := by unfold quoteS; rw [e1, if_pos rfl]
  rw [e1, e2]
  obtain ⟨num, den, bad, b, _⟩ := R
  have id1 : 1 ≤ S.d ∧ S.d ≤ 10000 := by have := I.ten; unfold Ten at this; omega
  have mw : MW ⟨S.d, n, 0, S.q, S.n, S.s, S.v, S.k⟩ n S.d 0 := by
    refine ⟨?_, id1.1, by omega, by omega⟩
    unfold tickM
    dsimp only
    have g1 : ¬ (n * S.d > 1000000000000 * S.d ∨ n * S.d < -1000000000000 * S.d) := by
      intro h
      rcases h with h | h
      · have := Int.lt_of_mul_lt_mul_right h (by omega); omega
      · have := Int.lt_of_mul_lt_mul_right h (by omega); omega
    rw [if_neg (by decide), if_neg g1]
    congr 1
    unfold roundDiv
    rw [if_neg (by omega)]
    have ea : ((n * S.d).natAbs : Int) = (n.natAbs : Int) * S.d := by rw [Int.natAbs_mul, Int.natCast_mul]; congr 1; omega
    have hz : ¬ (2 * (0 : Int) ≥ S.d) := by omega
    rw [ea, Int.mul_ediv_cancel _ (by omega), Int.mul_emod_left, if_neg hz]
    by_cases hn : n < 0
    · rw [if_pos (Int.mul_neg_of_neg_of_pos hn (by omega))]; omega
    · have := Int.mul_nonneg (show 0 ≤ n by omega) (show 0 ≤ S.d by omega)
      rw [if_neg (by omega)]; omega
  have fin := hide (RepM.wire b mw)
  have c0 : w.cell? ⟨g, 0, none⟩ = some (.int .i64 S.d) := b.cell 0
  have c1 : w.cell? ⟨g, 1, none⟩ = some (.int .i64 num) := b.cell 1
  have c2 : w.cell? ⟨g, 2, none⟩ = some (.int .i64 den) := b.cell 2
  have c4 : w.cell? ⟨g, 4, none⟩ = some (.int .i64 bad) := b.cell 4
  have f1 : w.frozen? ⟨g, 1, none⟩ = false := b.frozen 1
  have f2 : w.frozen? ⟨g, 2, none⟩ = false := b.frozen 2
  have f4 : w.frozen? ⟨g, 4, none⟩ = false := b.frozen 4
  clear b mw e1 e2 h1 h2 I id1
  go_enter Try.func41, Try.ntmps41
  go_wp2
  go_wp2
  go_ret
  exact ⟨rfl, chg_set (chg_set (chg_set (Chg.refl _ _) _ _) _ _) _ _, unhide fin⟩

set_option maxHeartbeats 1000000 in
theorem msize_any (w : World) (g : Nat) (S : GS) (R : RepM w g S) (q : Int) :
    Calls Try.prog 42 #[.pointer (some ⟨g, 0, none⟩), .int .i64 q] w fun ex w' => ex = .returned (.int .i64 (sizeE q)) ∧ Chg (fun k => k = g) w w' ∧ RepM w' g (sizeS S q) := by
  by_cases h1 : q < 1
  · have e1 : sizeE q = 5 := by unfold sizeE; rw [if_pos (.inl h1)]
    have e2 : sizeS S q = S := by unfold sizeS; rw [e1, if_neg (by decide)]
    rw [e1, e2]
    have hH := hide R
    have h1' : (q < 1) = True := eq_true h1
    clear R e1 e2 h1
    go_enter Try.func42, Try.ntmps42
    go_wp2
    go_ret
    exact ⟨rfl, Chg.refl _ _, unhide hH⟩
  have h1' : (q < 1) = False := eq_false h1
  by_cases h2 : 16777216 < q
  · have e1 : sizeE q = 5 := by unfold sizeE; rw [if_pos (.inr h2)]
    have e2 : sizeS S q = S := by unfold sizeS; rw [e1, if_neg (by decide)]
    rw [e1, e2]
    have hH := hide R
    have h2' : (16777216 < q) = True := eq_true h2
    clear R e1 e2 h1 h2
    go_enter Try.func42, Try.ntmps42
    go_wp2
    go_ret
    exact ⟨rfl, Chg.refl _ _, unhide hH⟩
  have h2' : (16777216 < q) = False := eq_false h2
  have e1 : sizeE q = 0 := by unfold sizeE; rw [if_neg (by omega)]
  have e2 : sizeS S q = ⟨S.d, S.t, S.e, q, S.n, S.s, S.v, S.k⟩ := by unfold sizeS; rw [e1, if_pos rfl]
  rw [e1, e2]
  obtain ⟨num, den, bad, b, mw⟩ := R
  have c3 : w.cell? ⟨g, 3, none⟩ = some (.int .i64 S.q) := b.cell 3
  have z3 : w.frozen? ⟨g, 3, none⟩ = false := b.frozen 3
  have fin : Hid (RepM (w.setCell ⟨g, 3, none⟩ (.int .i64 q)) g ⟨S.d, S.t, S.e, q, S.n, S.s, S.v, S.k⟩) := ⟨num, den, bad, b.set 3 _, mw.tick, mw.den1, mw.den2, mw.num1⟩
  clear b mw e1 e2 h1 h2
  go_enter Try.func42, Try.ntmps42
  go_wp2
  go_ret
  exact ⟨rfl, chg_set (Chg.refl _ _) _ _, unhide fin⟩

theorem oddSays_any (w : World) (k : Int) (h1 : 1 ≤ k) (h2 : k ≤ 7) : Calls Try.prog 51 #[.int .i64 k] w fun ex w' => ex = .returned (.int .i64 (oddT k)) ∧ w' = w := by
  have hk : k = 1 ∨ k = 2 ∨ k = 3 ∨ k = 4 ∨ k = 5 ∨ k = 6 ∨ k = 7 := by omega
  rcases hk with rfl | rfl | rfl | rfl | rfl | rfl | rfl <;>
  · go_enter Try.func51, Try.ntmps51
    go_wp2
    go_ret
    exact ⟨rfl, rfl⟩
set_option maxHeartbeats 1000000 in
theorem modd_any (w : World) (g : Nat) (S : GS) (R : RepM w g S) (k : Int) :
    Calls Try.prog 40 #[.pointer (some ⟨g, 0, none⟩), .int .i64 k] w fun ex w' => ex = .returned (.int .i64 (oddE k)) ∧ Chg (fun k => k = g) w w' ∧ RepM w' g (oddS S k) := by
  by_cases h1 : k < 1
  · have e1 : oddE k = 4 := by unfold oddE; rw [if_pos (.inl h1)]
    have e2 : oddS S k = S := by unfold oddS; rw [e1, if_neg (by decide)]
    rw [e1, e2]
    have hH := hide R
    have h1' : (k < 1) = True := eq_true h1
    clear R e1 e2 h1
    go_enter Try.func40, Try.ntmps40
    go_wp2
    go_ret
    exact ⟨rfl, Chg.refl _ _, unhide hH⟩
  have h1' : (k < 1) = False := eq_false h1
  by_cases h2 : 7 < k
  · have e1 : oddE k = 4 := by unfold oddE; rw [if_pos (.inr h2)]
    have e2 : oddS S k = S := by unfold oddS; rw [e1, if_neg (by decide)]
    rw [e1, e2]
    have hH := hide R
    have h2' : (7 < k) = True := eq_true h2
    clear R e1 e2 h1 h2
    go_enter Try.func40, Try.ntmps40
    go_wp2
    go_ret
    exact ⟨rfl, Chg.refl _ _, unhide hH⟩
  have e1 : oddE k = 0 := by unfold oddE; rw [if_neg (by omega)]
  have e2 : oddS S k = ⟨S.d, 0, oddT k, S.q, S.n, S.s, S.v, S.k⟩ := by unfold oddS; rw [e1, if_pos rfl]
  rw [e1, e2]
  obtain ⟨num, den, bad, b, _⟩ := R
  have hos := oddSays_any w k (by omega) (by omega)
  have mw : MW ⟨S.d, 0, oddT k, S.q, S.n, S.s, S.v, S.k⟩ 0 1 (oddT k) := by
    refine ⟨?_, by decide, by decide, by decide⟩
    unfold tickM
    dsimp only
    by_cases h : oddT k = 0
    · rw [if_neg (fun c => c h), Int.zero_mul, if_neg (by decide), h]; rfl
    · rw [if_pos h]
  have fin := hide (RepM.wire b mw)
  have c1 : w.cell? ⟨g, 1, none⟩ = some (.int .i64 num) := b.cell 1
  have c2 : w.cell? ⟨g, 2, none⟩ = some (.int .i64 den) := b.cell 2
  have c4 : w.cell? ⟨g, 4, none⟩ = some (.int .i64 bad) := b.cell 4
  have f1 : w.frozen? ⟨g, 1, none⟩ = false := b.frozen 1
  have f2 : w.frozen? ⟨g, 2, none⟩ = false := b.frozen 2
  have f4 : w.frozen? ⟨g, 4, none⟩ = false := b.frozen 4
  have k1' : (k < 1) = False := eq_false (by omega)
  have k2' : (7 < k) = False := eq_false (by omega)
  clear b mw e1 e2 h1 h2
  generalize oddT k = ot at *
  go_enter Try.func40, Try.ntmps40
  go_wp2_with fail
  refine hos.mono ?_
  clear hos
  rintro ex w9 ⟨rfl, rfl⟩
  go_wp2
  go_ret
  exact ⟨rfl, chg_set (chg_set (chg_set (Chg.refl _ _) _ _) _ _) _ _, unhide fin⟩
end Go.Proofs.Qxb6500365a
