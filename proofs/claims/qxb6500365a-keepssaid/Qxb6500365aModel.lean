/-
  THE ABSTRACT GATE. (gen65m.py)
-/
import Derived.Test.Qxb6500365aReal4
namespace Go.Proofs.Qxb6500365a
open Go.RowKit Go.Qx Ieee
set_option linter.unusedVariables false
set_option linter.unusedSimpArgs false

def tickM (d num den bad : Int) : Int × Int := if bad ≠ 0 then (0, bad) else if num * d > 1000000000000 * den ∨ num * d < -1000000000000 * den then (0, 8) else (roundDiv (num * d) den, 0)
def cellsM (S : GS) (num den bad : Int) : List Value := [.int .i64 S.d, .int .i64 num, .int .i64 den, .int .i64 S.q, .int .i64 bad, .int .i64 S.n, .int .i64 S.s, .int .i64 S.v, .int .i64 S.k]
structure MW (S : GS) (num den bad : Int) : Prop where
  tick : tickM S.d num den bad = (S.t, S.e)
  den1 : 1 ≤ den
  den2 : den ≤ 65536
  num1 : num.natAbs ≤ 140737488355328
/-- The abstract gate at m. -/
def RepM (w : World) (m : Nat) (S : GS) : Prop := ∃ num den bad, Blk w m 64 (cellsM S num den bad) ∧ MW S num den bad
theorem RepM.of_chg {w w' : World} {g : Nat} {S : GS} {T : Nat → Prop} (h : RepM w g S) (c : Chg T w w') (hT : ¬ T g) : RepM w' g S := by
  obtain ⟨a, b, d, bb, r⟩ := h
  exact ⟨a, b, d, c.blk bb hT, r⟩
theorem RepM.quiet {w w' : World} {g : Nat} {S : GS} (h : RepM w g S) (c : Quiet w w') : RepM w' g S := h.of_chg c id
theorem RepM.lt {w : World} {g : Nat} {S : GS} (h : RepM w g S) : g < w.heap.size := by
  obtain ⟨a, b, d, bb, r⟩ := h
  exact bb.lt

theorem wrap64_ok (x : Int) (h1 : -9223372036854775808 ≤ x) (h2 : x ≤ 9223372036854775807) : wrap64 x = x := by unfold wrap64; omega
theorem abs_any (w : World) (n : Int) (h : -9223372036854775808 < n) (h2 : n ≤ 9223372036854775807) : Calls Try.prog 35 #[.int .i64 n] w fun ex w' => ex = .returned (.int .i64 (n.natAbs : Int)) ∧ w' = w := by
  by_cases hn : n < 0
  · have hn' : (n < 0) = True := eq_true hn
    have e : Hid ((n.natAbs : Int) = -n) := by show _ = _; omega
    have w1 : wrap64 (-n) = -n := wrap64_ok _ (by omega) (by omega)
    have w2 : IntKind.i64.wrap (0 - n) = -n := by rw [IntKind.wrap_i64]; omega
    have w3 : wrap64 (0 - n) = -n := by rw [Int.zero_sub]; exact w1
    rw [unhide e]
    clear hn h h2 e
    go_enter Try.func35, Try.ntmps35
    go_wp2
    go_ret
    refine ⟨?_, rfl⟩
    show Ending.returned (Value.int .i64 (wrap64 (-n))) = _
    rw [w1]
  · have hn' : (n < 0) = False := eq_false hn
    have e : Hid ((n.natAbs : Int) = n) := by show _ = _; omega
    rw [unhide e]
    clear hn h h2 e
    go_enter Try.func35, Try.ntmps35
    go_wp2
    go_ret
    exact ⟨rfl, rfl⟩

set_option maxHeartbeats 1000000 in
theorem roundDiv_any (w : World) (n d : Int) (h1 : n.natAbs < 4611686018427387904) (h2 : 1 ≤ d) (h3 : d < 2305843009213693952) : Calls Try.prog 52 #[.int .i64 n, .int .i64 d] w fun ex w' => ex = .returned (.int .i64 (roundDiv n d)) ∧ w' = w := by
  have ha := abs_any w n (by omega) (by omega)
  have d1 : (d < 1) = False := eq_false (by omega)
  have d2 : (d == 0) = false := by simp; omega
  have d3 : (d == -1) = false := by simp; omega
  have d4 : (d = 0) = False := eq_false (by omega)
  have d5 : (d = -1) = False := eq_false (by omega)
  have hrd : Hid (roundDiv n d = (if n < 0 then -1 else 1) * ((n.natAbs : Int) / d + if 2 * ((n.natAbs : Int) % d) ≥ d then 1 else 0)) := by show _ = _; unfold roundDiv; rw [if_neg (by omega)]
  obtain ⟨A, hA⟩ : ∃ A : Int, (n.natAbs : Int) = A := ⟨_, rfl⟩
  have A0 : 0 ≤ A := by omega
  rw [hA] at ha hrd
  have q0 : 0 ≤ A / d := Int.ediv_nonneg A0 (by omega)
  have q1 : A / d ≤ A := Int.ediv_le_self _ A0
  have m0 := Int.emod_nonneg A (b := d) (by omega)
  have m1 := Int.emod_lt_of_pos A (b := d) (by omega)
  have t1 : A.tdiv d = A / d := Int.tdiv_eq_ediv_of_nonneg A0
  have t2 : A.tmod d = A % d := Int.tmod_eq_emod_of_nonneg A0
  generalize A / d = Q at *
  generalize A % d = R at *
  have w1 : IntKind.i64.wrap (2 * R) = 2 * R := by rw [IntKind.wrap_i64]; omega
  have w2 : IntKind.i64.wrap (Q + 1) = Q + 1 := by rw [IntKind.wrap_i64]; omega
  have w3 : wrap64 (2 * R) = 2 * R := wrap64_ok _ (by omega) (by omega)
  have w4 : wrap64 (Q + 1) = Q + 1 := wrap64_ok _ (by omega) (by omega)
  have w5 : wrap64 (0 - (Q + 1)) = -(Q + 1) := by rw [Int.zero_sub]; exact wrap64_ok _ (by omega) (by omega)
  have w6 : wrap64 (0 - Q) = -Q := by rw [Int.zero_sub]; exact wrap64_ok _ (by omega) (by omega)
  have w7 : wrap64 Q = Q := wrap64_ok _ (by omega) (by omega)
  have w8 : IntKind.i64.wrap Q = Q := by rw [IntKind.wrap_i64]; omega
  have w9 : IntKind.i64.wrap (0 - (Q + 1)) = -(Q + 1) := by rw [IntKind.wrap_i64]; omega
  have w10 : IntKind.i64.wrap (0 - Q) = -Q := by rw [IntKind.wrap_i64]; omega
  have bQ : 0 ≤ Q ∧ Q < 4611686018427387904 := by omega
  by_cases hr : 2 * R ≥ d
  · have hr' : (d ≤ 2 * R) = True := eq_true hr
    by_cases hn : n < 0
    · have hn' : (n < 0) = True := eq_true hn
      have fin : Hid (roundDiv n d = -(Q + 1)) := by show _ = _; rw [unhide hrd, if_pos hr, if_pos hn]; omega
      rw [unhide fin]
      clear hn hr hA hrd fin q0 q1 m0 m1 A0 h1 h2 h3 bQ
      go_enter Try.func52, Try.ntmps52
      go_wp2_with fail
      refine ha.mono ?_
      clear ha
      rintro ex w9 ⟨rfl, rfl⟩
      go_wp2
      go_ret
      first
        | exact ⟨rfl, rfl⟩
        | (refine ⟨?_, rfl⟩; show Ending.returned (Value.int .i64 (wrap64 (-(Q + 1)))) = _; rw [← Int.zero_sub, w5, Int.zero_sub])
        | (refine ⟨?_, rfl⟩; show Ending.returned (Value.int .i64 (wrap64 (-Q))) = _; rw [← Int.zero_sub, w6, Int.zero_sub])
    · have hn' : (n < 0) = False := eq_false hn
      have fin : Hid (roundDiv n d = Q + 1) := by show _ = _; rw [unhide hrd, if_pos hr, if_neg hn]; omega
      rw [unhide fin]
      clear hn hr hA hrd fin q0 q1 m0 m1 A0 h1 h2 h3 bQ
      go_enter Try.func52, Try.ntmps52
      go_wp2_with fail
      refine ha.mono ?_
      clear ha
      rintro ex w9 ⟨rfl, rfl⟩
      go_wp2
      go_ret
      first
        | exact ⟨rfl, rfl⟩
        | (refine ⟨?_, rfl⟩; show Ending.returned (Value.int .i64 (wrap64 (-(Q + 1)))) = _; rw [← Int.zero_sub, w5, Int.zero_sub])
        | (refine ⟨?_, rfl⟩; show Ending.returned (Value.int .i64 (wrap64 (-Q))) = _; rw [← Int.zero_sub, w6, Int.zero_sub])
  · have hr' : (d ≤ 2 * R) = False := eq_false hr
    by_cases hn : n < 0
    · have hn' : (n < 0) = True := eq_true hn
      have fin : Hid (roundDiv n d = -Q) := by show _ = _; rw [unhide hrd, if_neg hr, if_pos hn]; omega
      rw [unhide fin]
      clear hn hr hA hrd fin q0 q1 m0 m1 A0 h1 h2 h3 bQ
      go_enter Try.func52, Try.ntmps52
      go_wp2_with fail
      refine ha.mono ?_
      clear ha
      rintro ex w9 ⟨rfl, rfl⟩
      go_wp2
      go_ret
      first
        | exact ⟨rfl, rfl⟩
        | (refine ⟨?_, rfl⟩; show Ending.returned (Value.int .i64 (wrap64 (-(Q + 1)))) = _; rw [← Int.zero_sub, w5, Int.zero_sub])
        | (refine ⟨?_, rfl⟩; show Ending.returned (Value.int .i64 (wrap64 (-Q))) = _; rw [← Int.zero_sub, w6, Int.zero_sub])
    · have hn' : (n < 0) = False := eq_false hn
      have fin : Hid (roundDiv n d = Q) := by show _ = _; rw [unhide hrd, if_neg hr, if_neg hn]; omega
      rw [unhide fin]
      clear hn hr hA hrd fin q0 q1 m0 m1 A0 h1 h2 h3 bQ
      go_enter Try.func52, Try.ntmps52
      go_wp2_with fail
      refine ha.mono ?_
      clear ha
      rintro ex w9 ⟨rfl, rfl⟩
      go_wp2
      go_ret
      first
        | exact ⟨rfl, rfl⟩
        | (refine ⟨?_, rfl⟩; show Ending.returned (Value.int .i64 (wrap64 (-(Q + 1)))) = _; rw [← Int.zero_sub, w5, Int.zero_sub])
        | (refine ⟨?_, rfl⟩; show Ending.returned (Value.int .i64 (wrap64 (-Q))) = _; rw [← Int.zero_sub, w6, Int.zero_sub])

set_option maxHeartbeats 1000000 in
theorem mticks_any (w : World) (m : Nat) (S : GS) (R : RepM w m S) (I : Inv S) :
    Calls Try.prog 43 #[.pointer (some ⟨m, 0, none⟩)] w fun ex w' => ex = .returned (.tuple #[.int .i64 S.t, .int .i64 S.e]) ∧ Quiet w w' := by
  obtain ⟨num, den, bad, b, ⟨htk, den1, den2, num1⟩⟩ := R
  have id1 : 1 ≤ S.d ∧ S.d ≤ 10000 := by have := I.ten; unfold Ten at this; omega
  obtain ⟨d, t, e, q, n, s, v, k⟩ := S
  dsimp only at *
  unfold cellsM at b
  dsimp only at b
  have c0 : w.cell? ⟨m, 0, none⟩ = some (.int .i64 d) := b.cell 0
  have c1 : w.cell? ⟨m, 1, none⟩ = some (.int .i64 num) := b.cell 1
  have c2 : w.cell? ⟨m, 2, none⟩ = some (.int .i64 den) := b.cell 2
  have c4 : w.cell? ⟨m, 4, none⟩ = some (.int .i64 bad) := b.cell 4
  clear b I
  have htk' := htk.symm
  unfold tickM at htk'
  by_cases hb : bad = 0
  · rw [if_neg (fun h => h hb)] at htk'
    subst hb
    have hP : (num * d).natAbs ≤ 140737488355328 * 10000 := by rw [Int.natAbs_mul]; exact Nat.mul_le_mul num1 (by omega)
    have hrd := fun W => roundDiv_any W (num * d) den (by omega) den1 (by omega)
    obtain ⟨P, hPe⟩ : ∃ P, num * d = P := ⟨_, rfl⟩
    have wp1 : IntKind.i64.wrap (num * d) = P := by rw [hPe] at hP ⊢; rw [IntKind.wrap_i64]; omega
    have wp2 : wrap64 (num * d) = P := by rw [hPe] at hP ⊢; exact wrap64_ok _ (by omega) (by omega)
    rw [hPe] at htk' hP hrd
    clear htk hPe
    have wd1 : wrap64 (1000000000000 * den) = 1000000000000 * den := wrap64_ok _ (by omega) (by omega)
    have wd2 : wrap64 (-1000000000000 * den) = -1000000000000 * den := wrap64_ok _ (by omega) (by omega)
    have wd3 : IntKind.i64.wrap (1000000000000 * den) = 1000000000000 * den := by rw [IntKind.wrap_i64]; omega
    have wd4 : IntKind.i64.wrap (-1000000000000 * den) = -1000000000000 * den := by rw [IntKind.wrap_i64]; omega
    by_cases h1 : P > 1000000000000 * den
    · rw [if_pos (.inl h1)] at htk'
      obtain ⟨rfl, rfl⟩ := Prod.mk.inj htk'
      have h1' : (1000000000000 * den < P) = True := eq_true h1
      clear h1 htk' hrd den1 den2 num1 id1 hP
      go_enter Try.func43, Try.ntmps43
      go_wp2
      go_quiet (fail)
      go_wp2
      go_ret2
      exact ⟨rfl, (Chg.refl _ _).drewN _⟩
    · have h1' : (1000000000000 * den < P) = False := eq_false h1
      by_cases h2 : P < -1000000000000 * den
      · rw [if_pos (.inr h2)] at htk'
        obtain ⟨rfl, rfl⟩ := Prod.mk.inj htk'
        have h2' : (P < -1000000000000 * den) = True := eq_true h2
        clear h1 h2 htk' hrd den1 den2 num1 id1 hP
        go_enter Try.func43, Try.ntmps43
        go_wp2
        go_quiet (fail)
        go_wp2
        go_ret2
        exact ⟨rfl, (Chg.refl _ _).drewN _⟩
      · rw [if_neg (fun h => h.elim h1 h2)] at htk'
        obtain ⟨rfl, rfl⟩ := Prod.mk.inj htk'
        have h2' : (P < -1000000000000 * den) = False := eq_false h2
        have hrH := hide hrd
        clear h1 h2 htk' hrd den1 den2 num1 id1 hP
        go_enter Try.func43, Try.ntmps43
        go_wp2
        go_quiet (fail)
        go_wp2_with fail
        refine (unhide hrH _).mono ?_
        rintro ex w9 ⟨rfl, rfl⟩
        go_wp2
        go_ret2
        exact ⟨rfl, (Chg.refl _ _).drewN _⟩
  · rw [if_pos hb] at htk'
    obtain ⟨rfl, rfl⟩ := Prod.mk.inj htk'
    have hb1 : (e == 0) = false := by simpa using hb
    have hb2 : (e = 0) = False := eq_false hb
    clear hb htk htk' den1 den2 num1 id1
    go_enter Try.func43, Try.ntmps43
    go_wp2
    go_quiet (fail)
    go_wp2
    go_ret2
    exact ⟨rfl, (Chg.refl _ _).drewN _⟩
end Go.Proofs.Qxb6500365a
