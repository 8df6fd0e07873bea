/-
  THE MODEL's Pow AND THE REAL pow: by squaring.
-/
import Derived.Test.Qxb6500368aPlain
import Derived.Laws.Bits64b
namespace Go.Proofs.Qxb6500368a
open Go.RowKit Go.Qx
set_option linter.unusedVariables false
set_option linter.unusedSimpArgs false

/-- By squaring: r * a ^ e. -/
def sqP : Nat → Int → Int → Nat → Int
  | 0, r, _, _ => r
  | f + 1, r, a, e => if e = 0 then r else sqP f (if e % 2 = 1 then r * a % pP else r) (a * a % pP) (e / 2)

theorem sq_stop (f : Nat) (r a : Int) : sqP f r a 0 = r := by cases f <;> rfl

theorem sq_step (f : Nat) (r a : Int) (e : Nat) (h : e ≠ 0) : sqP (f + 1) r a e = sqP f (if e % 2 = 1 then r * a % pP else r) (a * a % pP) (e / 2) := by
  show (if e = 0 then r else _) = _
  rw [if_neg h]

attribute [irreducible] sqP

theorem half_lt {d : Nat} (h : ¬ d = 0) : d / 2 < d := by omega

theorem half_facts {d g : Nat} (h : ¬ d = 0) (hd : d < 2 ^ (g + 1)) (hb : d < 2147483648) : wrap64 ((d / 2 : Nat) : Int) = ((d / 2 : Nat) : Int) ∧ ((d % 2 = 1 → (d : Int).tmod 2 = 1) ∧ (¬ d % 2 = 1 → (d : Int).tmod 2 = 0)) ∧ (d : Int).tdiv 2 = ((d / 2 : Nat) : Int) ∧ d / 2 < d ∧ d / 2 < 2 ^ g ∧ d / 2 < 2147483648 := by
  have e1 : (d : Int).tmod 2 = (d : Int) % 2 := Int.tmod_eq_emod_of_nonneg (by omega)
  have e2 : (d : Int).tdiv 2 = (d : Int) / 2 := Int.tdiv_eq_ediv_of_nonneg (by omega)
  rw [e1, e2]
  have e3 : 2 ^ (g + 1) = 2 * 2 ^ g := by rw [Nat.pow_succ]; omega
  refine ⟨by unfold wrap64; omega, ⟨by omega, by omega⟩, by omega, by omega, by omega, by omega⟩

theorem lt_31 {d f : Nat} (h : d < 2 ^ f) (hf : f ≤ 31) : d < 2147483648 := Nat.lt_of_lt_of_le h (Nat.pow_le_pow_right (by decide) hf)

theorem emod_small {a : Int} (h : 0 ≤ a ∧ a < pP) : a % pP = a := Int.emod_eq_of_lt h.1 h.2

theorem pow_any (w : World) (a : Int) (e : Nat) (ha : 0 ≤ a ∧ a < pP) (he : e < 1073741824) : Calls Try.prog 41 #[.int .i64 a, .int .i64 e] w fun r w' => r = .returned (.int .i64 (sqP 31 1 a e)) ∧ w' = w := by
  have e1 : a.tmod 998244353 = a := by rw [tmod_p ha.1]; exact emod_small ha
  go_enter Try.func41, Try.ntmps41
  go_wp2
  go_loopw [0, 1, 5] (fun x y z wr => ∃ (f : Nat) (b r : Int) (d : Nat), x = .int .i64 b ∧ y = .int .i64 d ∧ z = .int .i64 r ∧ (0 ≤ b ∧ b < pP) ∧ (0 ≤ r ∧ r < pP) ∧ d < 2 ^ f ∧ f ≤ 31 ∧ sqP f r b d = sqP 31 1 a e ∧ wr = w) (fun _ y _ _ => (intOf y).toNat)
  case atStart => exact ⟨31, a, 1, e, rfl, rfl, rfl, ha, by unfold pP; omega, by omega, by omega, rfl, rfl⟩
  case round =>
    obtain ⟨f, b, r, d, rfl, rfl, rfl, hb, hr, hd, hf, hs, hw⟩ := hrel
    subst hw
    have hdb := lt_31 hd hf
    have hsH := hide hs
    clear hs
    by_cases h0 : d = 0
    · subst h0
      clear e1
      go_wp2
      go_ret
      have hs := unhide hsH
      rw [sq_stop] at hs
      exact ⟨by rw [← hs]; rfl, rfl⟩
    · obtain ⟨g, rfl⟩ : ∃ g, f = g + 1 := ⟨f - 1, by
        cases f with
        | zero => simp at hd; omega
        | succ f => simp⟩
      obtain ⟨hf2, t1', t2, m0, hd2, hsm⟩ := half_facts h0 hd hdb
      have p1 := mul_lt hb hb
      have p2 := mul_lt hr hb
      have w1 : wrap64 (b * b) = b * b := by unfold wrap64; omega
      have w2 : wrap64 (r * b) = r * b := by unfold wrap64; omega
      have m1 : (b * b).tmod 998244353 = b * b % pP := tmod_p p1.1
      have m2 : (r * b).tmod 998244353 = r * b % pP := tmod_p p2.1
      have d0 : (0 : Int) < (d : Int) := Int.natCast_pos.2 (Nat.pos_of_ne_zero h0)
      have n1 := hide (emod_in (b * b))
      have n2 := hide (emod_in (r * b))
      have e2 := hide ((sq_step g r b d h0).symm.trans (unhide hsH))
      generalize hh : d / 2 = h at *
      have w3 : wrap64 (h : Int) = (h : Int) := hf2
      have mH := hide (And.intro m0 (And.intro hd2 hf))
      clear hh m0 hd2 hf2 hsm hdb hf hd
      by_cases hodd : d % 2 = 1
      · simp only [if_pos hodd] at e2
        have t1 := t1'.1 hodd
        have eH := e2
        clear e2 e1 hsH t1' hodd
        generalize b * b % pP = B at *
        generalize r * b % pP = R at *
        go_wp2
        obtain ⟨m1, m2, m3⟩ := unhide mH
        go_roundw
        case rel => exact ⟨g, B, R, h, rfl, by rw [w3], rfl, unhide n1, unhide n2, m2, Nat.le_of_succ_le m3, unhide eH, by trivial⟩
        case measure => rw [w3]; simpa [intOf] using m1
      · simp only [if_neg hodd] at e2
        have t1 := t1'.2 hodd
        have eH := e2
        clear e2 e1 hsH t1' hodd
        generalize b * b % pP = B at *
        go_wp2
        obtain ⟨m1, m2, m3⟩ := unhide mH
        go_roundw
        case rel => exact ⟨g, B, r, h, rfl, by rw [w3], rfl, unhide n1, hr, m2, Nat.le_of_succ_le m3, unhide eH, by trivial⟩
        case measure => rw [w3]; simpa [intOf] using m1

theorem bits_and_i64_nat (a b : Nat) (ha : a < 9223372036854775808) (hb : b < 9223372036854775808) : bits .and .i64 (a : Int) (b : Int) = ((a &&& b : Nat) : Int) := by
  have hx : a &&& b < 2 ^ 63 := Nat.and_lt_two_pow _ (by omega)
  have h1 : (BitVec.ofInt 64 (a : Int)).toNat = a := by
    rw [BitVec.ofInt_natCast, BitVec.toNat_ofNat]; exact Nat.mod_eq_of_lt (by omega)
  have h2 : (BitVec.ofInt 64 (b : Int)).toNat = b := by
    rw [BitVec.ofInt_natCast, BitVec.toNat_ofNat]; exact Nat.mod_eq_of_lt (by omega)
  show IntKind.i64.wrap ((BitVec.ofInt 64 (a : Int) &&& BitVec.ofInt 64 (b : Int)).toNat : Int) = _
  rw [BitVec.toNat_and, h1, h2, IntKind.wrap_i64]
  omega

theorem and_one_i64 (d : Nat) (h : d < 9223372036854775808) : bits BinOp.and IntKind.i64 (d : Int) 1 = ((d % 2 : Nat) : Int) := by
  have h1 := bits_and_i64_nat d 1 h (by decide)
  rw [Nat.and_one_is_mod] at h1
  exact h1

set_option maxHeartbeats 1000000 in
theorem rpow_any (w : World) (x v : Nat) (n rt it nv : Nat → Int) (wk : Nat) (B : Blk w x 47 (benchC v n rt it nv wk)) (hw : wk < 1000) (a : Int) (e : Nat) (ha : 0 ≤ a ∧ a < pP) (he : e < 1073741824) :
    Calls Try.prog 14 #[ptr x, .int .u64 a, .int .i64 e] w fun r w' => r = .returned (.int .u64 (sqP 31 1 a e)) ∧ Chg (fun k => k = x) w w' ∧ ∃ wk' : Nat, wk' ≤ wk + 62 ∧ Blk w' x 47 (benchC v n rt it nv wk') := by
  have BH := hide B
  clear B
  unfold ptr
  go_enter Try.func14, Try.ntmps14
  go_wp2
  go_loopw [1, 2, 7] (fun x1 y z wr => ∃ (f : Nat) (b r : Int) (d wk' : Nat), x1 = .int .u64 b ∧ y = .int .i64 d ∧ z = .int .u64 r ∧ (0 ≤ b ∧ b < pP) ∧ (0 ≤ r ∧ r < pP) ∧ d < 2 ^ f ∧ f ≤ 31 ∧ sqP f r b d = sqP 31 1 a e ∧ wk' + 2 * f ≤ wk + 62 ∧ Chg (fun k => k = x) w wr ∧ Blk wr x 47 (benchC v n rt it nv wk')) (fun _ y _ _ => (intOf y).toNat)
  case atStart => exact ⟨31, a, 1, e, wk, rfl, rfl, rfl, ha, by unfold pP; omega, by omega, by omega, rfl, by omega, Chg.refl _ _, unhide BH⟩
  case round =>
    obtain ⟨f, b, r, d, wk', rfl, rfl, rfl, hb, hr, hd, hf, hs, hwk, ch, B⟩ := hrel
    have hdb := lt_31 hd hf
    have hsH := hide hs
    have chH := hide ch
    clear hs ch BH
    by_cases h0 : d = 0
    · subst h0
      have BH := hide B
      clear B
      go_wp2
      go_ret
      have hs := unhide hsH
      rw [sq_stop] at hs
      exact ⟨by rw [← hs]; rfl, unhide chH, wk', by omega, unhide BH⟩
    · obtain ⟨g, rfl⟩ : ∃ g, f = g + 1 := ⟨f - 1, by
        cases f with
        | zero => simp at hd; omega
        | succ f => simp⟩
      obtain ⟨hf2, t1', t2, m0, hd2, hsm⟩ := half_facts h0 hd hdb
      have d0 : (0 : Int) < (d : Int) := Int.natCast_pos.2 (Nat.pos_of_ne_zero h0)
      have n1 := emod_in (b * b)
      have n2 := emod_in (r * b)
      have e2 := hide ((sq_step g r b d h0).symm.trans (unhide hsH))
      have ba := and_one_i64 d (by omega)
      by_cases hodd : d % 2 = 1
      · simp only [if_pos hodd] at e2
        rw [hodd] at ba
        have h1 := hide (mul_any wr x v n rt it nv wk' B (by omega) r b hr hb)
        have B1 := B.set 25 (.int .i64 ((wk' : Int) + 1))
        rw [set_wk] at B1
        have h2 := hide (mul_any _ x v n rt it nv (wk' + 1) B1 (by omega) b b hb hb)
        have B2 := B1.set 25 (.int .i64 ((wk' : Int) + 1 + 1))
        rw [set_wk] at B2
        have fin : Hid (Chg (fun k => k = x) w ((wr.setCell ⟨x, 25, none⟩ (.int .i64 ((wk' : Int) + 1))).setCell ⟨x, 25, none⟩ (.int .i64 ((wk' : Int) + 1 + 1))) ∧ Blk ((wr.setCell ⟨x, 25, none⟩ (.int .i64 ((wk' : Int) + 1))).setCell ⟨x, 25, none⟩ (.int .i64 ((wk' : Int) + 1 + 1))) x 47 (benchC v n rt it nv ((wk' + 2 : Nat) : Int))) :=
          ⟨((unhide chH).setCell (p := ⟨x, 25, none⟩) (.inl rfl) _).setCell (p := ⟨x, 25, none⟩) (.inl rfl) _, B2⟩
        have eH := e2
        have mH := hide (And.intro m0 (And.intro hd2 (And.intro hf hwk)))
        generalize hh : d / 2 = h at *
        have hhH : Hid ((d : Int) / 2 = (h : Int)) := by show _ = _; omega
        clear e2 hsH t1' t2 hodd B B1 B2 m0 hd2 hf2 hsm hdb hf hd hh hwk hb hr
        have n1H := hide n1
        have n2H := hide n2
        clear n1 n2
        generalize b * b % pP = BB at *
        generalize r * b % pP = R at *
        unfold ptr at *
        go_wp2_with fail
        refine (unhide h1).mono ?_
        rintro e w1 ⟨rfl, rfl⟩
        go_wp2_with fail
        refine (unhide h2).mono ?_
        rintro e w2 ⟨rfl, rfl⟩
        go_wp2
        obtain ⟨m1, m2, m3, m4⟩ := unhide mH
        go_roundw
        case rel => exact ⟨g, BB, R, h, wk' + 2, rfl, by rw [unhide hhH], rfl, unhide n1H, unhide n2H, m2, Nat.le_of_succ_le m3, unhide eH, by omega, (unhide fin).1, (unhide fin).2⟩
        case measure => rw [unhide hhH]; simpa [intOf] using m1
      · simp only [if_neg hodd] at e2
        rw [show d % 2 = 0 by omega] at ba
        have h1 := hide (mul_any wr x v n rt it nv wk' B (by omega) b b hb hb)
        have B1 := B.set 25 (.int .i64 ((wk' : Int) + 1))
        rw [set_wk] at B1
        have fin : Hid (Chg (fun k => k = x) w (wr.setCell ⟨x, 25, none⟩ (.int .i64 ((wk' : Int) + 1))) ∧ Blk (wr.setCell ⟨x, 25, none⟩ (.int .i64 ((wk' : Int) + 1))) x 47 (benchC v n rt it nv ((wk' + 1 : Nat) : Int))) :=
          ⟨(unhide chH).setCell (p := ⟨x, 25, none⟩) (.inl rfl) _, B1⟩
        have eH := e2
        have hrH := hide hr
        have mH := hide (And.intro m0 (And.intro hd2 (And.intro hf hwk)))
        generalize hh : d / 2 = h at *
        have hhH : Hid ((d : Int) / 2 = (h : Int)) := by show _ = _; omega
        clear e2 hsH t1' t2 hodd B B1 m0 hd2 hf2 hsm hdb hf hd hh hwk hb hr
        have n1H := hide n1
        have n2H := hide n2
        clear n1 n2
        generalize b * b % pP = BB at *
        unfold ptr at *
        go_wp2_with fail
        refine (unhide h1).mono ?_
        rintro e w1 ⟨rfl, rfl⟩
        go_wp2
        obtain ⟨m1, m2, m3, m4⟩ := unhide mH
        go_roundw
        case rel => exact ⟨g, BB, r, h, wk' + 1, rfl, by rw [unhide hhH], rfl, unhide n1H, unhide hrH, m2, Nat.le_of_succ_le m3, unhide eH, by omega, (unhide fin).1, (unhide fin).2⟩
        case measure => rw [unhide hhH]; simpa [intOf] using m1
end Go.Proofs.Qxb6500368a
