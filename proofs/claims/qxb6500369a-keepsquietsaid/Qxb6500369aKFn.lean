/-
  369 Keeps: api.To, Worst, Log2Ceil, Bound; ringlaw.Facts.
-/
import Derived.Test.Qxb6500369aKDel2
import Derived.Test.Qxb6500369aKSay
import Derived.Test.Qxb6500369aShow
namespace Go.Proofs.Qxb6500369a
open Go.RowKit Go.Qx
set_option linter.unusedSimpArgs false
set_option linter.unusedVariables false

set_option maxRecDepth 100000 in
theorem worst_fn (w : World) (a i : Int) (h1 : -9223372036854775808 ≤ a - i) (h2 : a - i ≤ 9223372036854775807) : Calls Try.prog 28 #[.int .i64 a, .int .i64 i] w fun e w' => e = .returned (.int .i64 (a - i)) ∧ w' = w := by
  have hw : IntKind.i64.wrap (a - i) = a - i := by rw [IntKind.wrap_i64]; omega
  go_enter Try.func28, Try.ntmps28
  go_wp2
  go_ret
  first
    | exact ⟨rfl, rfl⟩
    | (refine ⟨?_, rfl⟩; simp [hw])

set_option maxHeartbeats 4000000 in
set_option maxRecDepth 100000 in
theorem to_any (w : World) (n l : Nat) (hn : 0 < n) (h8 : n ≤ 8) (hl : l < 2 * n) : Calls Try.prog 24 #[.int .i64 n, .int .i64 l] w fun e w' => e = .returned (.int .i64 (toP n l : Nat)) ∧ w' = w := by
  rcases (by omega : n = 1 ∨ n = 2 ∨ n = 3 ∨ n = 4 ∨ n = 5 ∨ n = 6 ∨ n = 7 ∨ n = 8) with rfl | rfl | rfl | rfl | rfl | rfl | rfl | rfl
  all_goals
    have i0 : ((l : Int) < 0) = False := eq_false (by omega)
    rcases (by omega : l = 0 ∨ l = 1 ∨ l = 2 ∨ l = 3 ∨ l = 4 ∨ l = 5 ∨ l = 6 ∨ l = 7 ∨ l = 8 ∨ l = 9 ∨ l = 10 ∨ l = 11 ∨ l = 12 ∨ l = 13 ∨ l = 14 ∨ l = 15) with rfl | rfl | rfl | rfl | rfl | rfl | rfl | rfl | rfl | rfl | rfl | rfl | rfl | rfl | rfl | rfl
    all_goals first
      | (exfalso; omega)
      | (clear i0 hl
         go_enter Try.func24, Try.ntmps24
         go_wp2
         go_ret
         exact ⟨rfl, rfl⟩)

set_option maxHeartbeats 4000000 in
set_option maxRecDepth 100000 in
theorem log_any (w : World) (n : Nat) (h8 : n ≤ 8) : Calls Try.prog 42 #[.int .i64 n] w fun e w' => e = .returned (.int .i64 (lg n : Nat)) ∧ w' = w := by
  go_enter Try.func42, Try.ntmps42
  go_wp2
  go_loopw [3, 4] (fun a b wr => wr = w ∧ ((a = .int .i64 0 ∧ b = .int .i64 1) ∨ (a = .int .i64 1 ∧ b = .int .i64 2 ∧ 1 < n) ∨ (a = .int .i64 2 ∧ b = .int .i64 4 ∧ 2 < n) ∨ (a = .int .i64 3 ∧ b = .int .i64 8 ∧ 4 < n))) (fun a _ _ => 4 - (intOf a).toNat)
  case atStart => exact ⟨rfl, .inl ⟨rfl, rfl⟩⟩
  case round =>
    obtain ⟨rfl, ⟨rfl, rfl⟩ | ⟨rfl, rfl, hn⟩ | ⟨rfl, rfl, hn⟩ | ⟨rfl, rfl, hn⟩⟩ := hrel
    · by_cases h : 1 < n
      · have h1 : ((1 : Int) < (n : Int)) = True := eq_true (by omega)
        go_wp2
        go_roundw
        case rel => first | exact ⟨rfl, .inr (.inl ⟨rfl, rfl, h⟩)⟩ | exact ⟨trivial, .inr (.inl ⟨rfl, rfl, h⟩)⟩ | exact .inr (.inl ⟨rfl, rfl, h⟩)
        case measure => simp [intOf]
      · have h1 : ((1 : Int) < (n : Int)) = False := eq_false (by omega)
        have e : lg n = 0 := by unfold lg; rw [if_pos (by omega)]
        go_wp2
        go_ret
        exact ⟨by rw [e]; rfl, rfl⟩
    · by_cases h : 2 < n
      · have h1 : ((2 : Int) < (n : Int)) = True := eq_true (by omega)
        go_wp2
        go_roundw
        case rel => first | exact ⟨rfl, .inr (.inr (.inl ⟨rfl, rfl, h⟩))⟩ | exact ⟨trivial, .inr (.inr (.inl ⟨rfl, rfl, h⟩))⟩ | exact .inr (.inr (.inl ⟨rfl, rfl, h⟩))
        case measure => simp [intOf]
      · have h1 : ((2 : Int) < (n : Int)) = False := eq_false (by omega)
        have e : lg n = 1 := by unfold lg; rw [if_neg (by omega), if_pos (by omega)]
        go_wp2
        go_ret
        exact ⟨by rw [e]; rfl, rfl⟩
    · by_cases h : 4 < n
      · have h1 : ((4 : Int) < (n : Int)) = True := eq_true (by omega)
        go_wp2
        go_roundw
        case rel => first | exact ⟨rfl, .inr (.inr (.inr ⟨rfl, rfl, h⟩))⟩ | exact ⟨trivial, .inr (.inr (.inr ⟨rfl, rfl, h⟩))⟩ | exact .inr (.inr (.inr ⟨rfl, rfl, h⟩))
        case measure => simp [intOf]
      · have h1 : ((4 : Int) < (n : Int)) = False := eq_false (by omega)
        have e : lg n = 2 := by unfold lg; rw [if_neg (by omega), if_neg (by omega), if_pos (by omega)]
        go_wp2
        go_ret
        exact ⟨by rw [e]; rfl, rfl⟩
    · have h1 : ((8 : Int) < (n : Int)) = False := eq_false (by omega)
      have e : lg n = 3 := by unfold lg; rw [if_neg (by omega), if_neg (by omega), if_neg (by omega)]
      go_wp2
      go_ret
      exact ⟨by rw [e]; rfl, rfl⟩

def boundP (mode : Int) (n : Nat) : Int := if mode = 0 then n * (n + 1) / 2 + n else 8 * n * (lg n + 1) + n

set_option maxHeartbeats 4000000 in
set_option maxRecDepth 100000 in
theorem bound_any (w : World) (mode : Int) (n : Nat) (h8 : n ≤ 8) : Calls Try.prog 27 #[.int .i64 mode, .int .i64 n] w fun e w' => e = .returned (.int .i64 (boundP mode n)) ∧ w' = w := by
  have hl := log_any w n h8
  by_cases hm : mode = 0
  · subst hm
    clear hl
    rcases (by omega : n = 0 ∨ n = 1 ∨ n = 2 ∨ n = 3 ∨ n = 4 ∨ n = 5 ∨ n = 6 ∨ n = 7 ∨ n = 8) with rfl | rfl | rfl | rfl | rfl | rfl | rfl | rfl | rfl
    all_goals
      go_enter Try.func27, Try.ntmps27
      go_wp2
      go_ret
      exact ⟨rfl, rfl⟩
  · have b1 : (mode == 0) = false := by simpa using hm
    have e : Hid (boundP mode n = 8 * n * (lg n + 1) + n) := by show _ = _; unfold boundP; rw [if_neg hm]
    clear hm
    rcases (by omega : n = 0 ∨ n = 1 ∨ n = 2 ∨ n = 3 ∨ n = 4 ∨ n = 5 ∨ n = 6 ∨ n = 7 ∨ n = 8) with rfl | rfl | rfl | rfl | rfl | rfl | rfl | rfl | rfl
    · have hl2 : Calls Try.prog 42 #[.int .i64 0] w fun e w' => e = .returned (.int .i64 0) ∧ w' = w := hl
      have e3 : Hid (boundP mode 0 = 0) := by show _ = _; rw [unhide e]; rfl
      clear hl e
      go_enter Try.func27, Try.ntmps27
      go_wp2_with fail
      refine hl2.mono ?_
      clear hl2
      rintro e2 w' ⟨rfl, rfl⟩
      go_wp2
      go_ret
      exact ⟨by rw [unhide e3]; rfl, rfl⟩
    · have hl2 : Calls Try.prog 42 #[.int .i64 1] w fun e w' => e = .returned (.int .i64 0) ∧ w' = w := hl
      have e3 : Hid (boundP mode 1 = 9) := by show _ = _; rw [unhide e]; rfl
      clear hl e
      go_enter Try.func27, Try.ntmps27
      go_wp2_with fail
      refine hl2.mono ?_
      clear hl2
      rintro e2 w' ⟨rfl, rfl⟩
      go_wp2
      go_ret
      exact ⟨by rw [unhide e3]; rfl, rfl⟩
    · have hl2 : Calls Try.prog 42 #[.int .i64 2] w fun e w' => e = .returned (.int .i64 1) ∧ w' = w := hl
      have e3 : Hid (boundP mode 2 = 34) := by show _ = _; rw [unhide e]; rfl
      clear hl e
      go_enter Try.func27, Try.ntmps27
      go_wp2_with fail
      refine hl2.mono ?_
      clear hl2
      rintro e2 w' ⟨rfl, rfl⟩
      go_wp2
      go_ret
      exact ⟨by rw [unhide e3]; rfl, rfl⟩
    · have hl2 : Calls Try.prog 42 #[.int .i64 3] w fun e w' => e = .returned (.int .i64 2) ∧ w' = w := hl
      have e3 : Hid (boundP mode 3 = 75) := by show _ = _; rw [unhide e]; rfl
      clear hl e
      go_enter Try.func27, Try.ntmps27
      go_wp2_with fail
      refine hl2.mono ?_
      clear hl2
      rintro e2 w' ⟨rfl, rfl⟩
      go_wp2
      go_ret
      exact ⟨by rw [unhide e3]; rfl, rfl⟩
    · have hl2 : Calls Try.prog 42 #[.int .i64 4] w fun e w' => e = .returned (.int .i64 2) ∧ w' = w := hl
      have e3 : Hid (boundP mode 4 = 100) := by show _ = _; rw [unhide e]; rfl
      clear hl e
      go_enter Try.func27, Try.ntmps27
      go_wp2_with fail
      refine hl2.mono ?_
      clear hl2
      rintro e2 w' ⟨rfl, rfl⟩
      go_wp2
      go_ret
      exact ⟨by rw [unhide e3]; rfl, rfl⟩
    · have hl2 : Calls Try.prog 42 #[.int .i64 5] w fun e w' => e = .returned (.int .i64 3) ∧ w' = w := hl
      have e3 : Hid (boundP mode 5 = 165) := by show _ = _; rw [unhide e]; rfl
      clear hl e
      go_enter Try.func27, Try.ntmps27
      go_wp2_with fail
      refine hl2.mono ?_
      clear hl2
      rintro e2 w' ⟨rfl, rfl⟩
      go_wp2
      go_ret
      exact ⟨by rw [unhide e3]; rfl, rfl⟩
    · have hl2 : Calls Try.prog 42 #[.int .i64 6] w fun e w' => e = .returned (.int .i64 3) ∧ w' = w := hl
      have e3 : Hid (boundP mode 6 = 198) := by show _ = _; rw [unhide e]; rfl
      clear hl e
      go_enter Try.func27, Try.ntmps27
      go_wp2_with fail
      refine hl2.mono ?_
      clear hl2
      rintro e2 w' ⟨rfl, rfl⟩
      go_wp2
      go_ret
      exact ⟨by rw [unhide e3]; rfl, rfl⟩
    · have hl2 : Calls Try.prog 42 #[.int .i64 7] w fun e w' => e = .returned (.int .i64 3) ∧ w' = w := hl
      have e3 : Hid (boundP mode 7 = 231) := by show _ = _; rw [unhide e]; rfl
      clear hl e
      go_enter Try.func27, Try.ntmps27
      go_wp2_with fail
      refine hl2.mono ?_
      clear hl2
      rintro e2 w' ⟨rfl, rfl⟩
      go_wp2
      go_ret
      exact ⟨by rw [unhide e3]; rfl, rfl⟩
    · have hl2 : Calls Try.prog 42 #[.int .i64 8] w fun e w' => e = .returned (.int .i64 3) ∧ w' = w := hl
      have e3 : Hid (boundP mode 8 = 264) := by show _ = _; rw [unhide e]; rfl
      clear hl e
      go_enter Try.func27, Try.ntmps27
      go_wp2_with fail
      refine hl2.mono ?_
      clear hl2
      rintro e2 w' ⟨rfl, rfl⟩
      go_wp2
      go_ret
      exact ⟨by rw [unhide e3]; rfl, rfl⟩

set_option maxHeartbeats 4000000 in
set_option maxRecDepth 100000 in
theorem facts_any (w : World) : Calls Try.prog 7 #[] w fun e w' => e = .returned (.bool true) ∧ Quiet w w' := by
  have h1 := nodeText_any w ⟨1, 2, 3, 4, 5⟩ ⟨by unfold In64; simp, by unfold In64; simp, by unfold In64; simp, by unfold In64; simp, by unfold In64; simp⟩
  unfold mcV at h1
  dsimp only at h1
  go_enter Try.func7, Try.ntmps7
  go_wp2_with fail
  refine h1.mono ?_
  clear h1
  rintro e w1 ⟨rfl, q1⟩
  have h2 := itoa_any (-120) w1 (by omega) (by omega)
  go_wp2_with fail
  refine h2.mono ?_
  clear h2
  rintro e w2 ⟨rfl, q2⟩
  have e1 : str (textP ⟨1, 2, 3, 4, 5⟩) = ⟨#[49, 58, 50, 58, 51, 58, 52, 58, 53]⟩ := by rfl
  have e2 : str (itoa (-120)) = ⟨#[45, 49, 50, 48]⟩ := by rfl
  rw [e1, e2]
  go_wp2
  go_ret
  exact ⟨rfl, Quiet.trans q1 q2⟩
end Go.Proofs.Qxb6500369a
