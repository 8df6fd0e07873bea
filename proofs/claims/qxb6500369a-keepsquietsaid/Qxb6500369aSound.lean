/-
  The real ring: sound.
-/
import Derived.Test.Qxb6500369aNode
namespace Go.Proofs.Qxb6500369a
open Go.RowKit Go.Qx
set_option linter.unusedSimpArgs false
set_option linter.unusedVariables false

set_option maxRecDepth 100000 in
set_option maxHeartbeats 16000000 in
theorem sound_any (w : World) (c : N5) (mode : Int) (hm : mode = -1 ∨ mode = 0 ∨ mode = 1) (h : Ok5 mode c) : Calls Try.prog 50 #[rcV c, .int .i64 mode] w fun e w' => e = .returned (.bool true) ∧ Quiet w w' := by
  obtain ⟨id, st, lead, reach, got⟩ := c
  obtain ⟨h1, h2, h3, h4, h5, h6, h7, h8, h9⟩ := h
  simp only at h1 h2 h3 h4 h5 h6 h7
  clear h8 h9
  unfold rcV
  simp only
  have q0 : Quiet w w := Chg.refl _ _
  have n0 : bits BinOp.andNot IntKind.u8 0 4 = 0 := by decide
  have n1 : bits BinOp.andNot IntKind.u8 1 4 = 1 := by decide
  have n2 : bits BinOp.andNot IntKind.u8 2 4 = 2 := by decide
  have n4 : bits BinOp.andNot IntKind.u8 4 4 = 0 := by decide
  have n5 : bits BinOp.andNot IntKind.u8 5 4 = 1 := by decide
  have n6 : bits BinOp.andNot IntKind.u8 6 4 = 2 := by decide
  have a0 : bits BinOp.and IntKind.u8 0 4 = 0 := by decide
  have a1 : bits BinOp.and IntKind.u8 1 4 = 0 := by decide
  have a2 : bits BinOp.and IntKind.u8 2 4 = 0 := by decide
  have si : (id == id) = true := by simp
  have sn : (id != id) = false := by simp
  rcases hm with rfl | rfl | rfl
  · obtain ⟨rfl, rfl, rfl, rfl⟩ := h6 rfl
    clear h1 h2 h3 h4 h5 h6 h7
    go_enter Try.func50, Try.ntmps50
    go_wp2
    go_ret
    exact ⟨rfl, (Chg.refl _ _).alloc _⟩
  · obtain ⟨h7, rfl⟩ := h7 rfl
    have h3' : reach = 0 ∨ reach = 1 := by omega
    clear h3 h7 h2 h6
    rcases h1 with rfl | rfl | rfl
    · obtain rfl := h4 rfl
      clear h4 h5
      rcases h3' with rfl | rfl
      all_goals
        go_enter Try.func50, Try.ntmps50
        go_wp2
        go_ret
        exact ⟨rfl, (Chg.refl _ _).alloc _⟩
    · clear h4 h5
      rcases h3' with rfl | rfl
      all_goals
        go_enter Try.func50, Try.ntmps50
        go_wp2
        go_ret
        exact ⟨rfl, (Chg.refl _ _).alloc _⟩
    · obtain rfl := h5 rfl
      clear h4 h5
      rcases h3' with rfl | rfl
      all_goals
        go_enter Try.func50, Try.ntmps50
        go_wp2
        go_ret
        exact ⟨rfl, (Chg.refl _ _).alloc _⟩
  · clear h6 h7
    rcases h1 with rfl | rfl | rfl
    · obtain rfl := h4 rfl
      clear h4 h5
      rcases h2 with rfl | rfl <;> rcases h3 with rfl | rfl | rfl | rfl | rfl
      all_goals
        go_enter Try.func50, Try.ntmps50
        go_wp2
        go_ret
        exact ⟨rfl, (Chg.refl _ _).alloc _⟩
    · clear h4 h5
      rcases h2 with rfl | rfl <;> rcases h3 with rfl | rfl | rfl | rfl | rfl
      all_goals
        go_enter Try.func50, Try.ntmps50
        go_wp2
        go_ret
        exact ⟨rfl, (Chg.refl _ _).alloc _⟩
    · obtain rfl := h5 rfl
      clear h4 h5
      rcases h2 with rfl | rfl <;> rcases h3 with rfl | rfl | rfl | rfl | rfl
      all_goals
        go_enter Try.func50, Try.ntmps50
        go_wp2
        go_ret
        exact ⟨rfl, (Chg.refl _ _).alloc _⟩
end Go.Proofs.Qxb6500369a
