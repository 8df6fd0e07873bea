/-
  Refines AND RefinesQuiet over the walk.
-/
import Derived.Test.Qxb6500367aWalk
import Derived.Test.Qxb6500367aScript
namespace Go.Proofs.Qxb6500367a
open Go.RowKit Go.Qx
set_option linter.unusedSimpArgs false
set_option linter.unusedVariables false

theorem refinesUpTo_any (w : World) (a : Option Addr) (len cap : Nat) (ops : List Opr) (ho : IsOps w a len cap ops) :
    Calls Try.prog 12 #[.slice a len cap] w fun e w' => e = .returned (.int .i64 (-1)) ∧ Below w.heap.size w w' := by
  go_enter Try.func12, Try.ntmps12
  go_wp2_with fail
  refine (walk_any w a len cap ops false ho).mono ?_
  rintro e w1 ⟨⟨n, rfl⟩, bel⟩
  go_wp2
  go_ret
  exact ⟨rfl, bel⟩

theorem refinesQuietUpTo_any (w : World) (a : Option Addr) (len cap : Nat) (ops : List Opr) (ho : IsOps w a len cap ops) :
    Calls Try.prog 13 #[.slice a len cap] w fun e w' => e = .returned (.int .i64 (-1)) ∧ Below w.heap.size w w' := by
  go_enter Try.func13, Try.ntmps13
  go_wp2_with fail
  refine (walk_any w a len cap ops true ho).mono ?_
  rintro e w1 ⟨⟨n, rfl⟩, bel⟩
  go_wp2
  go_ret
  exact ⟨rfl, bel⟩

theorem refines_any (w : World) (a : Option Addr) (len cap : Nat) (ops : List Opr) (ho : IsOps w a len cap ops) :
    Calls Try.prog 5 #[.slice a len cap] w fun e w' => e = .returned (.bool true) ∧ Below w.heap.size w w' := by
  go_enter Try.func5, Try.ntmps5
  go_wp2_with fail
  refine (refinesUpTo_any w a len cap ops ho).mono ?_
  rintro e w1 ⟨rfl, bel⟩
  go_wp2
  go_ret
  exact ⟨rfl, bel⟩

theorem refinesQuiet_any (w : World) (a : Option Addr) (len cap : Nat) (ops : List Opr) (ho : IsOps w a len cap ops) :
    Calls Try.prog 6 #[.slice a len cap] w fun e w' => e = .returned (.bool true) ∧ Below w.heap.size w w' := by
  go_enter Try.func6, Try.ntmps6
  go_wp2_with fail
  refine (refinesQuietUpTo_any w a len cap ops ho).mono ?_
  rintro e w1 ⟨rfl, bel⟩
  go_wp2
  go_ret
  exact ⟨rfl, bel⟩

/-- A script out of its steps. -/
theorem isOps_of (w : World) (a : Option Addr) (len cap : Nat) (hs : len ≤ 9223372036854775807) (q : Nat → Int × Int × Int × Int × ByteArray × ByteArray) (h : ∀ i, i < len → StepAt w a i (q i)) :
    ∃ ops, IsOps w a len cap ops := by
  refine ⟨(List.range len).map fun i => ⟨(q i).1, (q i).2.1, (q i).2.2.1, (q i).2.2.2.1, (q i).2.2.2.2.1, (q i).2.2.2.2.2⟩, by simp, hs, ?_⟩
  · intro i hi
    simp at hi
    obtain ⟨b, o, ha, hb, c0, c1, c2, c3, c4, c5, _⟩ := h i hi
    refine ⟨b, o, ha, hb, ?_⟩
    simp only [List.getElem_map, List.getElem_range]
    exact ⟨c0, c1, c2, c3, c4, c5⟩
end Go.Proofs.Qxb6500367a
