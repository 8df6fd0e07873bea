/-
  owed: what the clauses want of a step.
-/
import Derived.Test.Qxb6500361aGhost
import Derived.Test.Qxb6500361aGm
import Derived.OwnWalk
import Derived.Deep.RegionLaw
import Derived.Deep.CutBlock
import Derived.Deep.CutRange
import Derived.Deep.DeepCutAuto
namespace Go.Proofs.Qxb6500361a
open Go.RowKit Go.Qx
set_option linter.unusedSimpArgs false
set_option linter.unusedVariables false

theorem info3 : (Try.prog.info? 3).map (fun i => (i.zero, i.size, i.bytes)) = some (some (.int .i64 0), 1, 8) := by kernel_rfl
theorem info9 : (Try.prog.info? 9).map (fun i => (i.zero, i.size, i.bytes)) = some (some (.string ⟨#[]⟩), 1, 16) := by kernel_rfl

/-- What owed answers: as the player's, and the levels besides. -/
def ansK (ts : List K3) (o : Opr) : An :=
  if o.k = 9 then (if 0 ≤ o.a ∧ o.a < 8 then ⟨0, 0, 0, levelT o.a.toNat ts⟩ else ⟨4, 0, 0, ⟨#[]⟩⟩) else ansA ts o

/-- The blocks that owed makes for itself. -/
structure Own3 (w wr : World) (k a b c : Int) (s t : ByteArray) : Prop where
  o : Blk wr w.heap.size 44 [.int .i64 k, .int .i64 a, .int .i64 b, .int .i64 c, .string s, .string t]
  r : Blk wr (w.heap.size + 1) 63 [.int .i64 0, .int .i64 0, .int .i64 0, .string ⟨#[]⟩]
  w : Blk wr (w.heap.size + 2) 63 [.int .i64 0, .int .i64 0, .int .i64 0, .string ⟨#[]⟩]

theorem Own3.drew {w wr : World} {k a b c : Int} {s t : ByteArray} (h : Own3 w wr k a b c s t) : Own3 w wr.drew k a b c s t := ⟨h.o.drew, h.r.drew, h.w.drew⟩
theorem Own3.drewN {w wr : World} {k a b c : Int} {s t : ByteArray} (h : Own3 w wr k a b c s t) (n : Nat) : Own3 w (wr.drewN n) k a b c s t := ⟨h.o.drewN n, h.r.drewN n, h.w.drewN n⟩

theorem own3_new (w : World) (k a b c : Int) (s t : ByteArray) : Own3 w (((w.alloc (.cells #[.int .i64 k, .int .i64 a, .int .i64 b, .int .i64 c, .string s, .string t] 44)).alloc (.cells #[.int .i64 0, .int .i64 0, .int .i64 0, .string ⟨#[]⟩] 63)).alloc (.cells #[.int .i64 0, .int .i64 0, .int .i64 0, .string ⟨#[]⟩] 63)) k a b c s t where
  o := ((Blk.new w 44 [.int .i64 k, .int .i64 a, .int .i64 b, .int .i64 c, .string s, .string t]).alloc _).alloc _
  r := by
    have := (Blk.new (w.alloc (.cells #[.int .i64 k, .int .i64 a, .int .i64 b, .int .i64 c, .string s, .string t] 44)) 63 [.int .i64 0, .int .i64 0, .int .i64 0, .string ⟨#[]⟩]).alloc (.cells #[.int .i64 0, .int .i64 0, .int .i64 0, .string ⟨#[]⟩] 63)
    simpa using this
  w := by
    have := Blk.new ((w.alloc (.cells #[.int .i64 k, .int .i64 a, .int .i64 b, .int .i64 c, .string s, .string t] 44)).alloc (.cells #[.int .i64 0, .int .i64 0, .int .i64 0, .string ⟨#[]⟩] 63)) 63 [.int .i64 0, .int .i64 0, .int .i64 0, .string ⟨#[]⟩]
    simpa using this

/-- Where the search stops: below J the keys are at or below x, from J on above it. -/
structure Cut (ts : List K3) (x : Int) (J : Nat) : Prop where
  le : J ≤ ts.length
  lo : ∀ i (h : i < ts.length), i < J → ts[i].1 ≤ x
  hi : ∀ i (h : i < ts.length), J ≤ i → x < ts[i].1


/-- Whether the key stands just below the cut. -/
def HasAt (ts : List K3) (x : Int) (J : Nat) (has : Bool) : Prop :=
  (has = true ∧ ∃ i t, J = i + 1 ∧ ts[i]? = some t ∧ t.1 = x) ∨ (has = false ∧ (J = 0 ∨ ∃ i t, J = i + 1 ∧ ts[i]? = some t ∧ t.1 ≠ x))
end Go.Proofs.Qxb6500361a
