/-
  A ring fits.
-/
import Derived.Test.Qxb6500363aPlain
namespace Go.Proofs.Qxb6500363a
open Go.RowKit Go.Qx
theorem fitP_true {k : Int} {xs : List Int} (o : Ok k xs) : fitP xs.length k = 0 := by
  have := o.n2
  have := o.n6
  have := o.k1
  have := o.k8
  unfold fitP
  rw [if_neg (by omega), if_neg (by omega)]
end Go.Proofs.Qxb6500363a
