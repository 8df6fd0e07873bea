/-
  A region of walk, taken out of the translation by its number.
-/
import Derived.Test.Qxb6500367aWalkH
import Derived.Control
namespace Go.Proofs.Qxb6500367a
open Go.RowKit Go.Qx

def findReg (k : Nat) : Code → Option Code
  | .region n ops d => if n = k then some (.region n ops d) else none
  | .seq a b => match findReg k a with
    | some c => some c
    | none => findReg k b
  | .block _ c => findReg k c
  | .scope c => findReg k c
  | .loop c => findReg k c
  | .cond _ a b => match findReg k a with
    | some c => some c
    | none => findReg k b
  | _ => none

/-- A post that looks at the frame on the plain way alone. -/
def blind (K : Act → World → Prop) (Z : Exit → World → Prop) : Exit → Act → World → Prop
  | .normal, a, w => K a w
  | ex, _, w => Z ex w

theorem wp_of_blind {P : Program} {c : Code} {Q : Exit → Act → World → Prop} {a : Act} {w : World} (h : c.wp P (blind (fun a w => Q .normal a w) (fun ex w => ∀ a, Q ex a w)) a w) : c.wp P Q a w :=
  wp_mono h (by intro e a w hh; cases e <;> first | exact hh | exact hh a)

noncomputable def reg (k : Nat) : Code := ((Try.f18.body.bind (findReg k)).getD .skip)
end Go.Proofs.Qxb6500367a
