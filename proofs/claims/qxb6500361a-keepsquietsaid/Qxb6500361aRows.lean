/-
  No cell of these rows narrows 'for every input' (looked for: loops, veiled, ifaces, maps, wideKeys, modest, calm, conditions, laid).
  DERIVED. THE GIVEN ROWS OF THIS SEAT. 7 by the template 'for every input the law returns true; each argument reads behind the call as it read before'; 0 by the template 'total and deterministic' (their statements: Qxb6500361aTotals.lean).
  GIVEN WITH THE SEED: the statements are not yours to turn. If you find one false, say at which input.
  Laid BY PROGRAM, IN A SANDBOX (cutbox-rows.mjs): the forced cells as the released guide's own fill.sh prints them over the translation c7705aa45994d1d0… (all of the seat's roots in one cut). By AI agents, Wed Nov 11 2026. No macro, syntax, notation, axiom, sorry.
-/
import Derived.Test.Qxb6500361aChecked
import GoSem.Claim
import GoSem.ClaimJoined
import GoSem.ClaimMapViews
import Derived.JoinedTies
import Derived.KernelRfl
namespace Go.Proofs.Qxb6500361a
/- THE CELL 'sum', in the pinned program and in every row, IS THE sha256 OF THE DUMP (.gsa) THAT Qxb6500361aProg.lean LOADS. Nothing in Lean hashes anything: it is a label: what it is worth is what the hold of that sum in a sandbox is worth. -/
noncomputable def Try.pinned : Pinned := { name := "qxb6500361a", sum := "c7705aa45994d1d0b98231244995bb1eed913e5dfa05533402799f4749d37680", checked := Try.checked }
namespace Rows
def none {H : Type} : Left H := { results := [], args := [] }

/-- 'skiplaw.Keeps': WHATEVER THE INPUT: true; the input reads as it did. -/
def keepsSpec : ChangeSpec := { name := "keeps", fn := fun _ => fun
  | [d] => { results := [.lit (.bool true)], args := [d] }
  | _ => none }
def keepsRow : OpenClaim := { program := "qxb6500361a", sum := "c7705aa45994d1d0b98231244995bb1eed913e5dfa05533402799f4749d37680", func := "e2e/skiplaw.Keeps", spec := "keeps", apart := false }
def KeepsSaid : Prop := keepsRow.holds Try.pinned (OpenSpec.ofChange keepsSpec)

/-- ITS FALSE NEIGHBOUR: 'it returns false'. Refute it at one input. -/
def keepsWrong : ChangeSpec := { name := "keeps", fn := fun _ => fun
  | [d] => { results := [.lit (.bool false)], args := [d] }
  | _ => none }
def KeepsWrongFalsely : Prop := keepsRow.holds Try.pinned (OpenSpec.ofChange keepsWrong)

/-- 'skiplaw.KeepsQuiet': WHATEVER THE INPUT: true; the input reads as it did. -/
def keepsQuietSpec : ChangeSpec := { name := "keepsQuiet", fn := fun _ => fun
  | [d] => { results := [.lit (.bool true)], args := [d] }
  | _ => none }
def keepsQuietRow : OpenClaim := { program := "qxb6500361a", sum := "c7705aa45994d1d0b98231244995bb1eed913e5dfa05533402799f4749d37680", func := "e2e/skiplaw.KeepsQuiet", spec := "keepsQuiet", apart := false }
def KeepsQuietSaid : Prop := keepsQuietRow.holds Try.pinned (OpenSpec.ofChange keepsQuietSpec)

/-- ITS FALSE NEIGHBOUR: 'it returns false'. Refute it at one input. -/
def keepsQuietWrong : ChangeSpec := { name := "keepsQuiet", fn := fun _ => fun
  | [d] => { results := [.lit (.bool false)], args := [d] }
  | _ => none }
def KeepsQuietWrongFalsely : Prop := keepsQuietRow.holds Try.pinned (OpenSpec.ofChange keepsQuietWrong)

/-- 'skiplaw.Refines': WHATEVER THE INPUT: true; the input reads as it did. -/
def refinesSpec : ChangeSpec := { name := "refines", fn := fun _ => fun
  | [d] => { results := [.lit (.bool true)], args := [d] }
  | _ => none }
def refinesRow : OpenClaim := { program := "qxb6500361a", sum := "c7705aa45994d1d0b98231244995bb1eed913e5dfa05533402799f4749d37680", func := "e2e/skiplaw.Refines", spec := "refines", apart := false }
def RefinesSaid : Prop := refinesRow.holds Try.pinned (OpenSpec.ofChange refinesSpec)

/-- ITS FALSE NEIGHBOUR: 'it returns false'. Refute it at one input. -/
def refinesWrong : ChangeSpec := { name := "refines", fn := fun _ => fun
  | [d] => { results := [.lit (.bool false)], args := [d] }
  | _ => none }
def RefinesWrongFalsely : Prop := refinesRow.holds Try.pinned (OpenSpec.ofChange refinesWrong)

/-- 'skiplaw.RefinesQuiet': WHATEVER THE INPUT: true; the input reads as it did. -/
def refinesQuietSpec : ChangeSpec := { name := "refinesQuiet", fn := fun _ => fun
  | [d] => { results := [.lit (.bool true)], args := [d] }
  | _ => none }
def refinesQuietRow : OpenClaim := { program := "qxb6500361a", sum := "c7705aa45994d1d0b98231244995bb1eed913e5dfa05533402799f4749d37680", func := "e2e/skiplaw.RefinesQuiet", spec := "refinesQuiet", apart := false }
def RefinesQuietSaid : Prop := refinesQuietRow.holds Try.pinned (OpenSpec.ofChange refinesQuietSpec)

/-- ITS FALSE NEIGHBOUR: 'it returns false'. Refute it at one input. -/
def refinesQuietWrong : ChangeSpec := { name := "refinesQuiet", fn := fun _ => fun
  | [d] => { results := [.lit (.bool false)], args := [d] }
  | _ => none }
def RefinesQuietWrongFalsely : Prop := refinesQuietRow.holds Try.pinned (OpenSpec.ofChange refinesQuietWrong)

/-- 'skiplaw.EdgeRangeHeight': WHATEVER THE INPUT: true; the input reads as it did. -/
def edgeRangeHeightSpec : ChangeSpec := { name := "edgeRangeHeight", fn := fun _ => fun
  | [] => { results := [.lit (.bool true)], args := [] }
  | _ => none }
def edgeRangeHeightRow : OpenClaim := { program := "qxb6500361a", sum := "c7705aa45994d1d0b98231244995bb1eed913e5dfa05533402799f4749d37680", func := "e2e/skiplaw.EdgeRangeHeight", spec := "edgeRangeHeight", apart := false }
def EdgeRangeHeightSaid : Prop := edgeRangeHeightRow.holds Try.pinned (OpenSpec.ofChange edgeRangeHeightSpec)

/-- ITS FALSE NEIGHBOUR: 'it returns false'. Refute it at one input. -/
def edgeRangeHeightWrong : ChangeSpec := { name := "edgeRangeHeight", fn := fun _ => fun
  | [] => { results := [.lit (.bool false)], args := [] }
  | _ => none }
def EdgeRangeHeightWrongFalsely : Prop := edgeRangeHeightRow.holds Try.pinned (OpenSpec.ofChange edgeRangeHeightWrong)

/-- 'skiplaw.EdgeRangeHeightOne': WHATEVER THE INPUT: true; the input reads as it did. -/
def edgeRangeHeightOneSpec : ChangeSpec := { name := "edgeRangeHeightOne", fn := fun _ => fun
  | [] => { results := [.lit (.bool true)], args := [] }
  | _ => none }
def edgeRangeHeightOneRow : OpenClaim := { program := "qxb6500361a", sum := "c7705aa45994d1d0b98231244995bb1eed913e5dfa05533402799f4749d37680", func := "e2e/skiplaw.EdgeRangeHeightOne", spec := "edgeRangeHeightOne", apart := false }
def EdgeRangeHeightOneSaid : Prop := edgeRangeHeightOneRow.holds Try.pinned (OpenSpec.ofChange edgeRangeHeightOneSpec)

/-- ITS FALSE NEIGHBOUR: 'it returns false'. Refute it at one input. -/
def edgeRangeHeightOneWrong : ChangeSpec := { name := "edgeRangeHeightOne", fn := fun _ => fun
  | [] => { results := [.lit (.bool false)], args := [] }
  | _ => none }
def EdgeRangeHeightOneWrongFalsely : Prop := edgeRangeHeightOneRow.holds Try.pinned (OpenSpec.ofChange edgeRangeHeightOneWrong)

/-- 'skiplaw.Born': WHATEVER THE INPUT: true; the input reads as it did. -/
def bornSpec : ChangeSpec := { name := "born", fn := fun _ => fun
  | [] => { results := [.lit (.bool true)], args := [] }
  | _ => none }
def bornRow : OpenClaim := { program := "qxb6500361a", sum := "c7705aa45994d1d0b98231244995bb1eed913e5dfa05533402799f4749d37680", func := "e2e/skiplaw.Born", spec := "born", apart := false }
def BornSaid : Prop := bornRow.holds Try.pinned (OpenSpec.ofChange bornSpec)

/-- ITS FALSE NEIGHBOUR: 'it returns false'. Refute it at one input. -/
def bornWrong : ChangeSpec := { name := "born", fn := fun _ => fun
  | [] => { results := [.lit (.bool false)], args := [] }
  | _ => none }
def BornWrongFalsely : Prop := bornRow.holds Try.pinned (OpenSpec.ofChange bornWrong)

end Rows
end Go.Proofs.Qxb6500361a
