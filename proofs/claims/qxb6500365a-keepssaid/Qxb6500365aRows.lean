/-
  No cell of these rows narrows 'for every input' (looked for: loops, veiled, ifaces, maps, wideKeys, modest, calm, conditions, laid).
  DERIVED. THE GIVEN ROWS OF THIS SEAT. 3 by the template 'for every input the law returns true; each argument reads behind the call as it read before'; 0 by the template 'total and deterministic' (their statements: Qxb6500365aTotals.lean).
  GIVEN WITH THE SEED: the statements are not yours to turn. If you find one false, say at which input.
  Laid BY PROGRAM, IN A SANDBOX (cutbox-rows.mjs): the forced cells as the released guide's own fill.sh prints them over the translation f11b1efcc738e56d… (all of the seat's roots in one cut). By AI agents, Wed Nov 11 2026. No macro, syntax, notation, axiom, sorry.
-/
import Derived.Test.Qxb6500365aChecked
import GoSem.Claim
import GoSem.ClaimJoined
import GoSem.ClaimMapViews
import Derived.JoinedTies
import Derived.KernelRfl
namespace Go.Proofs.Qxb6500365a
/- THE CELL 'sum', in the pinned program and in every row, IS THE sha256 OF THE DUMP (.gsa) THAT Qxb6500365aProg.lean LOADS. Nothing in Lean hashes anything: it is a label: what it is worth is what the hold of that sum in a sandbox is worth. -/
noncomputable def Try.pinned : Pinned := { name := "qxb6500365a", sum := "f11b1efcc738e56d8e917e98154cceb025e7bde8f735f7f2e92d25beeefc80cf", checked := Try.checked }
namespace Rows
def none {H : Type} : Left H := { results := [], args := [] }

/-- 'gatelaw.Keeps': WHATEVER THE INPUT: true; the input reads as it did. -/
def keepsSpec : ChangeSpec := { name := "keeps", fn := fun _ => fun
  | [d] => { results := [.lit (.bool true)], args := [d] }
  | _ => none }
def keepsRow : OpenClaim := { program := "qxb6500365a", sum := "f11b1efcc738e56d8e917e98154cceb025e7bde8f735f7f2e92d25beeefc80cf", func := "e2e/gatelaw.Keeps", spec := "keeps", apart := false }
def KeepsSaid : Prop := keepsRow.holds Try.pinned (OpenSpec.ofChange keepsSpec)

/-- ITS FALSE NEIGHBOUR: 'it returns false'. Refute it at one input. -/
def keepsWrong : ChangeSpec := { name := "keeps", fn := fun _ => fun
  | [d] => { results := [.lit (.bool false)], args := [d] }
  | _ => none }
def KeepsWrongFalsely : Prop := keepsRow.holds Try.pinned (OpenSpec.ofChange keepsWrong)

/-- 'gatelaw.Refines': WHATEVER THE INPUT: true; the input reads as it did. -/
def refinesSpec : ChangeSpec := { name := "refines", fn := fun _ => fun
  | [d] => { results := [.lit (.bool true)], args := [d] }
  | _ => none }
def refinesRow : OpenClaim := { program := "qxb6500365a", sum := "f11b1efcc738e56d8e917e98154cceb025e7bde8f735f7f2e92d25beeefc80cf", func := "e2e/gatelaw.Refines", spec := "refines", apart := false }
def RefinesSaid : Prop := refinesRow.holds Try.pinned (OpenSpec.ofChange refinesSpec)

/-- ITS FALSE NEIGHBOUR: 'it returns false'. Refute it at one input. -/
def refinesWrong : ChangeSpec := { name := "refines", fn := fun _ => fun
  | [d] => { results := [.lit (.bool false)], args := [d] }
  | _ => none }
def RefinesWrongFalsely : Prop := refinesRow.holds Try.pinned (OpenSpec.ofChange refinesWrong)

/-- 'gatelaw.RefinesQuiet': WHATEVER THE INPUT: true; the input reads as it did. -/
def refinesQuietSpec : ChangeSpec := { name := "refinesQuiet", fn := fun _ => fun
  | [d] => { results := [.lit (.bool true)], args := [d] }
  | _ => none }
def refinesQuietRow : OpenClaim := { program := "qxb6500365a", sum := "f11b1efcc738e56d8e917e98154cceb025e7bde8f735f7f2e92d25beeefc80cf", func := "e2e/gatelaw.RefinesQuiet", spec := "refinesQuiet", apart := false }
def RefinesQuietSaid : Prop := refinesQuietRow.holds Try.pinned (OpenSpec.ofChange refinesQuietSpec)

/-- ITS FALSE NEIGHBOUR: 'it returns false'. Refute it at one input. -/
def refinesQuietWrong : ChangeSpec := { name := "refinesQuiet", fn := fun _ => fun
  | [d] => { results := [.lit (.bool false)], args := [d] }
  | _ => none }
def RefinesQuietWrongFalsely : Prop := refinesQuietRow.holds Try.pinned (OpenSpec.ofChange refinesQuietWrong)

end Rows
end Go.Proofs.Qxb6500365a
