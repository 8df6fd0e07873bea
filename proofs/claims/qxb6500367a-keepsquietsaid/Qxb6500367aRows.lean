/-
  No cell of these rows narrows 'for every input' (looked for: loops, veiled, ifaces, maps, wideKeys, modest, calm, conditions, laid).
  DERIVED. THE GIVEN ROWS OF THIS SEAT. 7 by the template 'for every input the law returns true; each argument reads behind the call as it read before'; 0 by the template 'total and deterministic' (their statements: Qxb6500367aTotals.lean).
  GIVEN WITH THE SEED: the statements are not yours to turn. If you find one false, say at which input.
  Laid BY PROGRAM, IN A SANDBOX (cutbox-rows.mjs): the forced cells as the released guide's own fill.sh prints them over the translation e6a2cc110da00e62… (all of the seat's roots in one cut). By AI agents, Wed Nov 11 2026. No macro, syntax, notation, axiom, sorry.
-/
import Derived.Test.Qxb6500367aChecked
import GoSem.Claim
import GoSem.ClaimJoined
import GoSem.ClaimMapViews
import Derived.JoinedTies
import Derived.KernelRfl
namespace Go.Proofs.Qxb6500367a
/- THE CELL 'sum', in the pinned program and in every row, IS THE sha256 OF THE DUMP (.gsa) THAT Qxb6500367aProg.lean LOADS. Nothing in Lean hashes anything: it is a label: what it is worth is what the hold of that sum in a sandbox is worth. -/
noncomputable def Try.pinned : Pinned := { name := "qxb6500367a", sum := "e6a2cc110da00e6254b7e605d4bb057ae2b9a130128099082a34bbe295f9f666", checked := Try.checked }
namespace Rows
def none {H : Type} : Left H := { results := [], args := [] }

/-- 'nodelaw.Keeps': WHATEVER THE INPUT: true; the input reads as it did. -/
def keepsSpec : ChangeSpec := { name := "keeps", fn := fun _ => fun
  | [d] => { results := [.lit (.bool true)], args := [d] }
  | _ => none }
def keepsRow : OpenClaim := { program := "qxb6500367a", sum := "e6a2cc110da00e6254b7e605d4bb057ae2b9a130128099082a34bbe295f9f666", func := "e2e/nodelaw.Keeps", spec := "keeps", apart := false }
def KeepsSaid : Prop := keepsRow.holds Try.pinned (OpenSpec.ofChange keepsSpec)

/-- ITS FALSE NEIGHBOUR: 'it returns false'. Refute it at one input. -/
def keepsWrong : ChangeSpec := { name := "keeps", fn := fun _ => fun
  | [d] => { results := [.lit (.bool false)], args := [d] }
  | _ => none }
def KeepsWrongFalsely : Prop := keepsRow.holds Try.pinned (OpenSpec.ofChange keepsWrong)

/-- 'nodelaw.KeepsQuiet': WHATEVER THE INPUT: true; the input reads as it did. -/
def keepsQuietSpec : ChangeSpec := { name := "keepsQuiet", fn := fun _ => fun
  | [d] => { results := [.lit (.bool true)], args := [d] }
  | _ => none }
def keepsQuietRow : OpenClaim := { program := "qxb6500367a", sum := "e6a2cc110da00e6254b7e605d4bb057ae2b9a130128099082a34bbe295f9f666", func := "e2e/nodelaw.KeepsQuiet", spec := "keepsQuiet", apart := false }
def KeepsQuietSaid : Prop := keepsQuietRow.holds Try.pinned (OpenSpec.ofChange keepsQuietSpec)

/-- ITS FALSE NEIGHBOUR: 'it returns false'. Refute it at one input. -/
def keepsQuietWrong : ChangeSpec := { name := "keepsQuiet", fn := fun _ => fun
  | [d] => { results := [.lit (.bool false)], args := [d] }
  | _ => none }
def KeepsQuietWrongFalsely : Prop := keepsQuietRow.holds Try.pinned (OpenSpec.ofChange keepsQuietWrong)

/-- 'nodelaw.Refines': WHATEVER THE INPUT: true; the input reads as it did. -/
def refinesSpec : ChangeSpec := { name := "refines", fn := fun _ => fun
  | [d] => { results := [.lit (.bool true)], args := [d] }
  | _ => none }
def refinesRow : OpenClaim := { program := "qxb6500367a", sum := "e6a2cc110da00e6254b7e605d4bb057ae2b9a130128099082a34bbe295f9f666", func := "e2e/nodelaw.Refines", spec := "refines", apart := false }
def RefinesSaid : Prop := refinesRow.holds Try.pinned (OpenSpec.ofChange refinesSpec)

/-- ITS FALSE NEIGHBOUR: 'it returns false'. Refute it at one input. -/
def refinesWrong : ChangeSpec := { name := "refines", fn := fun _ => fun
  | [d] => { results := [.lit (.bool false)], args := [d] }
  | _ => none }
def RefinesWrongFalsely : Prop := refinesRow.holds Try.pinned (OpenSpec.ofChange refinesWrong)

/-- 'nodelaw.RefinesQuiet': WHATEVER THE INPUT: true; the input reads as it did. -/
def refinesQuietSpec : ChangeSpec := { name := "refinesQuiet", fn := fun _ => fun
  | [d] => { results := [.lit (.bool true)], args := [d] }
  | _ => none }
def refinesQuietRow : OpenClaim := { program := "qxb6500367a", sum := "e6a2cc110da00e6254b7e605d4bb057ae2b9a130128099082a34bbe295f9f666", func := "e2e/nodelaw.RefinesQuiet", spec := "refinesQuiet", apart := false }
def RefinesQuietSaid : Prop := refinesQuietRow.holds Try.pinned (OpenSpec.ofChange refinesQuietSpec)

/-- ITS FALSE NEIGHBOUR: 'it returns false'. Refute it at one input. -/
def refinesQuietWrong : ChangeSpec := { name := "refinesQuiet", fn := fun _ => fun
  | [d] => { results := [.lit (.bool false)], args := [d] }
  | _ => none }
def RefinesQuietWrongFalsely : Prop := refinesQuietRow.holds Try.pinned (OpenSpec.ofChange refinesQuietWrong)

/-- 'nodelaw.Facts': WHATEVER THE INPUT: true; the input reads as it did. -/
def factsSpec : ChangeSpec := { name := "facts", fn := fun _ => fun
  | [] => { results := [.lit (.bool true)], args := [] }
  | _ => none }
def factsRow : OpenClaim := { program := "qxb6500367a", sum := "e6a2cc110da00e6254b7e605d4bb057ae2b9a130128099082a34bbe295f9f666", func := "e2e/nodelaw.Facts", spec := "facts", apart := false }
def FactsSaid : Prop := factsRow.holds Try.pinned (OpenSpec.ofChange factsSpec)

/-- ITS FALSE NEIGHBOUR: 'it returns false'. Refute it at one input. -/
def factsWrong : ChangeSpec := { name := "facts", fn := fun _ => fun
  | [] => { results := [.lit (.bool false)], args := [] }
  | _ => none }
def FactsWrongFalsely : Prop := factsRow.holds Try.pinned (OpenSpec.ofChange factsWrong)

/-- 'nodelaw.Small': WHATEVER THE INPUT: true; the input reads as it did. -/
def smallSpec : ChangeSpec := { name := "small", fn := fun _ => fun
  | [] => { results := [.lit (.bool true)], args := [] }
  | _ => none }
def smallRow : OpenClaim := { program := "qxb6500367a", sum := "e6a2cc110da00e6254b7e605d4bb057ae2b9a130128099082a34bbe295f9f666", func := "e2e/nodelaw.Small", spec := "small", apart := false }
def SmallSaid : Prop := smallRow.holds Try.pinned (OpenSpec.ofChange smallSpec)

/-- ITS FALSE NEIGHBOUR: 'it returns false'. Refute it at one input. -/
def smallWrong : ChangeSpec := { name := "small", fn := fun _ => fun
  | [] => { results := [.lit (.bool false)], args := [] }
  | _ => none }
def SmallWrongFalsely : Prop := smallRow.holds Try.pinned (OpenSpec.ofChange smallWrong)

/-- 'nodelaw.Brim': WHATEVER THE INPUT: true; the input reads as it did. -/
def brimSpec : ChangeSpec := { name := "brim", fn := fun _ => fun
  | [] => { results := [.lit (.bool true)], args := [] }
  | _ => none }
def brimRow : OpenClaim := { program := "qxb6500367a", sum := "e6a2cc110da00e6254b7e605d4bb057ae2b9a130128099082a34bbe295f9f666", func := "e2e/nodelaw.Brim", spec := "brim", apart := false }
def BrimSaid : Prop := brimRow.holds Try.pinned (OpenSpec.ofChange brimSpec)

/-- ITS FALSE NEIGHBOUR: 'it returns false'. Refute it at one input. -/
def brimWrong : ChangeSpec := { name := "brim", fn := fun _ => fun
  | [] => { results := [.lit (.bool false)], args := [] }
  | _ => none }
def BrimWrongFalsely : Prop := brimRow.holds Try.pinned (OpenSpec.ofChange brimWrong)

end Rows
end Go.Proofs.Qxb6500367a
