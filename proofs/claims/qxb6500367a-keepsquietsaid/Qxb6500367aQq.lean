/-
  The law of Qxb6500367aQm at the class of worlds in which nothing that was there has turned: for callees that make new blocks alone.
-/
import Derived.Test.Qxb6500367aQm
import Derived.Test.Qxb6500367aLib
namespace Go.Qx
open Go Go.RowKit
set_option linter.unusedVariables false

/-- A world in which nothing of w has turned. -/
def QW (w : World) : Type := { w' : World // Quiet w w' }

instance (w : World) : Nonempty (QW w) := ⟨⟨w, Quiet.refl w⟩⟩

def QW.w {w : World} (q : QW w) : World := q.1
theorem QW.q {w : World} (q : QW w) : Quiet w q.w := q.2
def QW.mk {w w' : World} (h : Quiet w w') : QW w := ⟨w', h⟩
theorem QW.mk_w {w w' : World} (h : Quiet w w') : (QW.mk h).w = w' := rfl

theorem QW.blk {w : World} {b : Nat} {t : TypeId} {cs : List Value} (h : Blk w b t cs) (q : QW w) (o : Nat) : q.w.cell? ⟨b, o, none⟩ = cs[o]? := (q.q.blk h).cell o

/-- A callee that makes new blocks alone. -/
theorem Calls.in_qw {P : Program} {f : FuncId} {args : Array Value} {w : World} {q : QW w} {v : Value} (h : Calls P f args q.w fun e w' => e = .returned v ∧ Quiet q.w w') : Calls P f args q.w fun e w'' => e = .returned v ∧ ∃ q' : QW w, w'' = q'.w :=
  h.mono fun _ w'' ⟨he, hq⟩ => ⟨he, QW.mk (q.q.trans hq), rfl⟩

theorem wp_region_mixq {P : Program} {Q : Exit → Act → World → Prop} {id : Nat} {a : Act} {w : World} {l : List Oper} (hs : List (Nat × Bool)) (ts : List Nat) (hm : P.follows .mixedOrders = true) (hB : mixB .any l.toArray hs ts = true) (hQ : ∀ c a d v w, Q (.panic c) (Act.put a d v) w → Q (.panic c) a w)
    (h : wpMix P l.toArray (fun w' => ∃ q : QW w, w' = q.w) (fun a' => ∀ w', (∃ q : QW w, w' = q.w) → wpList P l.toArray Q (pickO l ts) a' w') (pickM l hs) a) : (Code.region id l.toArray true).wp P Q a w := by
  simp only [mixB, Bool.and_eq_true, beq_iff_eq] at hB
  have hd : Quiet w w.drew := (Chg.refl _ _).drew
  have h1 := wpAnyM_lex (C := fun w' => ∃ q : QW w, w' = q.w) (Q := Q) (md := .any) (T := ts) w.drew ⟨QW.mk hd, rfl⟩ hB.1.1 hQ hs (Array.replicate l.toArray.size false) a closed_start hB.2 h
  rw [hB.1.2] at h1
  exact wp_region_any hm (wpAny_of_M _ _ _ h1 _ ⟨QW.mk hd, rfl⟩)
end Go.Qx
