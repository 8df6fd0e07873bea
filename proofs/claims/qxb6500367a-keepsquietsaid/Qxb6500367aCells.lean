/-
  OUR OWN SMALL LIBRARY, fourth part: many cells stored at once ('World.setCells').
-/
import Derived.Test.Qxb6500367aLib
import Derived.Laws.IdiomCopy
namespace Go.Qx
open Go.RowKit

/-- A list with vs laid over it from o on. -/
def over (cs : List Value) : Nat → List Value → List Value
  | _, [] => cs
  | o, v :: r => over (cs.set o v) (o + 1) r

theorem over_mid : ∀ (vs p q s : List Value), q.length = vs.length → over (p ++ q ++ s) p.length vs = p ++ vs ++ s
  | [], p, q, s, h => by
    have : q = [] := List.eq_nil_of_length_eq_zero (by simpa using h)
    subst this; rfl
  | v :: r, p, q, s, h => by
    match q, h with
    | x :: q, h =>
      have e : (p ++ x :: q ++ s).set p.length v = (p ++ [v]) ++ q ++ s := by
        rw [List.append_assoc, List.set_append_right _ _ (Nat.le_refl _)]; simp
      show over ((p ++ x :: q ++ s).set p.length v) (p.length + 1) r = _
      rw [e]
      have ih := over_mid r (p ++ [v]) q s (by simpa using h)
      rw [List.length_append] at ih
      rw [show p.length + [v].length = p.length + 1 from rfl] at ih
      rw [ih]; simp

theorem Blk.setCells {b : Nat} {t : TypeId} : ∀ (vs : List Value) (o : Nat) {w : World} {cs : List Value}, Blk w b t cs → Blk (w.setCells b o vs) b t (over cs o vs)
  | [], _, _, _, h => h
  | v :: r, o, _, _, h => Blk.setCells r (o + 1) (h.set o v)

theorem Blk.setCells_other {b c : Nat} {t : TypeId} (hne : c ≠ b) : ∀ (vs : List Value) (o : Nat) {w : World} {cs : List Value}, Blk w c t cs → Blk (w.setCells b o vs) c t cs
  | [], _, _, _, h => h
  | v :: r, o, _, _, h => Blk.setCells_other hne r (o + 1) (h.set_other (a := ⟨b, o, none⟩) hne v)

theorem Chg.setCells {S : Nat → Prop} {w0 : World} {b : Nat} (hS : S b ∨ w0.heap.size ≤ b) : ∀ (vs : List Value) (o : Nat) {w : World}, Chg S w0 w → Chg S w0 (w.setCells b o vs)
  | [], _, _, h => h
  | v :: r, o, _, h => Chg.setCells hS r (o + 1) (Chg.setCell h (show S (⟨b, o, none⟩ : Addr).block ∨ _ from hS) v)
end Go.Qx
