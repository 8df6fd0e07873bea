/-
  THE MODEL's SORTED SLICE OF PAIRS, PLAINLY.
-/
import Derived.Test.Qxb6500361aPlain
namespace Go.Proofs.Qxb6500361a
open Go.RowKit Go.Qx
set_option linter.unusedSimpArgs false
set_option linter.unusedVariables false

def pairCells (qs : List (Int × ByteArray)) : List Value := qs.flatMap fun p => [.int .i64 p.1, .string p.2]

theorem pairCells_length (qs : List (Int × ByteArray)) : (pairCells qs).length = 2 * qs.length := by
  induction qs with
  | nil => rfl
  | cons p qs ih => simp only [pairCells, List.flatMap_cons, List.length_append, List.length_cons] at *; rw [ih]; simp; omega

theorem pairCells_get (qs : List (Int × ByteArray)) (j : Nat) (p : Int × ByteArray) (h : qs[j]? = some p) : (pairCells qs)[j * 2]? = some (.int .i64 p.1) ∧ (pairCells qs)[j * 2 + 1]? = some (.string p.2) := by
  induction qs generalizing j with
  | nil => simp at h
  | cons q qs ih =>
    cases j with
    | zero => simp at h; subst h; simp [pairCells]
    | succ j =>
      simp only [List.getElem?_cons_succ] at h
      have := ih j h
      simp only [pairCells, List.flatMap_cons] at *
      rw [show (j + 1) * 2 = j * 2 + 2 by omega, show j * 2 + 2 + 1 = j * 2 + 1 + 2 by omega]
      simpa using this

theorem pairCells_set (qs : List (Int × ByteArray)) (j : Nat) (k : Int) (v : ByteArray) (h : j < qs.length) : ((pairCells qs).set (j * 2) (.int .i64 k)).set (j * 2 + 1) (.string v) = pairCells (qs.set j (k, v)) := by
  induction qs generalizing j with
  | nil => simp at h
  | cons q qs ih =>
    cases j with
    | zero => simp [pairCells]
    | succ j =>
      have := ih j (by simpa using h)
      simp only [pairCells, List.flatMap_cons, List.set_cons_succ] at *
      rw [show (j + 1) * 2 = j * 2 + 2 by omega, show j * 2 + 2 + 1 = j * 2 + 1 + 2 by omega]
      simpa using this

theorem pairCells_setv (qs : List (Int × ByteArray)) (j : Nat) (k : Int) (u v : ByteArray) (h : qs[j]? = some (k, u)) : (pairCells qs).set (j * 2 + 1) (.string v) = pairCells (qs.set j (k, v)) := by
  induction qs generalizing j with
  | nil => simp at h
  | cons q qs ih =>
    cases j with
    | zero => simp at h; subst h; simp [pairCells]
    | succ j =>
      simp only [List.getElem?_cons_succ] at h
      have := ih j h
      simp only [pairCells, List.flatMap_cons, List.set_cons_succ] at *
      rw [show (j + 1) * 2 + 1 = j * 2 + 1 + 2 by omega]
      simpa using this

/-- The model in memory: m: the List's block; b: the array's; qs: all twelve pairs, the first n of them the map. -/
structure MRep (w : World) (m b : Nat) (ps : List (Int × ByteArray)) : Prop where
  list : Blk w m 82 [.slice (some ⟨b, 0, none⟩) ps.length 12]
  rows : ∃ rest, (ps ++ rest).length = 12 ∧ Blk w b 85 (pairCells (ps ++ rest))
  sorted : ps.Pairwise fun x y => x.1 < y.1
  vals : ∀ p ∈ ps, p.2.size ≤ 8
  keys : ∀ p ∈ ps, -9223372036854775808 ≤ p.1 ∧ p.1 ≤ 9223372036854775807
  ne : m ≠ b

theorem MRep.of_chg {w w' : World} {m b : Nat} {ps : List (Int × ByteArray)} {S : Nat → Prop} (r : MRep w m b ps) (h : Chg S w w') (hm : ¬ S m) (hb : ¬ S b) : MRep w' m b ps :=
  { r with list := h.blk r.list hm, rows := let ⟨rest, h1, h2⟩ := r.rows; ⟨rest, h1, h.blk h2 hb⟩ }

theorem MRep.quiet {w w' : World} {m b : Nat} {ps : List (Int × ByteArray)} (r : MRep w m b ps) (h : Quiet w w') : MRep w' m b ps := r.of_chg h id id

theorem MRep.len {w : World} {m b : Nat} {ps : List (Int × ByteArray)} (r : MRep w m b ps) : ps.length ≤ 12 := by
  obtain ⟨rest, h, _⟩ := r.rows; simp at h; omega

theorem MRep.get {w : World} {m b : Nat} {ps : List (Int × ByteArray)} (r : MRep w m b ps) (j : Nat) (p : Int × ByteArray) (h : ps[j]? = some p) :
    w.cell? ⟨b, j * 2, none⟩ = some (.int .i64 p.1) ∧ w.cell? ⟨b, j * 2 + 1, none⟩ = some (.string p.2) := by
  obtain ⟨rest, _, hb⟩ := r.rows
  have h' : (ps ++ rest)[j]? = some p := by
    have hj : j < ps.length := by
      rcases Nat.lt_or_ge j ps.length with h1 | h1
      · exact h1
      · rw [List.getElem?_eq_none h1] at h; cases h
    rw [List.getElem?_append_left hj]; exact h
  have := pairCells_get _ j p h'
  exact ⟨(hb.cell _).trans this.1, (hb.cell _).trans this.2⟩

end Go.Proofs.Qxb6500361a
