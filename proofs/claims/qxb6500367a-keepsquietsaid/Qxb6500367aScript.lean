/-
  A SCRIPT THAT CAME IN: its steps' cells, opened out of the row's reading.
-/
import Derived.Test.Qxb6500367aProg
import Derived.Deep.Slices
import Derived.ProofKit
namespace Go.Proofs.Qxb6500367a
open Go.ChangeShapes Go.WideShapes Go.ChangeAt Go.RowKit Go.Deep
set_option linter.unusedVariables false

theorem i64_of_wf {n : Int} (h : (Lit.int .i64 n).wf = true) : -9223372036854775808 ≤ n ∧ n ≤ 9223372036854775807 := by
  simp [Lit.wf] at h
  have h1 : IntKind.i64.min = -9223372036854775808 := by decide
  have h2 : IntKind.i64.max = 9223372036854775807 := by decide
  omega

/-- One step of a script, as its six cells at index i. -/
def StepAt (w : World) (a : Option Addr) (i : Nat) (q : Int × Int × Int × Int × ByteArray × ByteArray) : Prop :=
  ∃ b o, a = some ⟨b, o, none⟩ ∧ b < w.heap.size ∧
    w.cell? ⟨b, o + i * 6, none⟩ = some (.int .i64 q.1) ∧ w.cell? ⟨b, o + i * 6 + 1, none⟩ = some (.int .i64 q.2.1) ∧ w.cell? ⟨b, o + i * 6 + 2, none⟩ = some (.int .i64 q.2.2.1) ∧
    w.cell? ⟨b, o + i * 6 + 3, none⟩ = some (.int .i64 q.2.2.2.1) ∧ w.cell? ⟨b, o + i * 6 + 4, none⟩ = some (.string q.2.2.2.2.1) ∧ w.cell? ⟨b, o + i * 6 + 5, none⟩ = some (.string q.2.2.2.2.2) ∧
    (-9223372036854775808 ≤ q.1 ∧ q.1 ≤ 9223372036854775807) ∧ (-9223372036854775808 ≤ q.2.1 ∧ q.2.1 ≤ 9223372036854775807) ∧ (-9223372036854775808 ≤ q.2.2.1 ∧ q.2.2.1 ≤ 9223372036854775807) ∧
    (-9223372036854775808 ≤ q.2.2.2.1 ∧ q.2.2.2.1 ≤ 9223372036854775807) ∧ q.2.2.2.2.1.size ≤ maxLen ∧ q.2.2.2.2.2.size ≤ maxLen

theorem cellsOfStep : Try.prog.cellsOf 44 = 6 := by kernel_rfl
theorem cellsOfNum : Try.prog.cellsOf 3 = 1 := by kernel_rfl
theorem cellsOfStr : Try.prog.cellsOf 9 = 1 := by kernel_rfl

theorem open_steps {H : Type} {enc : TypeId × Value → H} {w : World} {base : Nat} {spare : Nat → Bool} {held : Bool} {fuel : Nat} {a : Option Addr} {len cap : Nat} {x : DataW H × List MemPlace}
    (h : DataW.trod enc Try.prog w base spare held fuel 22 [.slice a len cap] = some x) :
    len ≤ 9223372036854775807 ∧ ∃ q : Nat → Int × Int × Int × Int × ByteArray × ByteArray, ∀ i, i < len → StepAt w a i (q i) := by
  rcases open_slice Try.underlying22 h with ⟨hcs, _⟩ | ⟨x0, l, c, m, n, D, Pl, hcs, hb, hl, hm, hmm, _, hx⟩
  · simp at hcs
    obtain ⟨rfl, rfl, rfl⟩ := hcs
    exact ⟨by omega, fun _ => (0, 0, 0, 0, .empty, .empty), fun i hi => absurd hi (by omega)⟩
  · simp at hcs
    obtain ⟨rfl, rfl, rfl⟩ := hcs
    have hmL : maxLen ≤ 9223372036854775807 := by decide
    have hlm : len ≤ m := by rw [hmm]; split <;> omega
    refine ⟨by omega, choose_lt fun i hi => ?_⟩
    have hsp : x0.spot = none := by
      obtain ⟨cs', h1, _⟩ := hx 0 (by omega)
      rw [cellsOfStep] at h1
      obtain ⟨_, hlen, hcell⟩ := World.cells?_some h1
      have c0 := hcell 0 (by omega)
      rw [List.getElem?_eq_getElem (by omega)] at c0
      have := World.cell?_spot c0
      simpa [Addr.add] using this
    obtain ⟨cs', h1, h2⟩ := hx i (by omega)
    rw [cellsOfStep] at h1
    obtain ⟨_, hlen, hcell⟩ := World.cells?_some h1
    obtain ⟨xs, k, hk, hxy, _, hxl, hf⟩ := DataW.trod_struct Try.underlying44 h2
    match xs, hxl, cs', hlen with
    | [y0, y1, y2, y3, y4, y5], _, [v0, v1, v2, v3, v4, v5], _ =>
      have g0 := hf 0 _ rfl
      have g1 := hf 1 _ rfl
      have g2 := hf 2 _ rfl
      have g3 := hf 3 _ rfl
      have g4 := hf 4 _ rfl
      have g5 := hf 5 _ rfl
      simp [cellsOfNum, cellsOfStr] at g0 g1 g2 g3 g4 g5
      obtain ⟨n0, e0, _, b0⟩ := DataW.trod_int Try.underlying3 g0
      obtain ⟨n1, e1, _, b1⟩ := DataW.trod_int Try.underlying3 g1
      obtain ⟨n2, e2, _, b2⟩ := DataW.trod_int Try.underlying3 g2
      obtain ⟨n3, e3, _, b3⟩ := DataW.trod_int Try.underlying3 g3
      obtain ⟨s4, e4, _, b4⟩ := DataW.trod_string Try.underlying9 g4
      obtain ⟨s5, e5, _, b5⟩ := DataW.trod_string Try.underlying9 g5
      simp at e0 e1 e2 e3 e4 e5
      subst e0 e1 e2 e3 e4 e5
      have c0 := hcell 0 (by omega)
      have c1 := hcell 1 (by omega)
      have c2 := hcell 2 (by omega)
      have c3 := hcell 3 (by omega)
      have c4 := hcell 4 (by omega)
      have c5 := hcell 5 (by omega)
      have hlt := World.block_lt_of_cell? w _ c0
      obtain ⟨b, o, sp⟩ := x0
      obtain rfl : sp = none := hsp
      simp only [add_plain] at c0 c1 c2 c3 c4 c5 hlt
      exact ⟨(n0, n1, n2, n3, s4, s5), b, o, rfl, hlt, by simpa using c0, c1, c2, c3, c4, c5, i64_of_wf b0, i64_of_wf b1, i64_of_wf b2, i64_of_wf b3, b4, b5⟩
end Go.Proofs.Qxb6500367a
