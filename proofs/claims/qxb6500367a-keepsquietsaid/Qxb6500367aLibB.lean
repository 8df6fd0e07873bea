/-
  OUR OWN SMALL LIBRARY, second part: results that lie in a block; equality of answers.
-/
import Derived.Test.Qxb6500367aLib
namespace Go.Qx
open Go.RowKit

theorem run_loadCells_blk {P : Program} {w : World} {b : Nat} {u : TypeId} {cs : List Value} (hb : Blk w b u cs) : (loadCells ⟨b, 0, none⟩ cs.length).run P w = .ok cs.toArray w := by
  refine run_loadCells_list (P := P) w ⟨b, 0, none⟩ cs ?_
  intro j v hj
  have : (⟨b, 0, none⟩ : Addr).add j = ⟨b, j, none⟩ := by unfold Addr.add; split <;> simp_all
  rw [this, hb.cell j]; exact hj

/-- One result, a struct in a block of its own. -/
theorem results_blk {P : Program} {fn : Func} {tmps : Array Value} {w : World} {p : Tmp} {ty : TypeId} {b : Nat} {u : TypeId} {cs : List Value} (h : fn.results = #[.cell p ty]) (ht : tmps.getD p undef = .pointer (some ⟨b, 0, none⟩))
    (ha : ∀ w, (isAgg ty).run P w = .ok true w) (hs : ∀ w, (sizeOf ty).run P w = .ok cs.length w) (hb : Blk w b u cs) : (results fn tmps).run P w = .ok (.agg cs.toArray) w := by
  have ht' : tmps[p]?.getD undef = .pointer (some ⟨b, 0, none⟩) := by rw [← ht]; simp
  simp only [results, h]
  simp [ht', asAddr, loadVar, ha, hs, run_loadCells_blk hb]

/-- Two results, the first a struct in a block of its own. -/
theorem results_blk_tmp {P : Program} {fn : Func} {tmps : Array Value} {w : World} {p q : Tmp} {ty : TypeId} {b : Nat} {u : TypeId} {cs : List Value} (h : fn.results = #[.cell p ty, .tmp q]) (ht : tmps.getD p undef = .pointer (some ⟨b, 0, none⟩))
    (ha : ∀ w, (isAgg ty).run P w = .ok true w) (hs : ∀ w, (sizeOf ty).run P w = .ok cs.length w) (hb : Blk w b u cs) : (results fn tmps).run P w = .ok (.tuple #[.agg cs.toArray, tmps.getD q undef]) w := by
  have ht' : tmps[p]?.getD undef = .pointer (some ⟨b, 0, none⟩) := by rw [← ht]; simp
  simp only [results, h]
  simp [ht', asAddr, loadVar, ha, hs, run_loadCells_blk hb]
end Go.Qx
