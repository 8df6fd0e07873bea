/-
  A MAP KEYED BY RUNES: look-up, look-up with the comma ok, store, a new map.
-/
import Derived.Test.Qxb6500370aLib
import Derived.Maps.Keyed
import Derived.Carry
import Derived.ProofKit
namespace Go.Qx
open Go Go.RowKit
set_option linter.unusedVariables false
set_option linter.unusedSimpArgs false
open Classical

/-- A rune as a key. -/
abbrev rk (k : Int) : Value := .int .i32 k

/-- What stands at a key. -/
noncomputable def findI (k : Int) : List MapEntry → Option Value
  | [] => none
  | e :: es => if e.key = rk k then some e.val else findI k es

theorem sameNow_rk {q : IntKind} (k k' : Int) : Instr.sameNow (.int q) (rk k) (rk k') = some (k == k') := by
  simp [Instr.sameNow, rk]

theorem findNow_rk {q : IntKind} (k : Int) : ∀ (es : List MapEntry) (i : Nat), (∀ e ∈ es, ∃ k', e.key = rk k') →
    (∃ j v, Instr.findNow (.int q) (rk k) es i = some (some (j, v)) ∧ i ≤ j ∧ findI k es = some v ∧ (∃ e0, es[j - i]? = some e0 ∧ e0.key = rk k) ∧
      ∀ (u : Value) (k' : Int), findI k' (es.modify (j - i) fun e => { e with key := rk k, val := u }) = if k' = k then some u else findI k' es) ∨
    (Instr.findNow (.int q) (rk k) es i = some none ∧ findI k es = none)
  | [], i, _ => .inr ⟨rfl, rfl⟩
  | e :: es, i, h => by
    obtain ⟨k0, hk0⟩ := h e (by simp)
    by_cases e0 : k0 = k
    · subst e0
      refine .inl ⟨i, e.val, ?_, Nat.le_refl _, ?_, ⟨e, ?_, hk0⟩, ?_⟩
      · simp [Instr.findNow, hk0, sameNow_rk]
      · simp [findI, hk0]
      · simp
      · intro u k'
        rw [Nat.sub_self, List.modify_zero_cons]
        by_cases e1 : k' = k0
        · subst e1; simp [findI]
        · have e2 : ¬ rk k0 = rk k' := fun x => e1 (by cases x; rfl)
          simp [findI, e1, hk0, e2]
    · have e2 : ¬ e.key = rk k := fun x => e0 (by rw [hk0] at x; cases x; rfl)
      rcases findNow_rk (q := q) k es (i + 1) (fun x hx => h x (by simp [hx])) with ⟨j, v, h1, h2, h3, ⟨w0, h4, h4'⟩, h5⟩ | ⟨h1, h2⟩
      · refine .inl ⟨j, v, ?_, by omega, ?_, ⟨w0, ?_, h4'⟩, ?_⟩
        · have hne : (k == k0) = false := by simpa using fun x => e0 x.symm
          simp [Instr.findNow, hk0, sameNow_rk, hne, h1]
        · simp [findI, e2, h3]
        · rw [show j - i = (j - (i + 1)) + 1 by omega, List.getElem?_cons_succ]; exact h4
        · intro u k'
          rw [show j - i = (j - (i + 1)) + 1 by omega, List.modify_succ_cons]
          by_cases e1 : k' = k0
          · subst e1
            simp [findI, hk0, e0]
          · have e3 : ¬ e.key = rk k' := fun x => e1 (by rw [hk0] at x; cases x; rfl)
            rw [findI, if_neg e3, h5 u k', findI, if_neg e3]
      · refine .inr ⟨?_, ?_⟩
        · have hne : (k == k0) = false := by simpa using fun x => e0 x.symm
          simp [Instr.findNow, hk0, sameNow_rk, hne, h1]
        · simp [findI, e2, h2]

theorem findI_snoc (k : Int) (v : Value) (c : Nat) (k' : Int) : ∀ es : List MapEntry, findI k es = none → findI k' (es ++ [⟨rk k, v, c⟩]) = if k' = k then some v else findI k' es
  | [], _ => by
    by_cases e : k' = k
    · subst e; simp [findI]
    · have : ¬ rk k = rk k' := fun x => e (by cases x; rfl)
      simp [findI, e, this]
  | e :: es, h => by
    rw [findI] at h
    split at h
    · cases h
    · rename_i he
      have ih := findI_snoc k v c k' es h
      rw [List.cons_append, findI]
      by_cases e1 : e.key = rk k'
      · rw [if_pos e1, findI, if_pos e1]
        have : ¬ k' = k := fun x => he (by rw [← x]; exact e1)
        rw [if_neg this]
      · rw [if_neg e1, ih, findI, if_neg e1]

/-- Block b holds the map f. -/
def MapI (w : World) (b : Nat) (f : Int → Option Value) : Prop := ∃ es clock, w.heap[b]? = some (.map es clock) ∧ (∀ e ∈ es.toList, ∃ k, e.key = rk k) ∧ ∀ k, findI k es.toList = f k

theorem run_checkI {P : Program} {t : TypeId} {q : IntKind} (ht : P.underlying t = some (.int q)) (k : Int) (w : World) (b : Bool) : (Instr.checkKey b 10000 t (rk k)).run P w = .ok () w := by
  have g : ∀ n, (Instr.checkKey b (n + 1) t (rk k)).run P w = .ok () w := fun n => by
    simp [Instr.checkKey, run_underlying ht]
  exact g 9999

theorem run_findKeyI {P : Program} {t : TypeId} {q : IntKind} (ht : P.underlying t = some (.int q)) (k : Int) (w : World) (es : List MapEntry) {r : Option (Nat × Value)} (h : Instr.findNow (.int q) (rk k) es 0 = some r) : (Instr.findKey t (rk k) es).run P w = .ok r w := by
  unfold Instr.findKey
  simp only [Sem.run_bind, run_underlying ht, Result.andThen_ok, h, Sem.run_pure]

theorem MapI.look {P : Program} {m k e : TypeId} {q : IntKind} {w : World} {b : Nat} {f : Int → Option Value} (h : MapI w b f) (hm : P.underlying m = some (.map k e)) (hk : P.underlying k = some (.int q)) {z : Value} (hz : (zeroValue e).run P w = .ok z w) (c : Int) :
    (Instr.lookup m (.map (some b)) (rk c) false).run P w = .ok ((f c).getD z) w := by
  obtain ⟨es, clock, hb, hK, hE⟩ := h
  have hc := hE c
  rcases findNow_rk (q := q) c es.toList 0 hK with ⟨j, v, h1, _, h3, _⟩ | ⟨h1, h3⟩
  · simp only [Instr.lookup, Sem.run_bind, run_underlying hm, Result.andThen_ok, MapKept.run_getObj_map hb, Sem.run_pure, run_checkI hk, run_findKeyI hk c w _ h1]
    rw [← hc, h3]; simp
  · simp only [Instr.lookup, Sem.run_bind, run_underlying hm, Result.andThen_ok, MapKept.run_getObj_map hb, Sem.run_pure, run_checkI hk, run_findKeyI hk c w _ h1]
    rw [← hc, h3]; simp [hz]
theorem MapI.look2 {P : Program} {m k e : TypeId} {q : IntKind} {w : World} {b : Nat} {f : Int → Option Value} (h : MapI w b f) (hm : P.underlying m = some (.map k e)) (hk : P.underlying k = some (.int q)) {z : Value} (hz : (zeroValue e).run P w = .ok z w) (c : Int) :
    (Instr.lookup m (.map (some b)) (rk c) true).run P w = .ok (.tuple #[(f c).getD z, .bool (f c).isSome]) w := by
  obtain ⟨es, clock, hb, hK, hE⟩ := h
  have hc := hE c
  rcases findNow_rk (q := q) c es.toList 0 hK with ⟨j, v, h1, _, h3, _⟩ | ⟨h1, h3⟩
  · simp only [Instr.lookup, Sem.run_bind, run_underlying hm, Result.andThen_ok, MapKept.run_getObj_map hb, Sem.run_pure, run_checkI hk, run_findKeyI hk c w _ h1]
    rw [← hc, h3]; simp
  · simp only [Instr.lookup, Sem.run_bind, run_underlying hm, Result.andThen_ok, MapKept.run_getObj_map hb, Sem.run_pure, run_checkI hk, run_findKeyI hk c w _ h1]
    rw [← hc, h3]; simp [hz]

theorem chg_mapI {w : World} (b : Nat) (o : Obj) : Chg (fun k => k = b) w { w with heap := w.heap.setIfInBounds b o } := by
  refine ⟨rfl, rfl, rfl, by simp, fun k hk hne => ?_⟩
  show (w.heap.setIfInBounds b o)[k]? = _
  rw [Array.getElem?_setIfInBounds_ne (fun e => hne e.symm)]

theorem MapI.of_chg {S : Nat → Prop} {w w' : World} {b : Nat} {f : Int → Option Value} (h : MapI w b f) (c : Chg S w w') (hS : ¬ S b) : MapI w' b f := by
  obtain ⟨es, clock, hb, hE⟩ := h
  exact ⟨es, clock, (c.block b (Array.getElem?_eq_some_iff.1 hb).1 hS).trans hb, hE⟩
theorem MapI.quiet {w w' : World} {b : Nat} {f : Int → Option Value} (h : MapI w b f) (c : Quiet w w') : MapI w' b f := h.of_chg c id
theorem MapI.lt {w : World} {b : Nat} {f : Int → Option Value} (h : MapI w b f) : b < w.heap.size := by
  obtain ⟨es, clock, hb, hE⟩ := h
  exact (Array.getElem?_eq_some_iff.1 hb).1
theorem MapI.new (w : World) : MapI (w.alloc (.map #[] 0)) w.heap.size (fun _ => none) := ⟨#[], 0, (MapKept.heap_alloc w _).1, fun e he => (by simp at he), fun k => rfl⟩

/-- The map with one key stored. -/
def setI (f : Int → Option Value) (c : Int) (v : Value) : Int → Option Value := fun k => if k = c then some v else f k

theorem MapI.store {P : Program} {m k e : TypeId} {q : IntKind} {w : World} {b : Nat} {f : Int → Option Value} (h : MapI w b f) (hm : P.underlying m = some (.map k e)) (hk : P.underlying k = some (.int q)) (c : Int) (v : Value) :
    ∃ w', (Instr.mapUpdate m (.map (some b)) (rk c) v).run P w = .ok () w' ∧ Chg (fun i => i = b) w w' ∧ MapI w' b (setI f c v) := by
  have hlt := h.lt
  obtain ⟨es, clock, hb, hK, hE⟩ := h
  rcases findNow_rk (q := q) c es.toList 0 hK with ⟨j, v0, h1, _, h3, ⟨e0, h4, h4'⟩, h5⟩ | ⟨h1, h3⟩
  · rw [Nat.sub_zero] at h4 h5
    have he1 : es[j]? = some e0 := by simpa using h4
    have hst : (Instr.keyThatStays e0.key (rk c)).run P w = .ok (rk c) w := by
      rw [h4']
      have : Instr.sameBits 10000 (rk c) (rk c) = true := by simp [Instr.sameBits, rk]
      unfold Instr.keyThatStays
      rw [if_pos this]; rfl
    refine ⟨{ w with heap := w.heap.setIfInBounds b (.map (es.modify j fun e => { e with key := rk c, val := v }) clock) }, ?_, chg_mapI b _, es.modify j (fun e => { e with key := rk c, val := v }), clock, ?_, ?_, ?_⟩
    · simp only [Instr.mapUpdate, Sem.run_bind, run_underlying hm, Result.andThen_ok, MapKept.run_getObj_map hb, run_checkI hk, run_findKeyI hk c w _ h1, he1, Option.map_some, Option.getD_some, hst, MapKept.run_setObj_map _ hb]
    · show (w.heap.setIfInBounds b _)[b]? = _
      rw [Array.getElem?_setIfInBounds_self_of_lt hlt]
    · intro e he
      rw [Array.toList_modify] at he
      obtain ⟨i, hi⟩ := List.getElem?_of_mem he
      rw [List.getElem?_modify] at hi
      cases hx : es.toList[i]? with
      | none => rw [hx] at hi; cases hi
      | some x =>
        rw [hx] at hi
        simp at hi
        by_cases ej : j = i
        · rw [if_pos ej] at hi; subst hi; exact ⟨c, rfl⟩
        · rw [if_neg ej] at hi; subst hi; exact hK _ (List.mem_of_getElem? hx)
    · intro k'
      rw [Array.toList_modify, h5 v k']
      unfold setI
      by_cases e : k' = c
      · rw [if_pos e, if_pos e]
      · rw [if_neg e, if_neg e, hE k']
  · refine ⟨{ w with heap := w.heap.setIfInBounds b (.map (es.push ⟨rk c, v, clock⟩) (clock + 1)) }, ?_, chg_mapI b _, es.push ⟨rk c, v, clock⟩, clock + 1, ?_, ?_, ?_⟩
    · simp only [Instr.mapUpdate, Sem.run_bind, run_underlying hm, Result.andThen_ok, MapKept.run_getObj_map hb, run_checkI hk, run_findKeyI hk c w _ h1, MapKept.run_setObj_map _ hb]
    · show (w.heap.setIfInBounds b _)[b]? = _
      rw [Array.getElem?_setIfInBounds_self_of_lt hlt]
    · intro e he
      rw [Array.toList_push] at he
      rcases List.mem_append.1 he with he | he
      · exact hK e he
      · simp at he; subst he; exact ⟨c, rfl⟩
    · intro k'
      rw [Array.toList_push, findI_snoc c v clock k' es.toList h3]
      unfold setI
      by_cases e : k' = c
      · rw [if_pos e, if_pos e]
      · rw [if_neg e, if_neg e, hE k']
end Go.Qx
