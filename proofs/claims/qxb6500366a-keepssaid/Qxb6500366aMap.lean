/-
  A MAP KEYED BY WHOLE COMPLEX NUMBERS: look-up, store, delete, len.
-/
import Derived.Test.Qxb6500366aWhole
import Derived.Test.Qxb6500366aLib
import Derived.Maps.Keyed
import Derived.Carry
import Derived.ProofKit
namespace Go.Qx
open Go Go.RowKit
set_option linter.unusedVariables false
set_option linter.unusedSimpArgs false

abbrev Pt := Int × Int

/-- A complex value that stands for the point p. -/
def CW (v : Value) (p : Pt) : Prop := ∃ a b, v = .complex .f64 a b ∧ W64 a p.1 ∧ W64 b p.2

theorem eq_cw {P : Program} {t : TypeId} {q : FloatKind} (ht : P.underlying t = some (.complex q)) {u v : Value} {p r : Pt} (hu : CW u p) (hv : CW v r) (w : World) : (Op.equal t u v).run P w = .ok (decide (p = r)) w := by
  obtain ⟨a, b, rfl, h1, h2⟩ := hu
  obtain ⟨c, d, rfl, h3, h4⟩ := hv
  have e : (Op.floatEq .f64 a c && Op.floatEq .f64 b d) = decide (p = r) := by
    unfold Op.floatEq
    rw [w64_order h1 h3, w64_order h2 h4, cmp_eq, cmp_eq]
    obtain ⟨p1, p2⟩ := p
    obtain ⟨r1, r2⟩ := r
    simp [Prod.ext_iff]
  have g : ∀ n, (Op.equalIn (n + 1) t (.complex .f64 a b) (.complex .f64 c d)).run P w = .ok (decide (p = r)) w := fun n => by
    simp only [Op.equalIn, Sem.run_bind, run_underlying ht, Result.andThen_ok, if_true, Sem.run_pure, e]
  exact g 9999

/-- The entries stand for the points and counts of l, in this order. -/
def Ents : List MapEntry → List (Pt × Int) → Prop
  | [], [] => True
  | e :: es, x :: l => (CW e.key x.1 ∧ e.val = .int .i64 x.2) ∧ Ents es l
  | _, _ => False

/-- The place of a point. -/
def placeOf (p : Pt) : List (Pt × Int) → Nat → Option (Nat × Int)
  | [], _ => none
  | x :: l, i => if p = x.1 then some (i, x.2) else placeOf p l (i + 1)

theorem run_findAsking {P : Program} {t : TypeId} {q : FloatKind} (ht : P.underlying t = some (.complex q)) {k : Value} {p : Pt} (hk : CW k p) (w : World) : ∀ (es : List MapEntry) (l : List (Pt × Int)) (i : Nat), Ents es l →
    (Instr.findAsking t k es i).run P w = .ok ((placeOf p l i).map fun x => (x.1, .int .i64 x.2)) w
  | [], [], i, _ => by simp [Instr.findAsking, placeOf]
  | [], _ :: _, _, h => h.elim
  | _ :: _, [], _, h => h.elim
  | e :: es, x :: l, i, ⟨⟨h1, h2⟩, hr⟩ => by
    simp only [Instr.findAsking, Sem.run_bind, eq_cw ht hk h1 w, Result.andThen_ok, placeOf]
    by_cases h : p = x.1
    · simp [h, h2]
    · simp [h, run_findAsking ht hk w es l (i + 1) hr]

theorem findNow_complex {q : FloatKind} {k : Value} {p : Pt} (hk : CW k p) : ∀ (es : List MapEntry) (i : Nat), es ≠ [] → Instr.findNow (.complex q) k es i = none
  | [], _, h => absurd rfl h
  | e :: es, i, _ => by
    obtain ⟨a, b, rfl, _⟩ := hk
    simp [Instr.findNow, Instr.sameNow]

theorem run_findKey {P : Program} {t : TypeId} {q : FloatKind} (ht : P.underlying t = some (.complex q)) {k : Value} {p : Pt} (hk : CW k p) (w : World) (es : List MapEntry) (l : List (Pt × Int)) (h : Ents es l) :
    (Instr.findKey t k es).run P w = .ok ((placeOf p l 0).map fun x => (x.1, .int .i64 x.2)) w := by
  unfold Instr.findKey
  simp only [Sem.run_bind, run_underlying ht, Result.andThen_ok]
  cases es with
  | nil =>
    cases l with
    | nil => simp [Instr.findNow, placeOf]
    | cons _ _ => exact h.elim
  | cons e es =>
    rw [findNow_complex hk (e :: es) 0 (by simp)]
    exact run_findAsking ht hk w (e :: es) l 0 h

theorem run_checkC {P : Program} {t : TypeId} {q : FloatKind} (ht : P.underlying t = some (.complex q)) {k : Value} {p : Pt} (hk : CW k p) (w : World) (b : Bool) : (Instr.checkKey b 10000 t k).run P w = .ok () w := by
  obtain ⟨x, y, rfl, _⟩ := hk
  have g : ∀ n, (Instr.checkKey b (n + 1) t (.complex .f64 x y)).run P w = .ok () w := fun n => by
    simp [Instr.checkKey, run_underlying ht]
  exact g 9999

/-- Block b holds the map whose entries stand for l. -/
def MapR (w : World) (b : Nat) (l : List (Pt × Int)) : Prop := ∃ es clock, w.heap[b]? = some (.map es clock) ∧ Ents es.toList l

def valAt (p : Pt) (l : List (Pt × Int)) : Int := ((placeOf p l 0).map Prod.snd).getD 0

theorem MapR.look {P : Program} {m k e : TypeId} {q : FloatKind} {w : World} {b : Nat} {l : List (Pt × Int)} (h : MapR w b l) (hm : P.underlying m = some (.map k e)) (hk : P.underlying k = some (.complex q)) (hz : (zeroValue e).run P w = .ok (.int .i64 0) w) {key : Value} {p : Pt} (hp : CW key p) :
    (Instr.lookup m (.map (some b)) key false).run P w = .ok (.int .i64 (valAt p l)) w := by
  obtain ⟨es, clock, hb, hE⟩ := h
  simp only [Instr.lookup, Sem.run_bind, run_underlying hm, Result.andThen_ok, MapKept.run_getObj_map hb, Sem.run_pure, run_checkC hk hp, run_findKey hk hp w _ _ hE]
  unfold valAt
  cases placeOf p l 0 with
  | none => simp [hz]
  | some x => simp

theorem placeOf_spec (p : Pt) : ∀ (l : List (Pt × Int)) (i j : Nat) (n : Int), placeOf p l i = some (j, n) → i ≤ j ∧ l[j - i]? = some (p, n)
  | [], i, j, n, h => by cases h
  | x :: l, i, j, n, h => by
    unfold placeOf at h
    split at h
    · rename_i hp
      cases h
      refine ⟨Nat.le_refl _, ?_⟩
      rw [Nat.sub_self, hp]; rfl
    · obtain ⟨h1, h2⟩ := placeOf_spec p l (i + 1) j n h
      refine ⟨by omega, ?_⟩
      rw [show j - i = (j - (i + 1)) + 1 by omega, List.getElem?_cons_succ]; exact h2

theorem Ents.length : ∀ {es : List MapEntry} {l : List (Pt × Int)}, Ents es l → es.length = l.length
  | [], [], _ => rfl
  | [], _ :: _, h => h.elim
  | _ :: _, [], h => h.elim
  | _ :: _, _ :: _, ⟨_, h⟩ => by simp [Ents.length h]

theorem Ents.get : ∀ {es : List MapEntry} {l : List (Pt × Int)}, Ents es l → ∀ {j : Nat} {x : Pt × Int}, l[j]? = some x → ∃ e, es[j]? = some e ∧ CW e.key x.1 ∧ e.val = .int .i64 x.2
  | [], [], _, _, _, h => by simp at h
  | [], _ :: _, h, _, _, _ => h.elim
  | _ :: _, [], h, _, _, _ => h.elim
  | e :: es, y :: l, ⟨h1, h2⟩, 0, x, h => by
    simp at h; subst h; exact ⟨e, rfl, h1.1, h1.2⟩
  | e :: es, y :: l, ⟨h1, h2⟩, j + 1, x, h => by
    rw [List.getElem?_cons_succ] at h
    obtain ⟨e', h3, h4⟩ := Ents.get h2 h
    exact ⟨e', by rw [List.getElem?_cons_succ]; exact h3, h4⟩

theorem Ents.modify {k : Value} {p : Pt} (hk : CW k p) (v : Int) : ∀ {es : List MapEntry} {l : List (Pt × Int)} (j : Nat), Ents es l → Ents (es.modify j fun e => { e with key := k, val := .int .i64 v }) (l.set j (p, v))
  | [], [], j, _ => by cases j <;> trivial
  | [], _ :: _, _, h => h.elim
  | _ :: _, [], _, h => h.elim
  | e :: es, y :: l, 0, ⟨h1, h2⟩ => by
    simp only [List.modify_zero_cons, List.set_cons_zero]
    exact ⟨⟨hk, rfl⟩, h2⟩
  | e :: es, y :: l, j + 1, ⟨h1, h2⟩ => by
    simp only [List.modify_succ_cons, List.set_cons_succ]
    exact ⟨h1, Ents.modify hk v j h2⟩

theorem Ents.snoc {e : MapEntry} {x : Pt × Int} (hk : CW e.key x.1) (hv : e.val = .int .i64 x.2) : ∀ {es : List MapEntry} {l : List (Pt × Int)}, Ents es l → Ents (es ++ [e]) (l ++ [x])
  | [], [], _ => ⟨⟨hk, hv⟩, trivial⟩
  | [], _ :: _, h => h.elim
  | _ :: _, [], h => h.elim
  | _ :: _, _ :: _, ⟨h1, h2⟩ => ⟨h1, Ents.snoc hk hv h2⟩

theorem Ents.erase : ∀ {es : List MapEntry} {l : List (Pt × Int)} (j : Nat), Ents es l → Ents (es.eraseIdx j) (l.eraseIdx j)
  | [], [], j, _ => by simp [Ents]
  | [], _ :: _, _, h => h.elim
  | _ :: _, [], _, h => h.elim
  | _ :: _, _ :: _, 0, ⟨_, h⟩ => h
  | _ :: _, _ :: _, j + 1, ⟨h1, h2⟩ => ⟨h1, Ents.erase j h2⟩

/-- The point's count stored. -/
def putL (p : Pt) (v : Int) (l : List (Pt × Int)) : List (Pt × Int) := match placeOf p l 0 with
  | some (j, _) => l.set j (p, v)
  | none => l ++ [(p, v)]
/-- The point dropped. -/
def dropL (p : Pt) (l : List (Pt × Int)) : List (Pt × Int) := match placeOf p l 0 with
  | some (j, _) => l.eraseIdx j
  | none => l

theorem run_stays {P : Program} {old new : Value} {p : Pt} (ho : CW old p) (hn : CW new p) (w : World) : ∃ k w1, (Instr.keyThatStays old new).run P w = .ok k w1 ∧ CW k p ∧ (w1 = w ∨ w1 = w.drew) := by
  unfold Instr.keyThatStays
  by_cases h : Instr.sameBits 10000 old new = true
  · exact ⟨new, w, by rw [if_pos h]; rfl, hn, .inl rfl⟩
  · rw [if_neg h]
    simp only [Sem.run_bind, run_choose_drew]
    by_cases hf : (Question.extern "map.whichKeyStays" 2).forced = true
    · rw [if_pos hf]
      exact ⟨new, w, by simp, hn, .inl rfl⟩
    · rw [if_neg hf]
      simp only [Result.andThen_ok, Sem.run_pure]
      split
      · exact ⟨new, _, rfl, hn, .inr rfl⟩
      · exact ⟨old, _, rfl, ho, .inr rfl⟩

theorem chg_map {w w1 : World} (h : w1 = w ∨ w1 = w.drew) (b : Nat) (o : Obj) : Chg (fun k => k = b) w { w1 with heap := w1.heap.setIfInBounds b o } := by
  have hs : Chg (fun k => k = b) w w1 := by
    rcases h with rfl | rfl
    · exact Chg.refl _ _
    · exact (Chg.refl _ _).drew
  refine ⟨hs.os, hs.tape, hs.output, by simpa using hs.size, fun k hk hne => ?_⟩
  show (w1.heap.setIfInBounds b o)[k]? = _
  rw [Array.getElem?_setIfInBounds_ne (fun e => hne e.symm)]
  exact hs.block k hk hne

theorem MapR.of_chg {S : Nat → Prop} {w w' : World} {b : Nat} {l : List (Pt × Int)} (h : MapR w b l) (c : Chg S w w') (hS : ¬ S b) : MapR w' b l := by
  obtain ⟨es, clock, hb, hE⟩ := h
  exact ⟨es, clock, (c.block b (Array.getElem?_eq_some_iff.1 hb).1 hS).trans hb, hE⟩
theorem MapR.quiet {w w' : World} {b : Nat} {l : List (Pt × Int)} (h : MapR w b l) (c : Quiet w w') : MapR w' b l := h.of_chg c id
theorem MapR.lt {w : World} {b : Nat} {l : List (Pt × Int)} (h : MapR w b l) : b < w.heap.size := by
  obtain ⟨es, clock, hb, hE⟩ := h
  exact (Array.getElem?_eq_some_iff.1 hb).1
theorem MapR.new (w : World) : MapR (w.alloc (.map #[] 0)) w.heap.size [] := ⟨#[], 0, (MapKept.heap_alloc w _).1, trivial⟩

theorem MapR.store {P : Program} {m k e : TypeId} {q : FloatKind} {w : World} {b : Nat} {l : List (Pt × Int)} (h : MapR w b l) (hm : P.underlying m = some (.map k e)) (hk : P.underlying k = some (.complex q)) {key : Value} {p : Pt} (hp : CW key p) (v : Int) :
    ∃ w', (Instr.mapUpdate m (.map (some b)) key (.int .i64 v)).run P w = .ok () w' ∧ Chg (fun i => i = b) w w' ∧ MapR w' b (putL p v l) := by
  have hlt := h.lt
  obtain ⟨es, clock, hb, hE⟩ := h
  unfold putL
  cases hpl : placeOf p l 0 with
  | none =>
    refine ⟨{ w with heap := w.heap.setIfInBounds b (.map (es.push ⟨key, .int .i64 v, clock⟩) (clock + 1)) }, ?_, chg_map (.inl rfl) b _, es.push ⟨key, .int .i64 v, clock⟩, clock + 1, ?_, ?_⟩
    · simp only [Instr.mapUpdate, Sem.run_bind, run_underlying hm, Result.andThen_ok, MapKept.run_getObj_map hb, run_checkC hk hp, run_findKey hk hp w _ _ hE, hpl, Option.map_none, MapKept.run_setObj_map _ hb]
    · show (w.heap.setIfInBounds b _)[b]? = _
      rw [Array.getElem?_setIfInBounds_self_of_lt hlt]
    · rw [Array.toList_push]
      exact Ents.snoc hp rfl hE
  | some x =>
    obtain ⟨j, n⟩ := x
    obtain ⟨_, hj⟩ := placeOf_spec p l 0 j n hpl
    rw [Nat.sub_zero] at hj
    obtain ⟨e0, he0, hck, _⟩ := Ents.get hE hj
    have he1 : es[j]? = some e0 := by simpa using he0
    obtain ⟨kk, w1, hrun, hkk, hw1⟩ := run_stays (P := P) hck hp w
    have hb1 : w1.heap[b]? = some (.map es clock) := by rcases hw1 with rfl | rfl <;> exact hb
    refine ⟨{ w1 with heap := w1.heap.setIfInBounds b (.map (es.modify j fun e => { e with key := kk, val := .int .i64 v }) clock) }, ?_, chg_map hw1 b _, es.modify j (fun e => { e with key := kk, val := .int .i64 v }), clock, ?_, ?_⟩
    · simp only [Instr.mapUpdate, Sem.run_bind, run_underlying hm, Result.andThen_ok, MapKept.run_getObj_map hb, run_checkC hk hp, run_findKey hk hp w _ _ hE, hpl, Option.map_some, he1, Option.getD_some, hrun, MapKept.run_setObj_map _ hb1]
    · show (w1.heap.setIfInBounds b _)[b]? = _
      rw [Array.getElem?_setIfInBounds_self_of_lt (by rcases hw1 with rfl | rfl <;> exact hlt)]
    · rw [Array.toList_modify]
      exact Ents.modify hkk v j hE

theorem MapR.drop {P : Program} {m k e : TypeId} {q : FloatKind} {w : World} {b : Nat} {l : List (Pt × Int)} (h : MapR w b l) (hm : P.underlying m = some (.map k e)) (hk : P.underlying k = some (.complex q)) {key : Value} {p : Pt} (hp : CW key p) (ty : TypeId) :
    ∃ w', (Builtin.delete_ #[m, k] ty #[.map (some b), key]).run P w = .ok (.tuple #[]) w' ∧ Chg (fun i => i = b) w w' ∧ MapR w' b (dropL p l) := by
  have hlt := h.lt
  obtain ⟨es, clock, hb, hE⟩ := h
  unfold dropL
  cases hpl : placeOf p l 0 with
  | none =>
    refine ⟨{ w with heap := w.heap.setIfInBounds b (.map es clock) }, ?_, chg_map (.inl rfl) b _, es, clock, ?_, hE⟩
    · simp [Builtin.delete_, run_underlying hm, MapKept.run_getObj_map hb, run_checkC hk hp, run_findKey hk hp w _ _ hE, hpl, MapKept.run_setObj_map _ hb, Result.andThen]
    · show (w.heap.setIfInBounds b _)[b]? = _
      rw [Array.getElem?_setIfInBounds_self_of_lt hlt]
  | some x =>
    obtain ⟨j, n⟩ := x
    obtain ⟨_, hj⟩ := placeOf_spec p l 0 j n hpl
    rw [Nat.sub_zero] at hj
    obtain ⟨e0, he0, _⟩ := Ents.get hE hj
    have hjl : j < es.size := by
      have := (List.getElem?_eq_some_iff.1 he0).1
      simpa using this
    have hsub : (es.eraseIdxIfInBounds j).toList = es.toList.eraseIdx j := by
      unfold Array.eraseIdxIfInBounds
      rw [dif_pos hjl]
      simp
    refine ⟨{ w with heap := w.heap.setIfInBounds b (.map (es.eraseIdxIfInBounds j) clock) }, ?_, chg_map (.inl rfl) b _, es.eraseIdxIfInBounds j, clock, ?_, ?_⟩
    · simp [Builtin.delete_, run_underlying hm, MapKept.run_getObj_map hb, run_checkC hk hp, run_findKey hk hp w _ _ hE, hpl, MapKept.run_setObj_map _ hb, Result.andThen]
    · show (w.heap.setIfInBounds b _)[b]? = _
      rw [Array.getElem?_setIfInBounds_self_of_lt hlt]
    · rw [hsub]
      exact Ents.erase j hE

theorem MapR.len {P : Program} {m k e : TypeId} {w : World} {b : Nat} {l : List (Pt × Int)} (h : MapR w b l) (hm : P.underlying m = some (.map k e)) (ty : TypeId) : (Builtin.len_ #[m] ty #[.map (some b)]).run P w = .ok (.int .i64 l.length) w := by
  obtain ⟨es, clock, hb, hE⟩ := h
  have := hE.length
  simp only [Array.length_toList] at this
  simp [Builtin.len_, run_underlying hm, MapKept.run_getObj_map hb, this]
  rfl
end Go.Qx
