/-
  THE REAL GAME: what the tries have taught, in memory: maps with their number of keys; one try taken in, plainly.
-/
import Derived.Test.Qxb6500370aMarks
namespace Go.Qx
open Go Go.RowKit
set_option linter.unusedVariables false
set_option linter.unusedSimpArgs false
open Classical

/-- Block b holds the map f of n keys. -/
def MapJ (w : World) (b : Nat) (f : Int → Option Value) (n : Nat) : Prop := ∃ es clock, w.heap[b]? = some (.map es clock) ∧ (∀ e ∈ es.toList, ∃ k, e.key = rk k) ∧ (∀ k, findI k es.toList = f k) ∧ es.size = n

theorem MapJ.toI {w : World} {b : Nat} {f : Int → Option Value} {n : Nat} (h : MapJ w b f n) : MapI w b f := by
  obtain ⟨es, clock, h1, h2, h3, _⟩ := h
  exact ⟨es, clock, h1, h2, h3⟩
theorem MapJ.of_chg {S : Nat → Prop} {w w' : World} {b : Nat} {f : Int → Option Value} {n : Nat} (h : MapJ w b f n) (c : Chg S w w') (hS : ¬ S b) : MapJ w' b f n := by
  obtain ⟨es, clock, hb, hE⟩ := h
  exact ⟨es, clock, (c.block b (Array.getElem?_eq_some_iff.1 hb).1 hS).trans hb, hE⟩
theorem MapJ.quiet {w w' : World} {b : Nat} {f : Int → Option Value} {n : Nat} (h : MapJ w b f n) (c : Quiet w w') : MapJ w' b f n := h.of_chg c id
theorem MapJ.lt {w : World} {b : Nat} {f : Int → Option Value} {n : Nat} (h : MapJ w b f n) : b < w.heap.size := h.toI.lt
theorem MapJ.new (w : World) : MapJ (w.alloc (.map #[] 0)) w.heap.size (fun _ => none) 0 := ⟨#[], 0, (MapKept.heap_alloc w _).1, fun e he => (by simp at he), fun k => rfl, rfl⟩
theorem MapJ.congr {w : World} {b : Nat} {f g : Int → Option Value} {n m : Nat} (h : MapJ w b f n) (e : ∀ c, f c = g c) (hn : n = m) : MapJ w b g m := by
  obtain ⟨es, clock, h1, h2, h3, h4⟩ := h
  exact ⟨es, clock, h1, h2, fun k => (h3 k).trans (e k), h4.trans hn⟩

theorem MapJ.store {P : Program} {m k e : TypeId} {q : IntKind} {w : World} {b : Nat} {f : Int → Option Value} {n : Nat} (h : MapJ w b f n) (hm : P.underlying m = some (.map k e)) (hk : P.underlying k = some (.int q)) (c : Int) (v : Value) :
    ∃ w', (Instr.mapUpdate m (.map (some b)) (rk c) v).run P w = .ok () w' ∧ Chg (fun i => i = b) w w' ∧ MapJ w' b (setI f c v) (if (f c).isSome then n else n + 1) := by
  have hlt := h.lt
  obtain ⟨es, clock, hb, hK, hE, hn⟩ := h
  rcases findNow_rk (q := q) c es.toList 0 hK with ⟨j, v0, h1, _, h3, ⟨e0, h4, h4'⟩, h5⟩ | ⟨h1, h3⟩
  · rw [Nat.sub_zero] at h4 h5
    have he1 : es[j]? = some e0 := by simpa using h4
    have hst : (Instr.keyThatStays e0.key (rk c)).run P w = .ok (rk c) w := by
      rw [h4']
      have : Instr.sameBits 10000 (rk c) (rk c) = true := by simp [Instr.sameBits, rk]
      unfold Instr.keyThatStays
      rw [if_pos this]; rfl
    refine ⟨{ w with heap := w.heap.setIfInBounds b (.map (es.modify j fun e => { e with key := rk c, val := v }) clock) }, ?_, chg_mapI b _, es.modify j (fun e => { e with key := rk c, val := v }), clock, ?_, ?_, ?_, ?_⟩
    · simp only [Instr.mapUpdate, Sem.run_bind, run_underlying hm, Result.andThen_ok, MapKept.run_getObj_map hb, run_checkI hk, run_findKeyI hk c w _ h1, he1, Option.map_some, Option.getD_some, hst, MapKept.run_setObj_map _ hb]
    · show (w.heap.setIfInBounds b _)[b]? = _
      rw [Array.getElem?_setIfInBounds_self_of_lt hlt]
    · intro e he
      rw [Array.toList_modify] at he
      obtain ⟨i, hi⟩ := List.getElem?_of_mem he
      rw [List.getElem?_modify] at hi
      cases hx : es.toList[i]? with
      | none => rw [hx] at hi; cases hi
      | some x =>
        rw [hx] at hi
        simp at hi
        by_cases ej : j = i
        · rw [if_pos ej] at hi; subst hi; exact ⟨c, rfl⟩
        · rw [if_neg ej] at hi; subst hi; exact hK _ (List.mem_of_getElem? hx)
    · intro k'
      rw [Array.toList_modify, h5 v k']
      unfold setI
      by_cases e : k' = c
      · rw [if_pos e, if_pos e]
      · rw [if_neg e, if_neg e, hE k']
    · rw [← hE c, h3]; simpa using hn
  · refine ⟨{ w with heap := w.heap.setIfInBounds b (.map (es.push ⟨rk c, v, clock⟩) (clock + 1)) }, ?_, chg_mapI b _, es.push ⟨rk c, v, clock⟩, clock + 1, ?_, ?_, ?_, ?_⟩
    · simp only [Instr.mapUpdate, Sem.run_bind, run_underlying hm, Result.andThen_ok, MapKept.run_getObj_map hb, run_checkI hk, run_findKeyI hk c w _ h1, MapKept.run_setObj_map _ hb]
    · show (w.heap.setIfInBounds b _)[b]? = _
      rw [Array.getElem?_setIfInBounds_self_of_lt hlt]
    · intro e he
      rw [Array.toList_push] at he
      rcases List.mem_append.1 he with he | he
      · exact hK e he
      · simp at he; subst he; exact ⟨c, rfl⟩
    · intro k'
      rw [Array.toList_push, findI_snoc c v clock k' es.toList h3]
      unfold setI
      by_cases e : k' = c
      · rw [if_pos e, if_pos e]
      · rw [if_neg e, if_neg e, hE k']
    · rw [← hE c, h3]; simpa using hn
end Go.Qx

namespace Go.Proofs.Qxb6500370a
open Go.RowKit Go.Qx Go.Qx.Mk
set_option linter.unusedVariables false
set_option linter.unusedSimpArgs false

/-- What is known, with the number of keys of each map. -/
structure KC where
  green : Nat → Int
  ban : Nat → Int → Bool
  nb : Nat → Nat
  lo : Int → Option Int
  nl : Nat
  hi : Int → Option Int
  nh : Nat
def KC.know (C : KC) : Know := ⟨C.green, C.ban, fun c => (C.lo c).getD 0, C.hi⟩
def KC.none : KC := ⟨fun _ => 0, fun _ _ => false, fun _ => 0, fun _ => Option.none, 0, fun _ => Option.none, 0⟩

def stepA (t : Nat → Int) (m : Nat → Nat) (C : KC) (p : Nat) : KC :=
  if m p = 0 then { C with green := fun q => if q = p then t p else C.green q }
  else { C with ban := fun q c => if q = p ∧ c = t p then true else C.ban q c, nb := fun q => if q = p then (if C.ban p (t p) then C.nb p else C.nb p + 1) else C.nb q }
def stepB (t : Nat → Int) (m : Nat → Nat) (k : Int → Int) (C : KC) (p : Nat) : KC :=
  if m p = 2 then { C with hi := fun c => if c = t p then some (k (t p)) else C.hi c, nh := if (C.hi (t p)).isSome then C.nh else C.nh + 1 }
  else if (C.lo (t p)).getD 0 < k (t p) then { C with lo := fun c => if c = t p then some (k (t p)) else C.lo c, nl := if (C.lo (t p)).isSome then C.nl else C.nl + 1 }
  else C
def learnC (t : Nat → Int) (m : Nat → Nat) (k : Int → Int) (C : KC) : Nat → KC
  | 0 => C
  | n + 1 => stepB t m k (stepA t m (learnC t m k C n) n) n

theorem know_stepA (t : Nat → Int) (m : Nat → Nat) (C : KC) (p : Nat) : (stepA t m C p).know = ⟨fun q => if q = p ∧ m p = 0 then t p else C.green q, fun q c => C.ban q c || (q == p && m p != 0 && c == t p), fun c => (C.lo c).getD 0, C.hi⟩ := by
  unfold stepA
  by_cases h : m p = 0
  · rw [if_pos h]
    unfold KC.know
    simp [h]
  · rw [if_neg h]
    unfold KC.know
    simp only [h, and_false, if_false]
    congr 1
    funext q c
    by_cases e : q = p ∧ c = t p
    · rw [if_pos e]; simp [e.1, e.2, h]
    · rw [if_neg e]
      have : (q == p && m p != 0 && c == t p) = false := by
        cases h1 : (q == p)
        · rfl
        · cases h2 : (c == t p)
          · simp
          · exact absurd ⟨beq_iff_eq.1 h1, beq_iff_eq.1 h2⟩ e
      rw [this, Bool.or_false]
theorem know_stepB (t : Nat → Int) (m : Nat → Nat) (k : Int → Int) (C : KC) (p : Nat) : (stepB t m k C p).know = ⟨C.green, C.ban, fun c => if c = t p ∧ m p ≠ 2 ∧ (C.lo c).getD 0 < k c then k c else (C.lo c).getD 0, fun c => if c = t p ∧ m p = 2 then some (k c) else C.hi c⟩ := by
  unfold stepB
  by_cases h : m p = 2
  · rw [if_pos h]
    unfold KC.know
    simp only [h, ne_eq, not_true_eq_false, false_and, and_false, if_false, and_true]
    congr 1
    funext c
    by_cases e : c = t p
    · rw [if_pos e, if_pos e, e]
    · rw [if_neg e, if_neg e]
  · rw [if_neg h]
    by_cases h2 : (C.lo (t p)).getD 0 < k (t p)
    · rw [if_pos h2]
      unfold KC.know
      simp only [h, ne_eq, not_false_eq_true, true_and, and_false, if_false]
      congr 1
      funext c
      by_cases e : c = t p
      · subst e
        rw [if_pos rfl, if_pos ⟨rfl, h2⟩]; rfl
      · rw [if_neg e, if_neg (fun x => e x.1)]
    · rw [if_neg h2]
      unfold KC.know
      simp only [h, ne_eq, not_false_eq_true, true_and, and_false, if_false]
      congr 1
      funext c
      by_cases e : c = t p
      · subst e
        rw [if_neg (fun x => h2 x.2)]
      · rw [if_neg (fun x => e x.1)]
theorem know_learn (t : Nat → Int) (m : Nat → Nat) (k : Int → Int) (C : KC) : ∀ n, (learnC t m k C n).know = learnTo t m k C.know n
  | 0 => rfl
  | n + 1 => by
    have ih := know_learn t m k C n
    show (stepB t m k (stepA t m (learnC t m k C n) n) n).know = stepK t m k (learnTo t m k C.know n) n
    rw [know_stepB, ← ih]
    have hA := know_stepA t m (learnC t m k C n) n
    generalize stepA t m (learnC t m k C n) n = A at hA ⊢
    generalize learnC t m k C n = D at hA ⊢
    have h1 := congrArg Know.green hA
    have h2 := congrArg Know.ban hA
    have h3 := congrArg Know.lo hA
    have h4 := congrArg Know.hi hA
    have h3' : ∀ c, (A.lo c).getD 0 = (D.lo c).getD 0 := fun c => congrFun h3 c
    have h1' : A.green = fun q => if q = n ∧ m n = 0 then t n else D.green q := h1
    have h2' : A.ban = fun q c => D.ban q c || (q == n && m n != 0 && c == t n) := h2
    have h4' : A.hi = D.hi := h4
    unfold stepK
    rw [h1', h2', h4']
    simp only [h3']
    rfl

/-- The letters' counts of a try that are not grey. -/
def kOf (s t : Nat → Int) (c : Int) : Int := kc 5 s t c
/-- All the tries taken in, the last of the list last. -/
def taught (s : Nat → Int) : List (Nat → Int) → KC → KC
  | [], C => C
  | t :: T, C => taught s T (learnC t (Mk.mark 5 s t) (kOf s t) C 5)
theorem taught_append (s : Nat → Int) : ∀ (T : List (Nat → Int)) (t : Nat → Int) (C : KC), taught s (T ++ [t]) C = learnC t (Mk.mark 5 s t) (kOf s t) (taught s T C) 5
  | [], t, C => rfl
  | u :: T, t, C => taught_append s T t _
theorem knows_taught_from (s : Nat → Int) : ∀ (T U : List (Nat → Int)) (C : KC), Knows 5 s U C.know → Knows 5 s (U ++ T) (taught s T C).know
  | [], U, C, h => by rw [List.append_nil]; exact h
  | t :: T, U, C, h => by
    have h1 := knows_learn h t
    have h2 : Knows 5 s (U ++ [t]) (learnC t (Mk.mark 5 s t) (kOf s t) C 5).know := by
      rw [know_learn]; exact h1
    have := knows_taught_from s T (U ++ [t]) _ h2
    rw [List.append_assoc] at this
    exact this
theorem knows_taught (s : Nat → Int) (T : List (Nat → Int)) : Knows 5 s T (taught s T KC.none).know := by
  have := knows_taught_from s T [] KC.none (knows_nil 5 s)
  exact this

/-! ### In memory -/
def banV (f : Int → Bool) : Int → Option Value := fun c => if f c then some (.bool true) else none
def intV (f : Int → Option Int) : Int → Option Value := fun c => (f c).map (Value.int .i64)
def mp (L : Nat → Nat) (i : Nat) : Value := .map (some (L i))
/-- The game's block. -/
def gcells (vb vt vs : Value) (sec : Nat → Int) (grn : Nat → Int) (bg hd : Bool) (L : Nat → Nat) : List Value :=
  [vb, vt, rk (sec 0), rk (sec 1), rk (sec 2), rk (sec 3), rk (sec 4), rk (grn 0), rk (grn 1), rk (grn 2), rk (grn 3), rk (grn 4), .bool bg, .bool hd, vs, mp L 0, mp L 1, mp L 2, mp L 3, mp L 4, mp L 5, mp L 6]
structure KRep (w : World) (L : Nat → Nat) (C : KC) : Prop where
  ban : ∀ p, p < 5 → MapJ w (L p) (banV (C.ban p)) (C.nb p)
  lo : MapJ w (L 5) (intV C.lo) C.nl
  hi : MapJ w (L 6) (intV C.hi) C.nh
structure Far (G : Nat) (L : Nat → Nat) : Prop where
  g : ∀ i, i < 7 → L i ≠ G
  l : ∀ i j, i < 7 → j < 7 → i ≠ j → L i ≠ L j

theorem KRep.of_chg {S : Nat → Prop} {w w' : World} {L : Nat → Nat} {C : KC} (h : KRep w L C) (c : Chg S w w') (hS : ∀ i, i < 7 → ¬ S (L i)) : KRep w' L C :=
  ⟨fun p hp => (h.ban p hp).of_chg c (hS p (by omega)), h.lo.of_chg c (hS 5 (by omega)), h.hi.of_chg c (hS 6 (by omega))⟩
theorem KRep.quiet {w w' : World} {L : Nat → Nat} {C : KC} (h : KRep w L C) (c : Quiet w w') : KRep w' L C := h.of_chg c (fun _ _ => id)
theorem KRep.lt {w : World} {L : Nat → Nat} {C : KC} (h : KRep w L C) (i : Nat) (hi : i < 7) : L i < w.heap.size := by
  rcases (by omega : i < 5 ∨ i = 5 ∨ i = 6) with h1 | rfl | rfl
  · exact (h.ban i h1).lt
  · exact h.lo.lt
  · exact h.hi.lt

theorem und45 : Try.prog.underlying 45 = some (.map 21 4) := by kernel_rfl
theorem zero4 (w : World) : (zeroValue 4).run Try.prog w = .ok (.bool false) w := by rfl

theorem KRep.banned {w : World} {L : Nat → Nat} {C : KC} (h : KRep w L C) (p : Nat) (hp : p < 5) (c : Int) : (Instr.lookup 45 (.map (some (L p))) (rk c) false).run Try.prog w = .ok (.bool (C.ban p c)) w := by
  rw [(h.ban p hp).toI.look und45 und21 (zero4 w) c]
  unfold banV
  cases C.ban p c <;> rfl
theorem KRep.least {w : World} {L : Nat → Nat} {C : KC} (h : KRep w L C) (c : Int) : (Instr.lookup 47 (.map (some (L 5))) (rk c) false).run Try.prog w = .ok (.int .i64 ((C.lo c).getD 0)) w := by
  rw [h.lo.toI.look und47 und21 (zero3 w) c]
  unfold intV
  cases C.lo c <;> rfl
theorem KRep.exact2 {w : World} {L : Nat → Nat} {C : KC} (h : KRep w L C) (c : Int) : (Instr.lookup 47 (.map (some (L 6))) (rk c) true).run Try.prog w = .ok (.tuple #[.int .i64 ((C.hi c).getD 0), .bool (C.hi c).isSome]) w := by
  rw [h.hi.toI.look2 und47 und21 (zero3 w) c]
  unfold intV
  cases C.hi c <;> rfl

/-- A letter banned at a place. -/
theorem KRep.ban_it {w : World} {G : Nat} {L : Nat → Nat} {C : KC} (h : KRep w L C) (far : Far G L) (t : Nat → Int) (m : Nat → Nat) (p : Nat) (hp : p < 5) (hm : m p ≠ 0) :
    ∃ w', (Instr.mapUpdate 45 (.map (some (L p))) (rk (t p)) (.bool true)).run Try.prog w = .ok () w' ∧ Chg (fun i => i = L p) w w' ∧ KRep w' L (stepA t m C p) := by
  obtain ⟨w', h1, h2, h3⟩ := (h.ban p hp).store und45 und21 (t p) (.bool true)
  refine ⟨w', h1, h2, ?_, ?_, ?_⟩
  · intro q hq
    unfold stepA
    rw [if_neg hm]
    by_cases e : q = p
    · subst e
      refine h3.congr (fun c => ?_) ?_
      · unfold setI banV
        by_cases e : c = t q
        · rw [if_pos e]; simp [e]
        · rw [if_neg e]; simp [e]
      · unfold banV
        simp only [if_true]
        cases C.ban q (t q) <;> rfl
    · refine ((h.ban q hq).of_chg h2 (far.l q p (by omega) (by omega) e)).congr (fun c => ?_) ?_
      · unfold banV
        simp [e]
      · simp [e]
  · unfold stepA
    rw [if_neg hm]
    exact h.lo.of_chg h2 (far.l 5 p (by omega) (by omega) (by omega))
  · unfold stepA
    rw [if_neg hm]
    exact h.hi.of_chg h2 (far.l 6 p (by omega) (by omega) (by omega))
theorem KRep.green_it {w w' : World} {G : Nat} {L : Nat → Nat} {C : KC} (h : KRep w L C) (far : Far G L) (hc : Chg (fun i => i = G) w w') (t : Nat → Int) (m : Nat → Nat) (p : Nat) (hm : m p = 0) : KRep w' L (stepA t m C p) := by
  have h2 := h.of_chg hc (fun i hi => far.g i hi)
  unfold stepA
  rw [if_pos hm]
  exact ⟨h2.ban, h2.lo, h2.hi⟩
theorem KRep.hi_it {w : World} {G : Nat} {L : Nat → Nat} {C : KC} (h : KRep w L C) (far : Far G L) (t : Nat → Int) (m : Nat → Nat) (k : Int → Int) (p : Nat) (hm : m p = 2) :
    ∃ w', (Instr.mapUpdate 47 (.map (some (L 6))) (rk (t p)) (.int .i64 (k (t p)))).run Try.prog w = .ok () w' ∧ Chg (fun i => i = L 6) w w' ∧ KRep w' L (stepB t m k C p) := by
  obtain ⟨w', h1, h2, h3⟩ := h.hi.store und47 und21 (t p) (.int .i64 (k (t p)))
  refine ⟨w', h1, h2, ?_⟩
  unfold stepB
  rw [if_pos hm]
  refine ⟨fun q hq => (h.ban q hq).of_chg h2 (far.l q 6 (by omega) (by omega) (by omega)), h.lo.of_chg h2 (far.l 5 6 (by omega) (by omega) (by omega)), h3.congr (fun c => ?_) ?_⟩
  · unfold setI intV
    by_cases e : c = t p
    · simp [e]
    · simp [e]
  · unfold intV
    cases C.hi (t p) <;> rfl
theorem KRep.lo_it {w : World} {G : Nat} {L : Nat → Nat} {C : KC} (h : KRep w L C) (far : Far G L) (t : Nat → Int) (m : Nat → Nat) (k : Int → Int) (p : Nat) (hm : m p ≠ 2) (hl : (C.lo (t p)).getD 0 < k (t p)) :
    ∃ w', (Instr.mapUpdate 47 (.map (some (L 5))) (rk (t p)) (.int .i64 (k (t p)))).run Try.prog w = .ok () w' ∧ Chg (fun i => i = L 5) w w' ∧ KRep w' L (stepB t m k C p) := by
  obtain ⟨w', h1, h2, h3⟩ := h.lo.store und47 und21 (t p) (.int .i64 (k (t p)))
  refine ⟨w', h1, h2, ?_⟩
  unfold stepB
  rw [if_neg hm, if_pos hl]
  refine ⟨fun q hq => (h.ban q hq).of_chg h2 (far.l q 5 (by omega) (by omega) (by omega)), h3.congr (fun c => ?_) ?_, h.hi.of_chg h2 (far.l 6 5 (by omega) (by omega) (by omega))⟩
  · unfold setI intV
    by_cases e : c = t p
    · simp [e]
    · simp [e]
  · unfold intV
    cases C.lo (t p) <;> rfl
end Go.Proofs.Qxb6500370a
