/-
  THE REAL TURTLE: the plain law of Undo: what it leaves is what the shorter trail stands for.
-/
import Derived.Test.Qxb6500366aMirror
namespace Go.Proofs.Qxb6500366a
open Go.RowKit Go.Qx
set_option linter.unusedVariables false
set_option linter.unusedSimpArgs false

/-- The counts one step back. -/
def backL (p : Pt) (c : Int) (l : List (Pt × Int)) : List (Pt × Int) := if c = 0 then dropL p (putL p c l) else putL p c l

theorem set_get_self {α : Type} : ∀ (l : List α) (j : Nat) (x : α), l[j]? = some x → l.set j x = l
  | [], _, _, h => by simp at h
  | a :: l, 0, x, h => by simp at h; subst h; rfl
  | a :: l, j + 1, x, h => by
    rw [List.getElem?_cons_succ] at h
    rw [List.set_cons_succ, set_get_self l j x h]

theorem back_put (p : Pt) (l : List (Pt × Int)) (hpos : ∀ x ∈ l, 1 ≤ x.2) : backL p (valAt p l) (putL p (valAt p l + 1) l) = l := by
  unfold backL valAt putL dropL
  cases h : placeOf p l 0 with
  | none =>
    simp only [Option.map_none, Option.getD_none, if_true, Int.zero_add]
    have h1 := placeOf_app p p 1 l 0 h
    rw [if_pos rfl, Nat.zero_add] at h1
    rw [h1]
    simp only
    rw [List.set_append_right _ _ (Nat.le_refl _), Nat.sub_self, List.set_cons_zero]
    have h2 := placeOf_app p p 0 l 0 h
    rw [if_pos rfl, Nat.zero_add] at h2
    rw [h2]
    simp only
    rw [List.eraseIdx_append_of_length_le (Nat.le_refl _), Nat.sub_self]
    simp
  | some y =>
    obtain ⟨j, n⟩ := y
    obtain ⟨_, hj⟩ := placeOf_spec p l 0 j n h
    rw [Nat.sub_zero] at hj
    have hn : 1 ≤ n := hpos _ (List.mem_of_getElem? hj)
    simp only [Option.map_some, Option.getD_some]
    rw [if_neg (by omega)]
    have h1 := placeOf_set_self p (n + 1) l 0 j n h
    rw [Nat.sub_zero] at h1
    rw [h1]
    simp only [List.set_set]
    exact set_get_self l j _ hj

theorem pos_put (p : Pt) (v : Int) (hv : 1 ≤ v) (l : List (Pt × Int)) (h : ∀ x ∈ l, 1 ≤ x.2) : ∀ x ∈ putL p v l, 1 ≤ x.2 := by
  unfold putL
  cases placeOf p l 0 with
  | none =>
    intro x hx
    simp at hx
    rcases hx with hx | rfl
    · exact h x hx
    · exact hv
  | some y =>
    intro x hx
    rcases List.mem_or_eq_of_mem_set hx with hx | rfl
    · exact h x hx
    · exact hv

theorem pos_runTo (pts : List Pt) (hs : ∀ p ∈ pts, Small p) (hl : pts.length ≤ 24) : ∀ i, i ≤ pts.length → ∀ x ∈ (runTo pts i).l, 1 ≤ x.2
  | 0, _ => by rw [runTo_zero]; intro x hx; cases hx
  | i + 1, h => by
    rw [runTo_succ pts i (by omega)]
    have hb := (bd_runTo pts hs hl i (by omega)).c pts[i]
    exact pos_put _ _ (by omega) _ (pos_runTo pts hs hl i (by omega))

/-! ### The box -/
def boxLo (a : Pt) (l : List Pt) : Pt := l.foldl loP a
def boxHi (a : Pt) (l : List Pt) : Pt := l.foldl hiP a

theorem runOf_lo (r : Run) : ∀ l : List Pt, (l.foldl pushR r).lo = boxLo r.lo l
  | [] => rfl
  | p :: l => by rw [List.foldl_cons, runOf_lo (pushR r p) l]; rfl
theorem runOf_hi (r : Run) : ∀ l : List Pt, (l.foldl pushR r).hi = boxHi r.hi l
  | [] => rfl
  | p :: l => by rw [List.foldl_cons, runOf_hi (pushR r p) l]; rfl

theorem boxLo_spec : ∀ (l : List Pt) (a : Pt), (boxLo a l).1 ≤ a.1 ∧ (boxLo a l).2 ≤ a.2 ∧ (∀ q ∈ l, (boxLo a l).1 ≤ q.1 ∧ (boxLo a l).2 ≤ q.2) ∧ ((boxLo a l).1 = a.1 ∨ ∃ q ∈ l, (boxLo a l).1 = q.1) ∧ ((boxLo a l).2 = a.2 ∨ ∃ q ∈ l, (boxLo a l).2 = q.2)
  | [], a => ⟨Int.le_refl _, Int.le_refl _, fun q hq => (by cases hq), .inl rfl, .inl rfl⟩
  | p :: l, a => by
    obtain ⟨h1, h2, h3, h4, h5⟩ := boxLo_spec l (loP a p)
    have e : boxLo a (p :: l) = boxLo (loP a p) l := rfl
    rw [e]
    have u1 : (loP a p).1 ≤ a.1 ∧ (loP a p).1 ≤ p.1 ∧ ((loP a p).1 = a.1 ∨ (loP a p).1 = p.1) := by
      unfold loP; simp only; split <;> omega
    have u2 : (loP a p).2 ≤ a.2 ∧ (loP a p).2 ≤ p.2 ∧ ((loP a p).2 = a.2 ∨ (loP a p).2 = p.2) := by
      unfold loP; simp only; split <;> omega
    refine ⟨by omega, by omega, ?_, ?_, ?_⟩
    · intro q hq
      rcases List.mem_cons.1 hq with rfl | hq
      · omega
      · exact h3 q hq
    · rcases h4 with h4 | ⟨q, hq, h4⟩
      · rcases u1.2.2 with e1 | e1
        · exact .inl (h4.trans e1)
        · exact .inr ⟨p, List.mem_cons_self .., h4.trans e1⟩
      · exact .inr ⟨q, List.mem_cons_of_mem _ hq, h4⟩
    · rcases h5 with h5 | ⟨q, hq, h5⟩
      · rcases u2.2.2 with e1 | e1
        · exact .inl (h5.trans e1)
        · exact .inr ⟨p, List.mem_cons_self .., h5.trans e1⟩
      · exact .inr ⟨q, List.mem_cons_of_mem _ hq, h5⟩

theorem boxHi_spec : ∀ (l : List Pt) (a : Pt), a.1 ≤ (boxHi a l).1 ∧ a.2 ≤ (boxHi a l).2 ∧ (∀ q ∈ l, q.1 ≤ (boxHi a l).1 ∧ q.2 ≤ (boxHi a l).2) ∧ ((boxHi a l).1 = a.1 ∨ ∃ q ∈ l, (boxHi a l).1 = q.1) ∧ ((boxHi a l).2 = a.2 ∨ ∃ q ∈ l, (boxHi a l).2 = q.2)
  | [], a => ⟨Int.le_refl _, Int.le_refl _, fun q hq => (by cases hq), .inl rfl, .inl rfl⟩
  | p :: l, a => by
    obtain ⟨h1, h2, h3, h4, h5⟩ := boxHi_spec l (hiP a p)
    have e : boxHi a (p :: l) = boxHi (hiP a p) l := rfl
    rw [e]
    have u1 : a.1 ≤ (hiP a p).1 ∧ p.1 ≤ (hiP a p).1 ∧ ((hiP a p).1 = a.1 ∨ (hiP a p).1 = p.1) := by
      unfold hiP; simp only; split <;> omega
    have u2 : a.2 ≤ (hiP a p).2 ∧ p.2 ≤ (hiP a p).2 ∧ ((hiP a p).2 = a.2 ∨ (hiP a p).2 = p.2) := by
      unfold hiP; simp only; split <;> omega
    refine ⟨by omega, by omega, ?_, ?_, ?_⟩
    · intro q hq
      rcases List.mem_cons.1 hq with rfl | hq
      · omega
      · exact h3 q hq
    · rcases h4 with h4 | ⟨q, hq, h4⟩
      · rcases u1.2.2 with e1 | e1
        · exact .inl (h4.trans e1)
        · exact .inr ⟨p, List.mem_cons_self .., h4.trans e1⟩
      · exact .inr ⟨q, List.mem_cons_of_mem _ hq, h4⟩
    · rcases h5 with h5 | ⟨q, hq, h5⟩
      · rcases u2.2.2 with e1 | e1
        · exact .inl (h5.trans e1)
        · exact .inr ⟨p, List.mem_cons_self .., h5.trans e1⟩
      · exact .inr ⟨q, List.mem_cons_of_mem _ hq, h5⟩

/-- The box does not ask with which stop one begins. -/
theorem boxLo_any {l : List Pt} {a b : Pt} (ha : a ∈ l) (hb : b ∈ l) : boxLo a l = boxLo b l := by
  obtain ⟨a1, a2, a3, a4, a5⟩ := boxLo_spec l a
  obtain ⟨b1, b2, b3, b4, b5⟩ := boxLo_spec l b
  have e1 : (boxLo a l).1 = (boxLo b l).1 := by
    have x1 := (a3 b hb).1
    have x2 := (b3 a ha).1
    rcases a4 with h | ⟨q, hq, h⟩ <;> rcases b4 with h' | ⟨q', hq', h'⟩
    · omega
    · have := (a3 q' hq').1; omega
    · have := (b3 q hq).1; omega
    · have := (a3 q' hq').1; have := (b3 q hq).1; omega
  have e2 : (boxLo a l).2 = (boxLo b l).2 := by
    have x1 := (a3 b hb).2
    have x2 := (b3 a ha).2
    rcases a5 with h | ⟨q, hq, h⟩ <;> rcases b5 with h' | ⟨q', hq', h'⟩
    · omega
    · have := (a3 q' hq').2; omega
    · have := (b3 q hq).2; omega
    · have := (a3 q' hq').2; have := (b3 q hq).2; omega
  exact Prod.ext e1 e2
theorem boxHi_any {l : List Pt} {a b : Pt} (ha : a ∈ l) (hb : b ∈ l) : boxHi a l = boxHi b l := by
  obtain ⟨a1, a2, a3, a4, a5⟩ := boxHi_spec l a
  obtain ⟨b1, b2, b3, b4, b5⟩ := boxHi_spec l b
  have e1 : (boxHi a l).1 = (boxHi b l).1 := by
    have x1 := (a3 b hb).1
    have x2 := (b3 a ha).1
    rcases a4 with h | ⟨q, hq, h⟩ <;> rcases b4 with h' | ⟨q', hq', h'⟩
    · omega
    · have := (a3 q' hq').1; omega
    · have := (b3 q hq).1; omega
    · have := (a3 q' hq').1; have := (b3 q hq).1; omega
  have e2 : (boxHi a l).2 = (boxHi b l).2 := by
    have x1 := (a3 b hb).2
    have x2 := (b3 a ha).2
    rcases a5 with h | ⟨q, hq, h⟩ <;> rcases b5 with h' | ⟨q', hq', h'⟩
    · omega
    · have := (a3 q' hq').2; omega
    · have := (b3 q hq).2; omega
    · have := (a3 q' hq').2; have := (b3 q hq).2; omega
  exact Prod.ext e1 e2

def opB (o q p : Pt) : Pt := (o.1 - (q.1 * p.1 - (-q.2) * p.2), o.2 - (q.1 * p.2 + (-q.2) * p.1))

/-- Undo takes push back. -/
theorem undo_run (tr : List Pt) (h : 0 < tr.length) (p : Pt) (hpos : ∀ x ∈ (runOf tr).l, 1 ≤ x.2) :
    valAt p (runOf (tr ++ [p])).l - 1 = valAt p (runOf tr).l ∧ backL p (valAt p (runOf tr).l) (runOf (tr ++ [p])).l = (runOf tr).l ∧
      (runOf (tr ++ [p])).k - valAt p (runOf tr).l = (runOf tr).k ∧ boxLo (runOf tr).pos tr = (runOf tr).lo ∧ boxHi (runOf tr).pos tr = (runOf tr).hi ∧ opB (runOf (tr ++ [p])).op (runOf tr).pos p = (runOf tr).op := by
  rw [runOf_snoc tr h p]
  have hp := runOf_pos tr h
  have hq : (runOf tr).pos ∈ tr := by rw [hp]; exact List.getElem_mem _
  have hh : tr.headD (0, 0) ∈ tr := by
    cases tr with
    | nil => simp at h
    | cons a b => simp
  refine ⟨?_, back_put p _ hpos, ?_, ?_, ?_, ?_⟩
  · show valAt p (putL p (valAt p (runOf tr).l + 1) (runOf tr).l) - 1 = _
    rw [valAt_put, if_pos rfl]; omega
  · show (runOf tr).k + valAt p (runOf tr).l - valAt p (runOf tr).l = _
    omega
  · have e : (runOf tr).lo = boxLo (tr.headD (0, 0)) tr := runOf_lo _ tr
    rw [e]; exact boxLo_any hq hh
  · have e : (runOf tr).hi = boxHi (tr.headD (0, 0)) tr := runOf_hi _ tr
    rw [e]; exact boxHi_any hq hh
  · show opB (opP (runOf tr).op (runOf tr).pos p) (runOf tr).pos p = _
    unfold opB opP
    refine Prod.ext ?_ ?_ <;> (simp only; omega)
end Go.Proofs.Qxb6500366a
