/-
  WHAT THE RUNNING STATE STANDS FOR: counts, knots, the shoelace sum, as the model works them out.
-/
import Derived.Test.Qxb6500366aUndoL
namespace Go.Proofs.Qxb6500366a
open Go.RowKit Go.Qx
set_option linter.unusedVariables false
set_option linter.unusedSimpArgs false

/-- How many of the first n places hold p. -/
def amongP (tr : List Pt) (p : Pt) : Nat → Int
  | 0 => 0
  | i + 1 => amongP tr p i + (if tr.getD i (0, 0) = p then 1 else 0)

theorem getD_get (tr : List Pt) (i : Nat) (h : i < tr.length) : tr.getD i (0, 0) = tr[i] := by
  rw [List.getD_eq_getElem?_getD, List.getElem?_eq_getElem h]; rfl

theorem val_among (tr : List Pt) (p : Pt) : ∀ i, i ≤ tr.length → valAt p (runTo tr i).l = amongP tr p i
  | 0, _ => by rw [runTo_zero]; rfl
  | i + 1, h => by
    rw [runTo_succ tr i (by omega)]
    show valAt p (putL tr[i] (valAt tr[i] (runTo tr i).l + 1) (runTo tr i).l) = _
    rw [valAt_put, amongP, getD_get tr i (by omega)]
    by_cases e : p = tr[i]
    · rw [if_pos e, if_pos e.symm, ← e, val_among tr p i (by omega)]
    · rw [if_neg e, if_neg (fun e' => e e'.symm), val_among tr p i (by omega)]; omega

theorem val_all (tr : List Pt) (p : Pt) : valAt p (runOf tr).l = amongP tr p tr.length := by
  rw [← runTo_all]; exact val_among tr p _ (Nat.le_refl _)

def knotsTo (tr : List Pt) : Nat → Int
  | 0 => 0
  | i + 1 => knotsTo tr i + amongP tr (tr.getD i (0, 0)) i

theorem knots_to (tr : List Pt) : ∀ i, i ≤ tr.length → (runTo tr i).k = knotsTo tr i
  | 0, _ => by rw [runTo_zero]; rfl
  | i + 1, h => by
    rw [runTo_succ tr i (by omega)]
    show (runTo tr i).k + valAt tr[i] (runTo tr i).l = _
    rw [knots_to tr i (by omega), val_among tr _ i (by omega), knotsTo, getD_get tr i (by omega)]
theorem knots_all (tr : List Pt) : (runOf tr).k = knotsTo tr tr.length := by
  rw [← runTo_all]; exact knots_to tr _ (Nat.le_refl _)

/-- The place before place i (before the first: the last). -/
def prevP (tr : List Pt) (i : Nat) : Pt := if i = 0 then tr.getD (tr.length - 1) (0, 0) else tr.getD (i - 1) (0, 0)
def crossP (p q : Pt) : Int := p.1 * q.2 - q.1 * p.2
/-- The model's sum behind i rounds. -/
def areaTo (tr : List Pt) : Nat → Int
  | 0 => 0
  | i + 1 => areaTo tr i + crossP (prevP tr i) (tr.getD i (0, 0))

theorem pos_to (tr : List Pt) (i : Nat) (h : i < tr.length) : (runTo tr (i + 1)).pos = tr[i] := by
  rw [runTo_succ tr i h]; rfl

theorem area_to (tr : List Pt) (h0 : 0 < tr.length) : ∀ i, i < tr.length → areaTo tr (i + 1) = (runTo tr (i + 1)).op.2 + crossP (tr.getD (tr.length - 1) (0, 0)) (tr.getD 0 (0, 0))
  | 0, _ => by
    rw [runTo_succ tr 0 h0, runTo_zero]
    show 0 + crossP (prevP tr 0) _ = (0 + ((0 : Int) * _ + (-0) * _)) + _
    unfold prevP
    rw [if_pos rfl]
    simp
  | i + 1, h => by
    have ih := area_to tr h0 i (by omega)
    rw [areaTo, ih, runTo_succ tr (i + 1) h]
    show _ = ((runTo tr (i + 1)).op.2 + ((runTo tr (i + 1)).pos.1 * tr[i + 1].2 + (-(runTo tr (i + 1)).pos.2) * tr[i + 1].1)) + _
    rw [pos_to tr i (by omega)]
    unfold prevP
    rw [if_neg (by omega), Nat.add_sub_cancel, getD_get tr i (by omega), getD_get tr (i + 1) h]
    unfold crossP
    rw [Int.neg_mul, Int.mul_comm tr[i].2]
    omega

theorem area_all (tr : List Pt) (h0 : 0 < tr.length) : areaP (runOf tr) tr[0] = areaTo tr tr.length := by
  have h := area_to tr h0 (tr.length - 1) (by omega)
  rw [show tr.length - 1 + 1 = tr.length by omega, runTo_all] at h
  rw [h, getD_get tr 0 h0, getD_get tr (tr.length - 1) (by omega), ← runOf_pos tr h0]
  unfold areaP opP crossP
  simp only
  rw [Int.neg_mul, Int.mul_comm (runOf tr).pos.2]
  omega

/-! ### Reach -/
def dotP (p d : Pt) : Int := p.1 * d.1 + p.2 * d.2
/-- The model's best behind i rounds. -/
def bestTo (tr : List Pt) (d : Pt) : Nat → Int
  | 0 => -1048576
  | i + 1 => if bestTo tr d i < dotP (tr.getD i (0, 0)) d then dotP (tr.getD i (0, 0)) d else bestTo tr d i

theorem best_spec (tr : List Pt) (d : Pt) : ∀ i, i ≤ tr.length → (∀ q, q < i → dotP (tr.getD q (0, 0)) d ≤ bestTo tr d i) ∧ -1048576 ≤ bestTo tr d i ∧ (bestTo tr d i = -1048576 ∨ ∃ q, q < i ∧ bestTo tr d i = dotP (tr.getD q (0, 0)) d)
  | 0, _ => ⟨fun q hq => by omega, Int.le_refl _, .inl rfl⟩
  | i + 1, h => by
    obtain ⟨h1, h2, h3⟩ := best_spec tr d i (by omega)
    unfold bestTo
    split
    · rename_i hlt
      refine ⟨fun q hq => ?_, by omega, .inr ⟨i, by omega, rfl⟩⟩
      by_cases e : q = i
      · subst e; exact Int.le_refl _
      · have := h1 q (by omega); omega
    · rename_i hlt
      refine ⟨fun q hq => ?_, h2, ?_⟩
      · by_cases e : q = i
        · subst e; omega
        · exact h1 q (by omega)
      · rcases h3 with h3 | ⟨q, hq, h3⟩
        · exact .inl h3
        · exact .inr ⟨q, by omega, h3⟩

/-- A greatest value v of the trail in direction d is the model's best. -/
theorem best_eq (tr : List Pt) (d : Pt) (v : Int) (h1 : ∀ p ∈ tr, dotP p d ≤ v) (h2 : ∃ p ∈ tr, v = dotP p d) (h3 : -1048576 ≤ v) : bestTo tr d tr.length = v := by
  obtain ⟨b1, b2, b3⟩ := best_spec tr d tr.length (Nat.le_refl _)
  obtain ⟨p, hp, hv⟩ := h2
  obtain ⟨q, hq, rfl⟩ := List.getElem_of_mem hp
  have x1 := b1 q hq
  rw [getD_get tr q hq] at x1
  rcases b3 with h | ⟨q', hq', h⟩
  · omega
  · rw [getD_get tr q' hq'] at h
    have := h1 _ (List.getElem_mem hq')
    omega

theorem runOf_box (tr : List Pt) (h0 : 0 < tr.length) : (runOf tr).lo = boxLo (tr.headD (0, 0)) tr ∧ (runOf tr).hi = boxHi (tr.headD (0, 0)) tr ∧ tr.headD (0, 0) ∈ tr := by
  refine ⟨runOf_lo _ tr, runOf_hi _ tr, ?_⟩
  cases tr with
  | nil => simp at h0
  | cons a b => simp

theorem box_small (tr : List Pt) (h0 : 0 < tr.length) (hs : ∀ p ∈ tr, Small p) : Small (runOf tr).lo ∧ Small (runOf tr).hi := by
  obtain ⟨e1, e2, hh⟩ := runOf_box tr h0
  obtain ⟨a1, a2, a3, a4, a5⟩ := boxLo_spec tr (tr.headD (0, 0))
  obtain ⟨b1, b2, b3, b4, b5⟩ := boxHi_spec tr (tr.headD (0, 0))
  rw [← e1] at a1 a2 a3 a4 a5
  rw [← e2] at b1 b2 b3 b4 b5
  have sh := hs _ hh
  obtain ⟨s1, s2, s3, s4⟩ := sh
  refine ⟨⟨?_, by omega, ?_, by omega⟩, ⟨by omega, ?_, by omega, ?_⟩⟩
  · rcases a4 with h | ⟨q, hq, h⟩
    · omega
    · have := (hs q hq).1; omega
  · rcases a5 with h | ⟨q, hq, h⟩
    · omega
    · have := (hs q hq).2.2.1; omega
  · rcases b4 with h | ⟨q, hq, h⟩
    · omega
    · have := (hs q hq).2.1; omega
  · rcases b5 with h | ⟨q, hq, h⟩
    · omega
    · have := (hs q hq).2.2.2; omega

theorem reach_all (tr : List Pt) (h0 : 0 < tr.length) (hs : ∀ p ∈ tr, Small p) (k : Int) : reachP (runOf tr) k = bestTo tr (quart (1, 0) (modP k)) tr.length := by
  obtain ⟨e1, e2, hh⟩ := runOf_box tr h0
  obtain ⟨a1, a2, a3, a4, a5⟩ := boxLo_spec tr (tr.headD (0, 0))
  obtain ⟨b1, b2, b3, b4, b5⟩ := boxHi_spec tr (tr.headD (0, 0))
  rw [← e1] at a1 a2 a3 a4 a5
  rw [← e2] at b1 b2 b3 b4 b5
  obtain ⟨⟨l1, l2, l3, l4⟩, ⟨g1, g2, g3, g4⟩⟩ := box_small tr h0 hs
  generalize tr.headD (0, 0) = HH at *
  clear e1 e2
  have hlt := (modP_spec k).2
  unfold reachP
  rcases (by omega : modP k = 0 ∨ modP k = 1 ∨ modP k = 2 ∨ modP k = 3) with e | e | e | e
  · rw [e, if_neg (by decide), if_neg (by decide), if_neg (by decide)]
    refine (best_eq tr _ _ (fun p hp => ?_) ?_ (by omega)).symm
    · have := (b3 p hp).1; simp [dotP, quart]; omega
    · rcases b4 with h | ⟨q, hq, h⟩
      · exact ⟨_, hh, by simp [dotP, quart]; omega⟩
      · exact ⟨q, hq, by simp [dotP, quart]; omega⟩
  · rw [e, if_pos rfl]
    refine (best_eq tr _ _ (fun p hp => ?_) ?_ (by omega)).symm
    · have := (b3 p hp).2; simp [dotP, quart]; omega
    · rcases b5 with h | ⟨q, hq, h⟩
      · exact ⟨_, hh, by simp [dotP, quart]; omega⟩
      · exact ⟨q, hq, by simp [dotP, quart]; omega⟩
  · rw [e, if_neg (by decide), if_pos rfl]
    refine (best_eq tr _ _ (fun p hp => ?_) ?_ (by omega)).symm
    · have := (a3 p hp).1; simp [dotP, quart]; omega
    · rcases a4 with h | ⟨q, hq, h⟩
      · exact ⟨_, hh, by simp [dotP, quart]; omega⟩
      · exact ⟨q, hq, by simp [dotP, quart]; omega⟩
  · rw [e, if_neg (by decide), if_neg (by decide), if_pos rfl]
    refine (best_eq tr _ _ (fun p hp => ?_) ?_ (by omega)).symm
    · have := (a3 p hp).2; simp [dotP, quart]; omega
    · rcases a5 with h | ⟨q, hq, h⟩
      · exact ⟨_, hh, by simp [dotP, quart]; omega⟩
      · exact ⟨q, hq, by simp [dotP, quart]; omega⟩
end Go.Proofs.Qxb6500366a
