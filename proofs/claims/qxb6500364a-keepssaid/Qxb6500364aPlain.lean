/-
  THE MESH, PLAINLY: a router, its best routes, how it lies in memory.
-/
import Derived.Test.Qxb6500364aRow
import Derived.Test.Qxb6500364aCells
import Derived.Test.Qxb6500364aLibB
import Derived.Test.Qxb6500364aProg
import Derived.Deep.RegionLaw
import Derived.Deep.RegionHeld3
import Derived.BigQuiet
import Derived.Laws.Cover4
import Derived.OwnWalk
namespace Go.Proofs.Qxb6500364a
open Go.RowKit Go.Qx
set_option linter.unusedVariables false
set_option linter.unusedSimpArgs false

def ptr (a : Nat) : Value := .pointer (some ⟨a, 0, none⟩)

/-- A router: costs, ears, kept distances, kept hops. -/
structure Nd where
  c : Nat → Int
  h : Nat → Nat → Int
  d : Nat → Int
  p : Nat → Int

def upd {α : Type} (f : Nat → α) (i : Nat) (v : α) : Nat → α := fun j => if j = i then v else f j

/-- The least offer of the first k neighbours. -/
def bestTo (c : Nat → Int) (h : Nat → Int) : Nat → Int × Int
  | 0 => (16, -1)
  | k + 1 => if 0 < c k then (min (bestTo c h k).1 (min (c k + h k) 16), if min (c k + h k) 16 < (bestTo c h k).1 then (k : Int) else (bestTo c h k).2) else bestTo c h k

def bestP (s : Nat) (c : Nat → Int) (h : Nat → Nat → Int) (d : Nat) : Int × Int := if d = s then (0, (s : Int)) else bestTo c (fun b => h b d) 5

theorem bestTo_range (c : Nat → Int) (h : Nat → Int) (hc : ∀ b, b < 5 → 0 ≤ c b ∧ c b ≤ 16) (hh : ∀ b, b < 5 → 0 ≤ h b ∧ h b ≤ 16) : ∀ k, k ≤ 5 → (0 ≤ (bestTo c h k).1 ∧ (bestTo c h k).1 ≤ 16) ∧ (-1 ≤ (bestTo c h k).2 ∧ (bestTo c h k).2 ≤ 4)
  | 0, _ => by simp [bestTo]
  | k + 1, hk => by
    have ih := bestTo_range c h hc hh k (by omega)
    have h1 := hc k (by omega)
    have h2 := hh k (by omega)
    unfold bestTo
    split
    · constructor
      · simp only; omega
      · simp only; split <;> omega
    · exact ih

theorem bestTo_congr {c c' : Nat → Int} {h h' : Nat → Int} : ∀ k, (∀ b, b < k → c b = c' b) → (∀ b, b < k → h b = h' b) → bestTo c h k = bestTo c' h' k
  | 0, _, _ => rfl
  | k + 1, hc, hh => by
    have ih := bestTo_congr (c := c) (c' := c') (h := h) (h' := h') k (fun b hb => hc b (by omega)) (fun b hb => hh b (by omega))
    unfold bestTo
    rw [ih, hc k (by omega), hh k (by omega)]

theorem bestP_congr {s : Nat} {c c' : Nat → Int} {h h' : Nat → Nat → Int} {d : Nat} (hc : ∀ b, b < 5 → c b = c' b) (hh : ∀ b, b < 5 → h b d = h' b d) : bestP s c h d = bestP s c' h' d := by
  unfold bestP
  split
  · rfl
  · exact bestTo_congr 5 hc hh

/-- The numbers in a router are small. -/
structure NdOk (x : Nd) : Prop where
  c : ∀ b, b < 5 → 0 ≤ x.c b ∧ x.c b ≤ 16
  h : ∀ b d, b < 5 → d < 5 → 0 ≤ x.h b d ∧ x.h b d ≤ 16

theorem NdOk.best {x : Nd} (o : NdOk x) (s : Nat) (hs : s < 5) (d : Nat) (hd : d < 5) : (0 ≤ (bestP s x.c x.h d).1 ∧ (bestP s x.c x.h d).1 ≤ 16) ∧ (-1 ≤ (bestP s x.c x.h d).2 ∧ (bestP s x.c x.h d).2 ≤ 4) := by
  unfold bestP
  split
  · simp only; omega
  · exact bestTo_range x.c _ o.c (fun b hb => o.h b d hb hd) 5 (Nat.le_refl _)

/-! ### In memory -/
def ndV (s : Nat) (x : Nd) (i : Nat) : Int :=
  if i = 0 then (s : Int) else if i < 6 then x.c (i - 1) else if i < 31 then x.h ((i - 6) / 5) ((i - 6) % 5) else if i < 36 then x.d (i - 31) else x.p (i - 36)

def ndC (s : Nat) (x : Nd) : List Value := (List.range 41).map fun i => .int .i64 (ndV s x i)

theorem ndC_get (s : Nat) (x : Nd) (i : Nat) (hi : i < 41) : (ndC s x)[i]? = some (.int .i64 (ndV s x i)) := by
  unfold ndC
  rw [List.getElem?_map, List.getElem?_range hi]; rfl

theorem ndC_ext {s : Nat} {x y : Nd} (hc : ∀ b, b < 5 → x.c b = y.c b) (hh : ∀ b d, b < 5 → d < 5 → x.h b d = y.h b d) (hd : ∀ d, d < 5 → x.d d = y.d d) (hp : ∀ d, d < 5 → x.p d = y.p d) : ndC s x = ndC s y := by
  unfold ndC
  refine List.map_congr_left ?_
  intro i hi
  rw [List.mem_range] at hi
  have : ndV s x i = ndV s y i := by
    unfold ndV
    split
    · rfl
    · split
      · exact hc _ (by omega)
      · split
        · exact hh _ _ (by omega) (by omega)
        · split
          · exact hd _ (by omega)
          · exact hp _ (by omega)
  rw [this]

theorem ndC_set {s : Nat} {x y : Nd} (j : Nat) (hj : j < 41) (v : Int) (h1 : ndV s y j = v) (h2 : ∀ i, i < 41 → i ≠ j → ndV s y i = ndV s x i) : (ndC s x).set j (.int .i64 v) = ndC s y := by
  refine List.ext_getElem? ?_
  intro i
  rw [List.getElem?_set]
  split
  · rename_i e
    subst e
    rw [ndC_get s y _ hj, if_pos (by simp [ndC, hj]), h1]
  · rename_i e
    by_cases hi : i < 41
    · rw [ndC_get s x i hi, ndC_get s y i hi, h2 i hi (fun h => e h.symm)]
    · rw [List.getElem?_eq_none (by simp [ndC]; omega), List.getElem?_eq_none (by simp [ndC]; omega)]

theorem ndV_s (s : Nat) (x : Nd) : ndV s x 0 = s := rfl
theorem ndV_c (s : Nat) (x : Nd) (b : Nat) (hb : b < 5) : ndV s x (1 + b) = x.c b := by
  unfold ndV
  rw [if_neg (by omega), if_pos (by omega), show 1 + b - 1 = b by omega]
theorem ndV_h (s : Nat) (x : Nd) (b d : Nat) (hb : b < 5) (hd : d < 5) : ndV s x (6 + b * 5 + d) = x.h b d := by
  unfold ndV
  rw [if_neg (by omega), if_neg (by omega), if_pos (by omega), show (6 + b * 5 + d - 6) / 5 = b by omega, show (6 + b * 5 + d - 6) % 5 = d by omega]
theorem ndV_d (s : Nat) (x : Nd) (d : Nat) (hd : d < 5) : ndV s x (31 + d) = x.d d := by
  unfold ndV
  rw [if_neg (by omega), if_neg (by omega), if_neg (by omega), if_pos (by omega), show 31 + d - 31 = d by omega]
theorem ndV_p (s : Nat) (x : Nd) (d : Nat) (hd : d < 5) : ndV s x (36 + d) = x.p d := by
  unfold ndV
  rw [if_neg (by omega), if_neg (by omega), if_neg (by omega), if_neg (by omega), show 36 + d - 36 = d by omega]

theorem set_c (s : Nat) (x : Nd) (b : Nat) (hb : b < 5) (v : Int) : (ndC s x).set (1 + b) (.int .i64 v) = ndC s { x with c := upd x.c b v } := by
  refine ndC_set _ (by omega) v ?_ ?_
  · rw [ndV_c _ _ b hb]; simp [upd]
  · intro i hi hne
    unfold ndV
    split
    · rfl
    · split
      · show upd x.c b v (i - 1) = _
        unfold upd; rw [if_neg (by omega)]
      · rfl

theorem set_h (s : Nat) (x : Nd) (b d : Nat) (hb : b < 5) (hd : d < 5) (v : Int) : (ndC s x).set (6 + b * 5 + d) (.int .i64 v) = ndC s { x with h := upd x.h b (upd (x.h b) d v) } := by
  refine ndC_set _ (by omega) v ?_ ?_
  · rw [ndV_h _ _ b d hb hd]; simp [upd]
  · intro i hi hne
    unfold ndV
    split
    · rfl
    · split
      · rfl
      · split
        · show upd x.h b (upd (x.h b) d v) ((i - 6) / 5) ((i - 6) % 5) = _
          unfold upd
          split
          · rename_i e
            show (if (i - 6) % 5 = d then v else x.h b ((i - 6) % 5)) = _
            rw [if_neg (by omega), e]
          · rfl
        · rfl

theorem set_d (s : Nat) (x : Nd) (d : Nat) (hd : d < 5) (v : Int) : (ndC s x).set (31 + d) (.int .i64 v) = ndC s { x with d := upd x.d d v } := by
  refine ndC_set _ (by omega) v ?_ ?_
  · rw [ndV_d _ _ d hd]; simp [upd]
  · intro i hi hne
    unfold ndV
    split
    · rfl
    · split
      · rfl
      · split
        · rfl
        · split
          · show upd x.d d v (i - 31) = _
            unfold upd; rw [if_neg (by omega)]
          · rfl

theorem set_p (s : Nat) (x : Nd) (d : Nat) (hd : d < 5) (v : Int) : (ndC s x).set (36 + d) (.int .i64 v) = ndC s { x with p := upd x.p d v } := by
  refine ndC_set _ (by omega) v ?_ ?_
  · rw [ndV_p _ _ d hd]; simp [upd]
  · intro i hi hne
    unfold ndV
    split
    · rfl
    · split
      · rfl
      · split
        · rfl
        · split
          · rfl
          · show upd x.p d v (i - 36) = _
            unfold upd; rw [if_neg (by omega)]

section
variable {w : World} {n s : Nat} {x : Nd}
theorem cell_s (hb : Blk w n 58 (ndC s x)) : w.cell? ⟨n, 0, none⟩ = some (.int .i64 s) := (hb.cell 0).trans (ndC_get s x 0 (by omega))
theorem cell_c (hb : Blk w n 58 (ndC s x)) (b : Nat) (h : b < 5) : w.cell? ⟨n, 1 + b, none⟩ = some (.int .i64 (x.c b)) := by
  rw [hb.cell, ndC_get s x _ (by omega), ndV_c s x b h]
theorem cell_h (hb : Blk w n 58 (ndC s x)) (b d : Nat) (h : b < 5) (h' : d < 5) : w.cell? ⟨n, 6 + b * 5 + d, none⟩ = some (.int .i64 (x.h b d)) := by
  rw [hb.cell, ndC_get s x _ (by omega), ndV_h s x b d h h']
theorem cell_d (hb : Blk w n 58 (ndC s x)) (d : Nat) (h : d < 5) : w.cell? ⟨n, 31 + d, none⟩ = some (.int .i64 (x.d d)) := by
  rw [hb.cell, ndC_get s x _ (by omega), ndV_d s x d h]
theorem cell_p (hb : Blk w n 58 (ndC s x)) (d : Nat) (h : d < 5) : w.cell? ⟨n, 36 + d, none⟩ = some (.int .i64 (x.p d)) := by
  rw [hb.cell, ndC_get s x _ (by omega), ndV_p s x d h]
end
end Go.Proofs.Qxb6500364a
