/-
  The sorted index, plainly.
-/
import Derived.Test.Qxb6500369aSmall
namespace Go.Proofs.Qxb6500369a
open Go.RowKit Go.Qx
set_option linter.unusedSimpArgs false
set_option linter.unusedVariables false

def idAt (ns : List N5) (k : Int) : Int := (ns.getD k.toNat ⟨0, 0, 0, 0, 0⟩).id

/-- The first n of ord are the numbers 0 .. n-1, sorted by their ids; the rest are 0. -/
structure OrdOK (ns : List N5) (ord : List Int) : Prop where
  len : ord.length = 8
  rng : ∀ i, i < ns.length → 0 ≤ ord.getD i 0 ∧ ord.getD i 0 < (ns.length : Int)
  inc : ∀ i j, i < j → j < ns.length → idAt ns (ord.getD i 0) < idAt ns (ord.getD j 0)
  sur : ∀ k : Nat, k < ns.length → ∃ i, i < ns.length ∧ ord.getD i 0 = (k : Int)
  tail : ∀ i, ns.length ≤ i → ord.getD i 0 = 0

def joinOrd (ord : List Int) (n lo : Nat) : List Int := (List.range 8).map fun i => if i < lo then ord.getD i 0 else if i = lo then (n : Int) else if i ≤ n then ord.getD (i - 1) 0 else 0

theorem joinOrd_get (ord : List Int) (n lo i : Nat) (hi : i < 8) : (joinOrd ord n lo).getD i 0 = if i < lo then ord.getD i 0 else if i = lo then (n : Int) else if i ≤ n then ord.getD (i - 1) 0 else 0 := by
  unfold joinOrd
  rw [List.getD_eq_getElem?_getD, List.getElem?_map, List.getElem?_range hi]; rfl

theorem idAt_old (ns : List N5) (c : N5) (k : Int) (h0 : 0 ≤ k) (h1 : k < (ns.length : Int)) : idAt (ns ++ [c]) k = idAt ns k := by
  unfold idAt
  rw [List.getD_eq_getElem?_getD, List.getD_eq_getElem?_getD, List.getElem?_append_left (by omega)]

theorem idAt_new (ns : List N5) (c : N5) : idAt (ns ++ [c]) (ns.length : Int) = c.id := by
  unfold idAt
  rw [Int.toNat_natCast, List.getD_eq_getElem?_getD]; simp

theorem ord_join {ns : List N5} {ord : List Int} (h : OrdOK ns ord) (c : N5) (lo : Nat) (hn : ns.length < 8) (hlo : lo ≤ ns.length) (h1 : ∀ i, i < lo → idAt ns (ord.getD i 0) < c.id) (h2 : ∀ i, lo ≤ i → i < ns.length → c.id < idAt ns (ord.getD i 0)) : OrdOK (ns ++ [c]) (joinOrd ord ns.length lo) := by
  have hl : (ns ++ [c]).length = ns.length + 1 := by simp
  -- the id at place i of the new order
  have old : ∀ i, i < ns.length → idAt (ns ++ [c]) (ord.getD i 0) = idAt ns (ord.getD i 0) := fun i hi => idAt_old ns c _ (h.rng i hi).1 (h.rng i hi).2
  refine ⟨by simp [joinOrd], ?_, ?_, ?_, ?_⟩
  · intro i hi
    rw [hl] at hi ⊢
    rw [joinOrd_get _ _ _ _ (by omega)]
    split
    · have := h.rng i (by omega); omega
    · split
      · omega
      · rw [if_pos (by omega)]
        have := h.rng (i - 1) (by omega); omega
  · intro i j hij hj
    rw [hl] at hj
    rw [joinOrd_get _ _ _ _ (by omega), joinOrd_get _ _ _ _ (by omega)]
    by_cases a1 : j < lo
    · rw [if_pos a1, if_pos (by omega), old i (by omega), old j (by omega)]
      exact h.inc i j hij (by omega)
    · rw [if_neg a1]
      by_cases a2 : j = lo
      · rw [if_pos a2, if_pos (by omega), idAt_new, old i (by omega)]
        exact h1 i (by omega)
      · rw [if_neg a2, if_pos (show j ≤ ns.length by omega), old (j - 1) (by omega)]
        by_cases b1 : i < lo
        · rw [if_pos b1, old i (by omega)]
          exact h.inc i (j - 1) (by omega) (by omega)
        · rw [if_neg b1]
          by_cases b2 : i = lo
          · rw [if_pos b2, idAt_new]
            exact h2 (j - 1) (by omega) (by omega)
          · rw [if_neg b2, if_pos (show i ≤ ns.length by omega), old (i - 1) (by omega)]
            exact h.inc (i - 1) (j - 1) (by omega) (by omega)
  · intro k hk
    rw [hl] at hk ⊢
    by_cases e : k = ns.length
    · refine ⟨lo, by omega, ?_⟩
      rw [joinOrd_get _ _ _ _ (by omega), if_neg (by omega), if_pos rfl, e]
    · obtain ⟨i, hi, e2⟩ := h.sur k (by omega)
      by_cases a : i < lo
      · refine ⟨i, by omega, ?_⟩
        rw [joinOrd_get _ _ _ _ (by omega), if_pos a]; exact e2
      · refine ⟨i + 1, by omega, ?_⟩
        rw [joinOrd_get _ _ _ _ (by omega), if_neg (by omega), if_neg (by omega), if_pos (by omega)]
        exact e2
  · intro i hi
    rw [hl] at hi
    by_cases h8 : i < 8
    · rw [joinOrd_get _ _ _ _ h8, if_neg (by omega), if_neg (by omega), if_neg (by omega)]
    · rw [List.getD_eq_getElem?_getD, List.getElem?_eq_none (by simp [joinOrd]; omega)]; rfl

/-- Where the search ends the scan says the same. -/
theorem search_has {ns : List N5} {ord : List Int} (h : OrdOK ns ord) (id : Int) (lo : Nat) (hlo : lo ≤ ns.length) (h1 : ∀ i, i < lo → idAt ns (ord.getD i 0) < id) (h2 : ∀ i, lo ≤ i → i < ns.length → id ≤ idAt ns (ord.getD i 0)) :
    hasId ns id = decide (lo < ns.length ∧ idAt ns (ord.getD lo 0) = id) := by
  rw [Bool.eq_iff_iff, decide_eq_true_iff]
  unfold hasId
  rw [List.any_eq_true]
  constructor
  · rintro ⟨c, hc, e⟩
    obtain ⟨k, hk, rfl⟩ := List.mem_iff_getElem.1 hc
    have e' : ns[k].id = id := by simpa using e
    obtain ⟨i, hi, e2⟩ := h.sur k hk
    have ei : idAt ns (ord.getD i 0) = id := by
      rw [e2]; unfold idAt
      rw [Int.toNat_natCast, List.getD_eq_getElem?_getD, List.getElem?_eq_getElem hk]; exact e'
    have hil : ¬ i < lo := fun hl => by have := h1 i hl; omega
    have hlt : lo < ns.length := by omega
    refine ⟨hlt, ?_⟩
    by_cases e3 : i = lo
    · rw [← e3]; exact ei
    · have a := h.inc lo i (by omega) hi
      have b := h2 lo (Nat.le_refl _) hlt
      omega
  · rintro ⟨hlt, e⟩
    obtain ⟨r0, r1⟩ := h.rng lo hlt
    refine ⟨ns[(ord.getD lo 0).toNat]'(by omega), List.getElem_mem _, ?_⟩
    unfold idAt at e
    rw [List.getD_eq_getElem?_getD, List.getElem?_eq_getElem (by omega)] at e
    simpa using e
end Go.Proofs.Qxb6500369a
