/-
  THE TRUE LEAST COST: all pairs, through the nodes one by one; going by the hops arrives.
-/
import Derived.Test.Qxb6500364aKPlain
namespace Go.Proofs.Qxb6500364a
open Go.RowKit Go.Qx
set_option linter.unusedVariables false
set_option linter.unusedSimpArgs false

def fw0 (C : Nat → Nat → Int) : Nat → Nat → Int := fun a b => if C a b = 0 ∧ a ≠ b then 16 else C a b
def fwS (k : Nat) (t : Nat → Nat → Int) : Nat → Nat → Int := fun a b => if t a k + t k b < t a b then t a k + t k b else t a b
def fw (C : Nat → Nat → Int) : Nat → Nat → Nat → Int
  | 0 => fw0 C
  | k + 1 => fwS k (fw C k)

structure FwOk (C t : Nat → Nat → Int) (k : Nat) : Prop where
  diag : ∀ a, a < 5 → t a a = 0
  rng : ∀ a d, a < 5 → d < 5 → 0 ≤ t a d ∧ t a d ≤ 16
  le : ∀ a b, a < 5 → b < 5 → 0 < C a b → t a b ≤ C a b
  tri : ∀ m a b, m < k → a < 5 → b < 5 → t a b ≤ t a m + t m b
  ex : ∀ a d, a < 5 → d < 5 → a ≠ d → t a d < 16 → ∃ b, b < 5 ∧ 0 < C a b ∧ C a b + t b d ≤ t a d

theorem fw_start {C : Nat → Nat → Int} {H : Nat → Nat → Nat → Int} (I : Inv C H) : FwOk C (fw0 C) 0 := by
  refine ⟨?_, ?_, ?_, ?_, ?_⟩
  · intro a ha
    unfold fw0
    rw [if_neg (fun h => h.2 rfl), I.diag a ha]
  · intro a d ha hd
    unfold fw0
    have := I.c a d ha hd
    split <;> omega
  · intro a b ha hb hc
    unfold fw0
    rw [if_neg (by omega)]
    exact Int.le_refl _
  · intro m a b hm; omega
  · intro a d ha hd hne ht
    unfold fw0 at ht
    have h0 := I.c a d ha hd
    split at ht
    · omega
    · rename_i h
      refine ⟨d, hd, by omega, ?_⟩
      unfold fw0
      rw [if_neg (fun h => h.2 rfl), I.diag d hd, if_neg h]
      omega

theorem fw_step {C t : Nat → Nat → Int} {k : Nat} (hk : k < 5) (F : FwOk C t k) : FwOk C (fwS k t) (k + 1) := by
  obtain ⟨dg, rg, le, tri, ex⟩ := F
  have lo : ∀ a b, fwS k t a b ≤ t a b := by intro a b; unfold fwS; split <;> omega
  have lk : ∀ a b, fwS k t a b ≤ t a k + t k b := by intro a b; unfold fwS; split <;> omega
  have ei : ∀ a b, fwS k t a b = t a b ∨ fwS k t a b = t a k + t k b := by
    intro a b; unfold fwS; split
    · exact .inr rfl
    · exact .inl rfl
  have dk := dg k hk
  refine ⟨?_, ?_, ?_, ?_, ?_⟩
  · intro a ha
    have h1 := dg a ha
    have h2 := rg a k ha hk
    have h3 := rg k a hk ha
    unfold fwS; split <;> omega
  · intro a d ha hd
    have h1 := rg a d ha hd
    have h2 := rg a k ha hk
    have h3 := rg k d hk hd
    unfold fwS; split <;> omega
  · intro a b ha hb hc
    have := le a b ha hb hc
    have := lo a b
    omega
  · intro m a b hm ha hb
    have h1 := lo a b
    have h2 := lk a b
    by_cases e : m = k
    · subst e
      have g1 := ei a m
      have g2 := ei m b
      omega
    · have hm' : m < 5 := by omega
      have g1 := ei a m
      have g2 := ei m b
      have t1 := tri m a b (by omega) ha hb
      have t2 := tri m a k (by omega) ha hk
      have t3 := tri m k b (by omega) hk hb
      have r1 := rg k m hk hm'
      have r2 := rg m k hm' hk
      omega
  · intro a d ha hd hne ht
    rcases ei a d with e | e
    · rw [e] at ht
      obtain ⟨b, hb, hc, h⟩ := ex a d ha hd hne ht
      have := lo b d
      exact ⟨b, hb, hc, by omega⟩
    · by_cases hak : a = k
      · subst hak
        rw [e, dk] at ht
        obtain ⟨b, hb, hc, h⟩ := ex a d ha hd hne (by omega)
        have := lo b d
        exact ⟨b, hb, hc, by omega⟩
      · have r1 := rg k d hk hd
        obtain ⟨b, hb, hc, h⟩ := ex a k ha hk hak (by omega)
        have := lk b d
        exact ⟨b, hb, hc, by omega⟩

theorem fw_ok {C : Nat → Nat → Int} {H : Nat → Nat → Nat → Int} (I : Inv C H) : ∀ k, k ≤ 5 → FwOk C (fw C k) k
  | 0, _ => fw_start I
  | k + 1, hk => fw_step (by omega) (fw_ok I k (by omega))

theorem fw_bell {C : Nat → Nat → Int} {H : Nat → Nat → Nat → Int} (I : Inv C H) : Bell C (fw C 5) := by
  obtain ⟨dg, rg, le, tri, ex⟩ := fw_ok I 5 (Nat.le_refl _)
  refine ⟨dg, rg, ?_, ?_⟩
  · intro a d b ha hd hb hne hc
    have h1 := tri b a d hb ha hd
    have h2 := le a b ha hb hc
    omega
  · intro a d ha hd hne ht
    obtain ⟨b, hb, hc, h⟩ := ex a d ha hd hne ht
    have h1 := tri b a d hb ha hd
    have h2 := le a b ha hb hc
    exact ⟨b, hb, hc, by omega⟩

/-! ### In place: row k and column k stand still -/
theorem fwS_row {C t : Nat → Nat → Int} {k : Nat} (hk : k < 5) (F : FwOk C t k) (a : Nat) (ha : a < 5) : fwS k t a k = t a k ∧ fwS k t k a = t k a := by
  have h0 := F.diag k hk
  have h1 := F.rng a k ha hk
  have h2 := F.rng k a hk ha
  unfold fwS
  constructor <;> (split <;> omega)
/-- The table while stage k goes through the places, m of them done. -/
def fwM (k : Nat) (t : Nat → Nat → Int) (m : Nat) : Nat → Nat → Int := fun a b => if a * 5 + b < m then fwS k t a b else t a b
theorem fwM_read {C t : Nat → Nat → Int} {k : Nat} (hk : k < 5) (F : FwOk C t k) (m : Nat) (a b : Nat) (ha : a < 5) (hb : b < 5) (hm : m = a * 5 + b) : fwM k t m a k = t a k ∧ fwM k t m k b = t k b ∧ fwM k t m a b = t a b := by
  unfold fwM
  have h1 := (fwS_row hk F a ha).1
  have h2 := (fwS_row hk F b hb).2
  refine ⟨?_, ?_, ?_⟩
  · split
    · exact h1
    · rfl
  · split
    · exact h2
    · rfl
  · rw [if_neg (by omega)]
theorem fwM_all (k : Nat) (t : Nat → Nat → Int) (a b : Nat) (ha : a < 5) (hb : b < 5) : fwM k t 25 a b = fwS k t a b := by
  unfold fwM; rw [if_pos (by omega)]

/-! ### W2: going by the hops -/
theorem hop_step {C T : Nat → Nat → Int} {H : Nat → Nat → Nat → Int} {M : Nat → Nat → Bool} (B : Bell C T) (I : Inv C H) (h : Near C T H M 16) {a d : Nat} (ha : a < 5) (hd : d < 5) (hne : a ≠ d) (ht : T a d < 16) :
    ∃ b : Nat, b < 5 ∧ (bestP a (C a) (H a) d).2 = b ∧ 0 < C a b ∧ T a d = C a b + T b d := by
  have hv := near_vec B I h ha hd
  obtain ⟨i1, i2, i3⟩ := bestP_is a (C a) (H a) d (Ne.symm hne)
  unfold vecP at hv
  rcases i3 with ⟨e1, _⟩ | ⟨e1, b, _, e3, e4, e5, e6, _⟩
  · omega
  · refine ⟨b, e3, e4, e5, ?_⟩
    have := near_ear B I h ha e3 hd e5
    rw [← hv, e6, this]
end Go.Proofs.Qxb6500364a
