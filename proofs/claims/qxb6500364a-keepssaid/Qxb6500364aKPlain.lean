/-
  THE BOOK's LAW, PLAINLY: the least offer either way; the true least cost; what a round brings; the foot.
-/
import Derived.Test.Qxb6500364aPlay
namespace Go.Proofs.Qxb6500364a
open Go.RowKit Go.Qx
set_option linter.unusedVariables false
set_option linter.unusedSimpArgs false

/-- r is the least offer of the neighbours lo .. hi-1, the lowest of them. -/
structure IsBest (c h : Nat → Int) (lo hi : Nat) (r : Int × Int) : Prop where
  le : r.1 ≤ 16
  all : ∀ b, lo ≤ b → b < hi → 0 < c b → r.1 ≤ c b + h b
  hop : (r.1 = 16 ∧ r.2 = -1) ∨ (r.1 < 16 ∧ ∃ b : Nat, lo ≤ b ∧ b < hi ∧ r.2 = b ∧ 0 < c b ∧ r.1 = c b + h b ∧ ∀ b', lo ≤ b' → b' < b → 0 < c b' → r.1 < c b' + h b')

theorem isBest_to (c h : Nat → Int) : ∀ k, IsBest c h 0 k (bestTo c h k)
  | 0 => ⟨by simp [bestTo], fun b _ hb => by omega, .inl ⟨rfl, rfl⟩⟩
  | k + 1 => by
    obtain ⟨i1, i2, i3⟩ := isBest_to c h k
    unfold bestTo
    generalize bestTo c h k = B at *
    obtain ⟨B1, B2⟩ := B
    simp only at i1 i2 i3 ⊢
    by_cases hc : 0 < c k
    · rw [if_pos hc]
      by_cases ht : min (c k + h k) 16 < B1
      · rw [if_pos ht]
        refine ⟨by simp only; omega, ?_, ?_⟩
        · intro b h1 h2 h3
          simp only
          by_cases e : b = k
          · subst e; omega
          · have := i2 b h1 (by omega) h3; omega
        · refine .inr ⟨by simp only; omega, k, by omega, by omega, rfl, hc, by simp only; omega, ?_⟩
          intro b' h1 h2 h3
          have := i2 b' h1 (by omega) h3
          simp only; omega
      · rw [if_neg ht]
        refine ⟨by simp only; omega, ?_, ?_⟩
        · intro b h1 h2 h3
          simp only
          by_cases e : b = k
          · subst e; omega
          · have := i2 b h1 (by omega) h3; omega
        · rcases i3 with ⟨e1, e2⟩ | ⟨e1, b, e2, e3, e4, e5, e6, e7⟩
          · exact .inl ⟨by simp only; omega, e2⟩
          · refine .inr ⟨by simp only; omega, b, e2, by omega, e4, e5, by simp only; omega, ?_⟩
            intro b' h1 h2 h3
            have := e7 b' h1 h2 h3
            simp only; omega
    · rw [if_neg hc]
      refine ⟨i1, ?_, ?_⟩
      · intro b h1 h2 h3
        by_cases e : b = k
        · subst e; exact absurd h3 hc
        · exact i2 b h1 (by omega) h3
      · rcases i3 with e | ⟨e1, b, e2, e3, e4⟩
        · exact .inl e
        · exact .inr ⟨e1, b, e2, by omega, e4⟩

/-- From the top down, m of them. -/
def downTo (c h : Nat → Int) : Nat → Int × Int
  | 0 => (16, -1)
  | m + 1 => if 0 < c (4 - m) ∧ c (4 - m) + h (4 - m) < 16 ∧ c (4 - m) + h (4 - m) ≤ (downTo c h m).1 then (c (4 - m) + h (4 - m), ((4 - m : Nat) : Int)) else downTo c h m

theorem isBest_down (c h : Nat → Int) : ∀ m, m ≤ 5 → IsBest c h (5 - m) 5 (downTo c h m)
  | 0, _ => ⟨by simp [downTo], fun b h1 hb => by omega, .inl ⟨rfl, rfl⟩⟩
  | m + 1, hm => by
    obtain ⟨i1, i2, i3⟩ := isBest_down c h m (by omega)
    unfold downTo
    generalize downTo c h m = B at *
    obtain ⟨B1, B2⟩ := B
    obtain ⟨k, hk⟩ : ∃ k, 4 - m = k := ⟨_, rfl⟩
    rw [hk, show 5 - (m + 1) = k by omega]
    rw [show 5 - m = k + 1 by omega] at i2 i3
    simp only at i1 i2 i3 ⊢
    by_cases hc : 0 < c k ∧ c k + h k < 16 ∧ c k + h k ≤ B1
    · rw [if_pos hc]
      obtain ⟨h1, h2, h3⟩ := hc
      refine ⟨by simp only; omega, ?_, .inr ⟨h2, k, by omega, by omega, rfl, h1, rfl, fun b' _ _ _ => by omega⟩⟩
      intro b g1 g2 g3
      simp only
      by_cases e : b = k
      · subst e; omega
      · have := i2 b (by omega) g2 g3; omega
    · rw [if_neg hc]
      refine ⟨i1, ?_, ?_⟩
      · intro b g1 g2 g3
        by_cases e : b = k
        · subst e; simp only; omega
        · exact i2 b (by omega) g2 g3
      · rcases i3 with e | ⟨e1, b, e2, e3, e4, e5, e6, e7⟩
        · exact .inl e
        · refine .inr ⟨e1, b, by omega, e3, e4, e5, e6, ?_⟩
          intro b' g1 g2 g3
          by_cases e : b' = k
          · subst e; simp only at *; omega
          · exact e7 b' (by omega) g2 g3

theorem isBest_one {c h : Nat → Int} {lo hi : Nat} {r s : Int × Int} (a : IsBest c h lo hi r) (b : IsBest c h lo hi s) : r = s := by
  obtain ⟨r1, r2⟩ := r
  obtain ⟨s1, s2⟩ := s
  obtain ⟨a1, a2, a3⟩ := a
  obtain ⟨b1, b2, b3⟩ := b
  simp only at *
  rcases a3 with ⟨e1, e2⟩ | ⟨e1, i, e2, e3, e4, e5, e6, e7⟩ <;> rcases b3 with ⟨f1, f2⟩ | ⟨f1, j, f2, f3, f4, f5, f6, f7⟩
  · rw [e1, e2, f1, f2]
  · have := a2 j f2 f3 f5; omega
  · have := b2 i e2 e3 e5; omega
  · have g1 := a2 j f2 f3 f5
    have g2 := b2 i e2 e3 e5
    have hij : i = j := by
      by_cases h1 : i < j
      · have := f7 i e2 h1 e5; omega
      · by_cases h2 : j < i
        · have := e7 j f2 h2 f5; omega
        · omega
    subst hij
    rw [e4, f4, e6, f6]

theorem down_best (c h : Nat → Int) : downTo c h 5 = bestTo c h 5 := isBest_one (isBest_down c h 5 (by omega)) (isBest_to c h 5)

theorem bestP_is (a : Nat) (c : Nat → Int) (h : Nat → Nat → Int) (d : Nat) (hd : d ≠ a) : IsBest c (fun b => h b d) 0 5 (bestP a c h d) := by
  unfold bestP; rw [if_neg hd]; exact isBest_to _ _ 5

/-! ### W4: the foot -/
theorem far_best (a : Nat) (c : Nat → Int) (h : Nat → Nat → Int) (d : Nat) (hd : d ≠ a) (hh : ∀ b, b < 5 → 0 < c b → h b d = 16) : bestP a c h d = (16, -1) := by
  obtain ⟨i1, i2, i3⟩ := bestP_is a c h d hd
  generalize bestP a c h d = B at *
  obtain ⟨B1, B2⟩ := B
  rcases i3 with ⟨e1, e2⟩ | ⟨e1, b, e2, e3, e4, e5, e6, e7⟩
  · simp only at e1 e2; rw [e1, e2]
  · have := hh b e3 e5
    simp only at *; omega

/-! ### W1: the true least cost -/
structure Bell (C T : Nat → Nat → Int) : Prop where
  diag : ∀ a, a < 5 → T a a = 0
  rng : ∀ a d, a < 5 → d < 5 → 0 ≤ T a d ∧ T a d ≤ 16
  le : ∀ a d b, a < 5 → d < 5 → b < 5 → a ≠ d → 0 < C a b → T a d ≤ C a b + T b d
  ex : ∀ a d, a < 5 → d < 5 → a ≠ d → T a d < 16 → ∃ b, b < 5 ∧ 0 < C a b ∧ T a d = C a b + T b d

/-- Up to r the number e is t. -/
def Upto (r : Nat) (e t : Int) : Prop := min e (r : Int) = min t (r : Int)

theorem near_dist {C T : Nat → Nat → Int} {H : Nat → Nat → Nat → Int} (B : Bell C T) (I : Inv C H) {r a d : Nat} (ha : a < 5) (hd : d < 5) (hr : r ≤ 16)
    (hh : ∀ b, b < 5 → 0 < C a b → Upto r (H a b d) (T b d)) : Upto (r + 1) (vecP C H a d) (T a d) := by
  unfold Upto vecP at *
  by_cases e : d = a
  · subst e
    rw [B.diag d hd]
    unfold bestP; rw [if_pos rfl]
  · obtain ⟨i1, i2, i3⟩ := bestP_is a (C a) (H a) d e
    generalize bestP a (C a) (H a) d = V at *
    obtain ⟨V1, V2⟩ := V
    simp only at *
    have rg := B.rng a d ha hd
    have lo : min (T a d) ((r + 1 : Nat) : Int) ≤ V1 := by
      rcases i3 with ⟨e1, _⟩ | ⟨e1, b, _, e3, _, e5, e6, _⟩
      · omega
      · have g1 := hh b e3 e5
        have g2 := B.le a d b ha hd e3 (Ne.symm e) e5
        omega
    by_cases ht : T a d < ((r + 1 : Nat) : Int) ∧ T a d < 16
    · obtain ⟨b, hb, hc, he⟩ := B.ex a d ha hd (Ne.symm e) ht.2
      have g1 := hh b hb hc
      have g2 := i2 b (by omega) hb hc
      have g3 := B.rng b d hb hd
      omega
    · omega

/-- What the book holds r rounds behind the last change; M: who has been heard in the round that runs (M b a: from b to a). -/
def Near (C T : Nat → Nat → Int) (H : Nat → Nat → Nat → Int) (M : Nat → Nat → Bool) (r : Nat) : Prop :=
  ∀ a b d, a < 5 → b < 5 → d < 5 → 0 < C a b → Upto (if M b a then r + 1 else r) (H a b d) (T b d)
theorem Upto.less {r s : Nat} {e t : Int} (h : Upto r e t) (hs : s ≤ r) : Upto s e t := by unfold Upto at *; omega
theorem Near.base {C T : Nat → Nat → Int} {H : Nat → Nat → Nat → Int} {M : Nat → Nat → Bool} {r : Nat} (h : Near C T H M r) {a b d : Nat} (ha : a < 5) (hb : b < 5) (hd : d < 5) (hc : 0 < C a b) : Upto r (H a b d) (T b d) := by
  have := h a b d ha hb hd hc
  split at this
  · exact this.less (by omega)
  · exact this
theorem near_start {C T : Nat → Nat → Int} {H : Nat → Nat → Nat → Int} (B : Bell C T) (I : Inv C H) : Near C T H (fun _ _ => false) 0 := by
  intro a b d ha hb hd hc
  have := I.h a b d ha hb hd
  have := B.rng b d hb hd
  unfold Upto
  simp; omega
theorem near_deliver {C T : Nat → Nat → Int} {H : Nat → Nat → Nat → Int} {M : Nat → Nat → Bool} {r : Nat} (B : Bell C T) (I : Inv C H) (hr : r ≤ 16) (h : Near C T H M r) {i j : Nat} (hi : i < 5) (hj : j < 5) :
    Near C T (upd H j (upd (H j) i (vecP C H i))) (upd M i (upd (M i) j true)) r := by
  intro a b d ha hb hd hc
  have h0 := h a b d ha hb hd hc
  unfold upd
  by_cases e1 : a = j
  · subst e1
    by_cases e2 : b = i
    · subst e2
      simp only [if_true]
      exact near_dist B I hb hd hr (fun b' hb' hc' => h.base hb hb' hd hc')
    · simp only [if_true, if_neg e2]; exact h0
  · by_cases e2 : b = i
    · subst e2
      simp only [if_neg e1, if_true]; exact h0
    · simp only [if_neg e1, if_neg e2]; exact h0
/-- A round ends: every live link has been heard. -/
theorem near_round {C T : Nat → Nat → Int} {H : Nat → Nat → Nat → Int} {M : Nat → Nat → Bool} {r : Nat} (h : Near C T H M r) (hm : ∀ a b, a < 5 → b < 5 → 0 < C a b → M a b = true) (hs : ∀ a b, a < 5 → b < 5 → C a b = C b a) : Near C T H (fun _ _ => false) (r + 1) := by
  intro a b d ha hb hd hc
  have := h a b d ha hb hd hc
  rw [hm b a hb ha (by rw [hs b a hb ha]; exact hc)] at this
  simpa using this
theorem near_less {C T : Nat → Nat → Int} {H : Nat → Nat → Nat → Int} {r : Nat} (h : Near C T H (fun _ _ => false) (r + 1)) : Near C T H (fun _ _ => false) r := by
  intro a b d ha hb hd hc
  have := h a b d ha hb hd hc
  simp only [Bool.false_eq_true, if_false] at this ⊢
  exact this.less (by omega)
/-- Behind 16 rounds. -/
theorem near_ear {C T : Nat → Nat → Int} {H : Nat → Nat → Nat → Int} {M : Nat → Nat → Bool} (B : Bell C T) (I : Inv C H) (h : Near C T H M 16) {a b d : Nat} (ha : a < 5) (hb : b < 5) (hd : d < 5) (hc : 0 < C a b) : H a b d = T b d := by
  have h1 := h.base ha hb hd hc
  have := I.h a b d ha hb hd
  have := B.rng b d hb hd
  unfold Upto at h1
  omega
theorem near_vec {C T : Nat → Nat → Int} {H : Nat → Nat → Nat → Int} {M : Nat → Nat → Bool} (B : Bell C T) (I : Inv C H) (h : Near C T H M 16) {a d : Nat} (ha : a < 5) (hd : d < 5) : vecP C H a d = T a d := by
  have h1 := near_dist B I ha hd (by omega) (fun b hb hc => h.base ha hb hd hc)
  have := B.rng a d ha hd
  have h2 : 0 ≤ vecP C H a d ∧ vecP C H a d ≤ 16 := ((I.ok a ha).best a ha d hd).1
  unfold Upto at h1
  omega
end Go.Proofs.Qxb6500364a
