/-
  ONE STEP OF Keeps, PLAINLY; the book follows.
-/
import Derived.Test.Qxb6500364aKTurnL
import Derived.Test.Qxb6500364aKTurnU
import Derived.Test.Qxb6500364aKTurnD
import Derived.Test.Qxb6500364aKNew
namespace Go.Proofs.Qxb6500364a
open Go.RowKit Go.Qx
set_option linter.unusedVariables false
set_option linter.unusedSimpArgs false

theorem want_any (w : World) (g p q m f : Nat) (C : Nat → Nat → Int) (H : Nat → Nat → Nat → Int) (Mk F : Nat → Nat → Bool) (r : Nat) (R : RepG w g p q m f C H Mk F r) (I : Inv C H) (o : Opr) :
    Calls Try.prog 14 #[.pointer (some ⟨g, 0, none⟩), opv o.k o.a o.b o.c o.s o.t, .string (str (showP C H))] w fun e w' => e = .returned (ansv (ansP C H o).e (ansP C H o).n (ansP C H o).m (ansP C H o).s) ∧ Quiet w w' := by
  obtain ⟨k, a, b, c, s, t⟩ := o
  dsimp only
  by_cases h5 : k = 5
  · subst h5; exact want_show w g a b c s t _
  by_cases h6 : k = 6
  · subst h6; exact want_check w g a b c s t _
  by_cases hlo : k < 1
  · have e : ansP C H ⟨k, a, b, c, s, t⟩ = ⟨0, 0, 0, ⟨#[]⟩⟩ := by
      unfold ansP
      dsimp only
      rw [if_neg (by omega), if_neg (by omega), if_neg (by omega), if_neg (by omega), if_neg h5, if_neg h6]
    rw [e]; exact want_lo w g k hlo a b c s t _
  by_cases hhi : 4 < k
  · have e : ansP C H ⟨k, a, b, c, s, t⟩ = ⟨0, 0, 0, ⟨#[]⟩⟩ := by
      unfold ansP
      dsimp only
      rw [if_neg (by omega), if_neg (by omega), if_neg (by omega), if_neg (by omega), if_neg h5, if_neg h6]
    rw [e]; exact want_hi w g k hhi (by simpa using h5) (by simpa using h6) a b c s t _
  have hk : 1 ≤ k ∧ k ≤ 4 := by omega
  rcases nodes_cases a b with ⟨i, j, rfl, rfl, hi, hj, hn⟩ | hn
  · by_cases h4 : k = 4
    · subst h4
      have e : ansP C H ⟨4, i, j, c, s, t⟩ = ⟨0, (bestP i (C i) (H i) j).1, (bestP i (C i) (H i) j).2, ⟨#[]⟩⟩ := by
        unfold ansP routeP
        dsimp only
        rw [hn]
        rfl
      rw [e]; exact want_route w g p q m f C H Mk F r R I i j hi hj c s t _
    by_cases hij : i = j
    · subst hij
      have he : endsP i i = 2 := by unfold endsP; rw [hn]; simp
      have e : ansP C H ⟨k, i, i, c, s, t⟩ = ⟨2, 0, 0, ⟨#[]⟩⟩ := by
        have l1 : linkE i i c = 2 := by unfold linkE; rw [he]; rfl
        have l2 : liveP C i i = 2 := by unfold liveP; rw [he]; rfl
        unfold ansP
        dsimp only
        rw [l1, l2]
        by_cases k1 : k = 1
        · rw [if_pos k1]
        · rw [if_neg k1]
          by_cases k2 : k = 2
          · rw [if_pos k2]
          · rw [if_neg k2, if_pos (by omega)]
      rw [e]; exact want_self w g k (by omega) i hi c s t _
    have he : endsP i j = 0 := by
      unfold endsP; rw [hn]
      simp; omega
    by_cases k1 : k = 1
    · subst k1
      by_cases hc : c < 1
      · have e : ansP C H ⟨1, i, j, c, s, t⟩ = ⟨3, 0, 0, ⟨#[]⟩⟩ := by
          show (⟨linkE i j c, 0, 0, ⟨#[]⟩⟩ : An) = _
          unfold linkE; rw [he, if_neg (by simp), if_pos hc]
        rw [e]; exact want_cost w g i j hi hj hij c hc s t _
      · have e : ansP C H ⟨1, i, j, c, s, t⟩ = ⟨0, 0, 0, ⟨#[]⟩⟩ := by
          show (⟨linkE i j c, 0, 0, ⟨#[]⟩⟩ : An) = _
          unfold linkE; rw [he, if_neg (by simp), if_neg hc]
        rw [e]; exact want_link w g p q m f C H Mk F r R i j hi hj hij c hc s t _
    have hk23 : k = 2 ∨ k = 3 := by omega
    have ea : ansP C H ⟨k, i, j, c, s, t⟩ = ⟨liveP C i j, 0, 0, ⟨#[]⟩⟩ := by
      unfold ansP
      dsimp only
      rw [if_neg k1]
      rcases hk23 with rfl | rfl
      · rw [if_pos rfl]
      · rw [if_neg (by omega), if_pos rfl]
    by_cases hz : C i j = 0
    · have hl : liveP C i j = 4 := by unfold liveP; rw [he]; simp [hz]
      rw [ea, hl]; exact want_down w g p q m f C H Mk F r R k hk23 i j hi hj hij c hz s t _
    · have hl : liveP C i j = 0 := by unfold liveP; rw [he]; simp [hz]
      rw [ea, hl]; exact want_live w g p q m f C H Mk F r R k hk23 i j hi hj hij c hz s t _
  · have he : endsP a b = 1 := by unfold endsP; rw [hn]; rfl
    have e : ansP C H ⟨k, a, b, c, s, t⟩ = ⟨1, 0, 0, ⟨#[]⟩⟩ := by
      have l1 : linkE a b c = 1 := by unfold linkE; rw [he]; rfl
      have l2 : liveP C a b = 1 := by unfold liveP; rw [he]; rfl
      have l3 : routeP C H a b = (0, 0, 1) := by unfold routeP; rw [hn]; rfl
      unfold ansP
      dsimp only
      rw [l1, l2, l3]
      by_cases k1 : k = 1
      · rw [if_pos k1]
      · rw [if_neg k1]
        by_cases k2 : k = 2
        · rw [if_pos k2]
        · rw [if_neg k2]
          by_cases k3 : k = 3
          · rw [if_pos k3]
          · rw [if_neg k3, if_pos (by omega)]
    rw [e]
    unfold nodesP at hn
    rw [decide_eq_false_iff_not] at hn
    by_cases a1 : a < 0
    · exact want_n1 w g k hk a b c a1 s t _
    by_cases a2 : 5 ≤ a
    · exact want_n2 w g k hk a b c a2 s t _
    by_cases b1 : b < 0
    · exact want_n3 w g k hk a b c ⟨by omega, by omega, b1⟩ s t _
    · exact want_n4 w g k hk a b c ⟨by omega, by omega, by omega⟩ s t _

/-! ### The book follows -/
/-- What was never heard is Far. -/
def Fed (H : Nat → Nat → Nat → Int) (F : Nat → Nat → Bool) : Prop := ∀ a b, a < 5 → b < 5 → F a b = false → ∀ d, d < 5 → H a b d = 16
theorem Fed.feet {C : Nat → Nat → Int} {H : Nat → Nat → Nat → Int} {F : Nat → Nat → Bool} (h : Fed H F) : Feet C H F := by
  intro a d ha hd hne hf
  exact far_best a (C a) (H a) d (Ne.symm hne) (fun b hb _ => h a b ha hb (hf b hb) d hd)
theorem Fed.unlink {H : Nat → Nat → Nat → Int} {F : Nat → Nat → Bool} (h : Fed H F) (i j : Nat) : Fed (lk H i j (fun _ => 16)) (lk F i j false) := by
  intro a b ha hb hf d hd
  unfold lk at hf ⊢
  split
  · rfl
  · rename_i e
    rw [if_neg e] at hf
    exact h a b ha hb hf d hd
theorem Fed.deliver {H : Nat → Nat → Nat → Int} {F : Nat → Nat → Bool} (h : Fed H F) (i j : Nat) (v : Nat → Int) : Fed (upd H j (upd (H j) i v)) (upd F j (upd (F j) i true)) := by
  intro a b ha hb hf d hd
  unfold upd at hf ⊢
  by_cases e1 : a = j
  · rw [if_pos e1] at hf ⊢
    by_cases e2 : b = i
    · rw [if_pos e2] at hf; simp at hf
    · rw [if_neg e2] at hf ⊢
      rw [e1] at ha
      exact h j b ha hb hf d hd
  · rw [if_neg e1] at hf ⊢
    exact h a b ha hb hf d hd
theorem fed_first : Fed (fun _ _ _ => 16) (fun _ _ => false) := fun _ _ _ _ _ _ _ => rfl

/-- What the book holds of the rounds. -/
def Rnd (C : Nat → Nat → Int) (H : Nat → Nat → Nat → Int) (M : Nat → Nat → Bool) (r : Nat) : Prop := r ≤ 16 ∧ Near C (fw C 5) H M r
theorem rnd_start {C : Nat → Nat → Int} {H : Nat → Nat → Nat → Int} (I : Inv C H) : Rnd C H (fun _ _ => false) 0 := ⟨by omega, near_start (fw_bell I) I⟩
theorem rnd_deliver {C : Nat → Nat → Int} {H : Nat → Nat → Nat → Int} {M : Nat → Nat → Bool} {r : Nat} (I : Inv C H) (h : Rnd C H M r) (i j : Nat) (hi : i < 5) (hj : j < 5) : Rnd C (upd H j (upd (H j) i (vecP C H i))) (upd M i (upd (M i) j true)) r :=
  ⟨h.1, near_deliver (fw_bell I) I h.1 h.2 hi hj⟩
theorem rnd_round {C : Nat → Nat → Int} {H H' : Nat → Nat → Nat → Int} {M : Nat → Nat → Bool} {r : Nat} (I : Inv C H') (h : Rnd C H M r) (hm : markedTo C M 25) : Rnd C H (fun _ _ => false) (min (r + 1) 16) := by
  have h1 := near_round h.2 (fun a b ha hb hc => by
    have := hm (a * 5 + b) (by omega)
    rw [show (a * 5 + b) / 5 = a by omega, show (a * 5 + b) % 5 = b by omega] at this
    exact this hc) I.sym
  by_cases e : r < 16
  · rw [show min (r + 1) 16 = r + 1 by omega]
    exact ⟨by omega, h1⟩
  · have h0 := h.1
    rw [show min (r + 1) 16 = r by omega]
    exact ⟨h0, near_less h1⟩
end Go.Proofs.Qxb6500364a
