/-
  367 Keeps: what a node shows tells its clock.
-/
import Derived.Test.Qxb6500367aPlain
namespace Go.Proofs.Qxb6500367a
open Go.RowKit Go.Qx
set_option linter.unusedVariables false

def valD : List UInt8 → Nat → Nat
  | [], a => a
  | d :: r, a => valD r (10 * a + (d.toNat - 48))
theorem valD_digs : ∀ (f m : Nat) (ds : List UInt8), m < 10 ^ f → valD (digs f m ds) 0 = valD ds m
  | 0, m, ds, h => by
    have : m = 0 := by simp at h; omega
    subst this; rfl
  | f + 1, m, ds, h => by
    unfold digs
    split
    · rename_i h0; subst h0; rfl
    · rw [valD_digs f (m / 10) _ (by rw [Nat.pow_succ] at h; omega), valD]
      have e : (UInt8.ofNat (48 + m % 10)).toNat = 48 + m % 10 := by
        rw [UInt8.toNat_ofNat']; omega
      rw [e]
      congr 1; omega
theorem digs_no32 : ∀ (f m : Nat) (ds : List UInt8), (32 : UInt8) ∉ ds → (32 : UInt8) ∉ digs f m ds
  | 0, m, ds, h => h
  | f + 1, m, ds, h => by
    unfold digs
    split
    · exact h
    · refine digs_no32 f (m / 10) _ ?_
      intro hm
      rw [List.mem_cons] at hm
      rcases hm with e | e
      · have e2 := congrArg UInt8.toNat e
        rw [UInt8.toNat_ofNat'] at e2
        have : (32 : UInt8).toNat = 32 := rfl
        omega
      · exact h e
theorem itoa_val (n : Int) (h0 : 0 ≤ n) (h1 : n < 10 ^ 19) : (valD (itoa n) 0 : Int) = n := by
  unfold itoa
  split
  · rename_i e; subst e; rfl
  · rw [if_neg (by omega), valD_digs _ _ _ (by omega), valD]; omega
theorem itoa_no32 (n : Int) (h0 : 0 ≤ n) : (32 : UInt8) ∉ itoa n := by
  unfold itoa
  split
  · decide
  · rw [if_neg (by omega)]; exact digs_no32 _ _ _ (by simp)
theorem cut32 : ∀ (a b r t : List UInt8), (32 : UInt8) ∉ a → (32 : UInt8) ∉ b → a ++ 32 :: r = b ++ 32 :: t → a = b ∧ r = t
  | [], [], r, t, _, _, h => by simp at h; exact ⟨rfl, h⟩
  | [], y :: b, r, t, _, hb, h => by simp at h hb; exact absurd h.1 hb.1
  | x :: a, [], r, t, ha, _, h => by simp at h ha; exact absurd h.1.symm ha.1
  | x :: a, y :: b, r, t, ha, hb, h => by
    simp at h ha hb
    obtain ⟨e1, e2⟩ := cut32 a b r t ha.2 hb.2 h.2
    exact ⟨by rw [h.1, e1], e2⟩
theorem fold_field {α : Type} (f : α → Int) : ∀ (l : List α) (b : List UInt8), ∃ t, l.foldl (fun s j => field s (f j)) b = b ++ t
  | [], b => ⟨[], by simp⟩
  | x :: l, b => by
    obtain ⟨t, h⟩ := fold_field f l (field b (f x))
    refine ⟨itoa (f x) ++ [32] ++ t, ?_⟩
    rw [List.foldl_cons, h, field]; simp
theorem show_head (s : Nd) : ∃ t, showP s = itoa s.id ++ 32 :: (itoa s.clock ++ 32 :: t) := by
  obtain ⟨t, h⟩ := fold_field (fun j : Nat => heldP s.q j) (List.range s.n) (field (field (field (field (field [] s.id) s.clock) s.phase) (bitsP s.got 0)) (headP s.q))
  unfold showP
  rw [h]
  simp only [field, List.nil_append, List.append_assoc, List.cons_append]
  exact ⟨_, rfl⟩
theorem show_clock {s s' : Nd} (hi : s.id = s'.id) (h0 : 0 ≤ s.clock) (h0' : 0 ≤ s'.clock) (h1 : s.clock < 10 ^ 19) (h1' : s'.clock < 10 ^ 19) (h : showP s = showP s') : s.clock = s'.clock := by
  obtain ⟨t, e⟩ := show_head s
  obtain ⟨t', e'⟩ := show_head s'
  rw [e, e', hi] at h
  obtain ⟨_, h2⟩ := cut32 _ _ _ _ (itoa_no32 _ (by omega)) (itoa_no32 _ (by omega)) h
  obtain ⟨h3, _⟩ := cut32 _ _ _ _ (itoa_no32 _ h0) (itoa_no32 _ h0') h2
  have a := itoa_val _ h0 h1
  have b := itoa_val _ h0' h1'
  rw [h3] at a
  omega
end Go.Proofs.Qxb6500367a
