/-
  ONE STEP, PLAINLY; Do AND DoM PLAY IT; BOTH SIDES.
-/
import Derived.Test.Qxb6500368aDoM
import Derived.Test.Qxb6500368aCheck
import Derived.Test.Qxb6500368aMConv
namespace Go.Proofs.Qxb6500368a
open Go.RowKit Go.Qx
set_option linter.unusedSimpArgs false
set_option linter.unusedVariables false

structure Opr where
  k : Int
  a : Int
  b : Int
  c : Int
  s : ByteArray
  t : ByteArray

structure An where
  e : Int
  n : Int
  m : Int
  s : ByteArray

structure St where
  c : Nat → Int
  n : Nat → Nat
  wk : Nat

abbrev St.Ok (σ : St) : Prop := Inv σ.c σ.n σ.wk

def ansP (σ : St) (o : Opr) : An :=
  if o.k = 1 then ⟨loadE o.s o.a, 0, 0, ⟨#[]⟩⟩
  else if o.k = 2 then ⟨(atP σ.c σ.n o.a o.b).2, (atP σ.c σ.n o.a o.b).1, 0, ⟨#[]⟩⟩
  else if o.k = 3 then ⟨turnE σ.n o.a, 0, 0, ⟨#[]⟩⟩
  else if o.k = 4 then ⟨turnE σ.n o.a, 0, 0, ⟨#[]⟩⟩
  else if o.k = 5 then ⟨convE σ.n o.a o.b o.c, 0, 0, ⟨#[]⟩⟩
  else if o.k = 6 then ⟨0, σ.wk, 0, ⟨#[]⟩⟩
  else if o.k = 7 then ⟨0, 0, 0, str (showTo σ.c σ.n σ.wk 3)⟩
  else if o.k = 8 then ⟨0, 1, 0, ⟨#[]⟩⟩
  else ⟨0, 0, 0, ⟨#[]⟩⟩

def nextP (σ : St) (o : Opr) : St :=
  if o.k = 1 then ⟨loadC σ.c o.s o.a, loadN σ.n o.s o.a, σ.wk⟩
  else if o.k = 3 then ⟨turnC σ.c σ.n o.a false, σ.n, turnW σ.n σ.wk o.a false⟩
  else if o.k = 4 then ⟨turnC σ.c σ.n o.a true, σ.n, turnW σ.n σ.wk o.a true⟩
  else if o.k = 5 then ⟨convC σ.c σ.n o.a o.b o.c, convN σ.n o.a o.b o.c, convW σ.n σ.wk o.a o.b o.c⟩
  else σ

/-! ### The invariant -/
theorem quadsTo_lt (s : ByteArray) : ∀ k, quadsTo s k = true → ∀ i, i < k → quadN s i < 998244353
  | 0, _, i, hi => by omega
  | k + 1, h, i, hi => by
    rw [quadsTo, Bool.and_eq_true] at h
    by_cases e : i = k
    · subst e; simpa using h.2
    · exact quadsTo_lt s k h.1 i (by omega)
theorem quadsE_zero {s : ByteArray} (h : quadsE s = 0) : s.size / 4 ≤ 16 ∧ ∀ i, i < s.size / 4 → quadN s i < 998244353 := by
  unfold quadsE at h
  split at h
  · cases h
  · split at h
    · cases h
    · split at h
      · rename_i h3; exact ⟨by omega, quadsTo_lt s _ h3⟩
      · cases h

theorem inv_win {c : Nat → Int} {n : Nat → Nat} {wk : Nat} (I : Inv c n wk) (o k : Nat) (y : Nat → Int) (hy : ∀ p, p < k → 0 ≤ y p ∧ y p < pP) (n' : Nat → Nat) (hn : ∀ r, r < 3 → n' r ≤ 16) (wk' : Nat) (hw : wk' ≤ 1000) : Inv (win c o k y) n' wk' := by
  refine ⟨fun i hi => ?_, hn, hw⟩
  unfold win
  split
  · exact hy _ (by omega)
  · exact I.c i hi
theorem net_in {k : Nat} (inv : Bool) (x : Nat → Int) (hx : InP (2 ^ k) x) (j : Nat) : 0 ≤ netP k inv x j ∧ netP k inv x j < pP := by
  rw [net_mat k inv x hx j]; exact emod_in _
theorem updN_le {n : Nat → Nat} (h : ∀ r, r < 3 → n r ≤ 16) (d L : Nat) (hL : L ≤ 16) : ∀ r, r < 3 → updN n d L r ≤ 16 := by
  intro r hr
  unfold updN
  split
  · exact hL
  · exact h r hr

theorem inv_load {c : Nat → Int} {n : Nat → Nat} {wk : Nat} (I : Inv c n wk) (s : ByteArray) (r : Int) : Inv (loadC c s r) (loadN n s r) wk := by
  unfold loadC loadN
  by_cases h : loadE s r = 0
  · rw [if_pos h, if_pos h]
    have hq : quadsE s = 0 := by
      unfold loadE at h
      split at h
      · assumption
      · exact h
    obtain ⟨h1, h2⟩ := quadsE_zero hq
    exact inv_win I _ _ _ (fun p hp => by have := h2 p hp; unfold pP; omega) _ (updN_le I.n _ _ h1) _ I.wk
  · rw [if_neg h, if_neg h]; exact I

theorem inv_turn {c : Nat → Int} {n : Nat → Nat} {wk : Nat} (I : Inv c n wk) (r : Int) (inv : Bool) : Inv (turnC c n r inv) n (turnW n wk r inv) := by
  unfold turnC turnW
  by_cases h : turnE n r = 0
  · rw [if_pos h, if_pos h]
    unfold turnE at h
    split at h
    · rename_i hr
      split at h
      · cases h
      · rename_i hl
        have hm := log2_ok hl
        have hr3 : r.toNat < 3 := by unfold regP at hr; simp at hr; omega
        have hn := I.n _ hr3
        have hwl := work_le (ceilP (n r.toNat)) (n r.toNat) (ceil_le _) hn
        refine inv_win I _ _ _ (fun p hp => net_in inv _ (fun i hi => I.c _ ?_) p) _ I.n _ ?_
        · rw [← hm] at hi; omega
        · cases inv <;> simp <;> omega
    · cases h
  · rw [if_neg h, if_neg h]; exact I

theorem inv_conv {c : Nat → Int} {n : Nat → Nat} {wk : Nat} (I : Inv c n wk) (d a b : Int) : Inv (convC c n d a b) (convN n d a b) (convW n wk d a b) := by
  unfold convC convN convW
  by_cases h2 : convK n d a b = 2
  · have h1 : ¬ convK n d a b = 1 := by omega
    rw [if_pos h2, if_neg h1, if_pos h2, if_neg h1, if_pos h2]
    unfold convK at h2
    split at h2
    · split at h2
      · cases h2
      · split at h2
        · cases h2
        · rename_i hr hz h16
          have ha : a.toNat < 3 := by unfold regsB regP at hr; simp at hr; omega
          have hb : b.toNat < 3 := by unfold regsB regP at hr; simp at hr; omega
          have hwl := work_le (ceilP (convLen n a b)) (2 ^ ceilP (convLen n a b)) (ceil_le _) (pow_16 _ (ceil_le _))
          have hp := pow_16 _ (ceil_le (convLen n a b))
          exact inv_win I _ _ _ (fun p _ => net_in true _ (fun j _ => emod_in _) p) _ (updN_le I.n _ _ (by omega)) _ (by omega)
    · cases h2
  · rw [if_neg h2]
    by_cases h1 : convK n d a b = 1
    · rw [if_pos h1, if_pos h1]
      exact ⟨I.c, updN_le I.n _ _ (by omega), by omega⟩
    · rw [if_neg h1, if_neg h2, if_neg h1, if_neg h2]; exact I

theorem inv_next {σ : St} (I : σ.Ok) (o : Opr) : (nextP σ o).Ok := by
  unfold nextP
  split
  · exact inv_load I _ _
  · split
    · exact inv_turn I _ _
    · split
      · exact inv_turn I _ _
      · split
        · exact inv_conv I _ _ _
        · exact I

def St.first : St := ⟨fun _ => 0, fun _ => 0, 0⟩
theorem inv_first : St.first.Ok := ⟨fun i _ => by show (0 : Int) ≤ 0 ∧ (0 : Int) < pP; decide, fun r _ => by show 0 ≤ 16; omega, by show 0 ≤ 1000; omega⟩

/-! ### Do -/
def RepS (w : World) (x v : Nat) (σ : St) : Prop := Rep w x v σ.c σ.n σ.wk
def RepMS (w : World) (m a b : Nat) (σ : St) : Prop := RepM w m a b σ.c σ.n σ.wk

theorem did_R {w w' : World} {x v : Nat} {σ : St} (hS : ∀ k, own x v k → k < w.heap.size) (h : Did (own x v) (fun w1 => RepS w1 x v σ) w w') : Chg (own x v) w w' ∧ RepS w' x v σ := by
  obtain ⟨ch, w1, R, ch2⟩ := h
  refine ⟨ch, Rep.of_chg R ch2 ?_⟩
  rintro k (rfl | rfl) hk
  all_goals have := hS _ hk; omega
theorem did_M {w w' : World} {m a b : Nat} {σ : St} (hS : ∀ k, ownM m a b k → k < w.heap.size) (h : Did (ownM m a b) (fun w1 => RepMS w1 m a b σ) w w') : Chg (ownM m a b) w w' ∧ RepMS w' m a b σ := by
  obtain ⟨ch, w1, R, ch2⟩ := h
  refine ⟨ch, RepM.of_chg R ch2 ?_⟩
  rintro k (rfl | rfl) hk
  all_goals have := hS _ hk; omega

theorem do_any (w : World) (x v : Nat) (σ : St) (R : RepS w x v σ) (I : σ.Ok) (p : Opr) :
    Calls Try.prog 10 #[ptr x, opv p.k p.a p.b p.c p.s p.t] w fun e w' => e = .returned (ansv (ansP σ p).e (ansP σ p).n (ansP σ p).m (ansP σ p).s) ∧ Chg (own x v) w w' ∧ RepS w' x v (nextP σ p) := by
  have hS := Rep.lts R
  obtain ⟨pk, pa, pb, pc, ps, pt⟩ := p
  have fin : ∀ {E N M S K}, (ansP σ ⟨pk, pa, pb, pc, ps, pt⟩ = ⟨E, N, M, S⟩) → nextP σ ⟨pk, pa, pb, pc, ps, pt⟩ = K → (Calls Try.prog 10 #[ptr x, opv pk pa pb pc ps pt] w fun e w' => e = .returned (ansv E N M S) ∧ Did (own x v) (fun w1 => RepS w1 x v K) w w') →
      Calls Try.prog 10 #[ptr x, opv pk pa pb pc ps pt] w fun e w' => e = .returned (ansv (ansP σ ⟨pk, pa, pb, pc, ps, pt⟩).e (ansP σ ⟨pk, pa, pb, pc, ps, pt⟩).n (ansP σ ⟨pk, pa, pb, pc, ps, pt⟩).m (ansP σ ⟨pk, pa, pb, pc, ps, pt⟩).s) ∧ Chg (own x v) w w' ∧ RepS w' x v (nextP σ ⟨pk, pa, pb, pc, ps, pt⟩) := by
    intro E N M S K e1 e2 h
    rw [e1, e2]
    exact h.mono fun e w' ⟨h1, h2⟩ => ⟨h1, did_R hS h2⟩
  by_cases h1 : pk = 1
  · subst h1
    exact fin (K := ⟨loadC σ.c ps pa, loadN σ.n ps pa, σ.wk⟩) (by simp [ansP]) (by simp [nextP]) (do_load_of w x pa pb pc ps pt _ _ _ hS (fun W q => (load_any W x v σ.c σ.n σ.wk (Rep.quiet R q) I pa ps).mono fun e w' ⟨g1, g2, g3⟩ => ⟨g1, g2, g3⟩))
  by_cases h2 : pk = 2
  · subst h2
    exact fin (K := σ) (by simp [ansP]) (by simp [nextP]) (do_at_of w x pa pb pc ps pt _ _ _ _ hS (fun W q => (at_any W x v σ.c σ.n σ.wk (Rep.quiet R q) I pa pb).mono fun e w' ⟨g1, g2⟩ => ⟨g1, by rw [g2]; exact Chg.refl _ _, by rw [g2]; exact Rep.quiet R q⟩))
  by_cases h3 : pk = 3
  · subst h3
    exact fin (K := ⟨turnC σ.c σ.n pa false, σ.n, turnW σ.n σ.wk pa false⟩) (by simp [ansP]) (by simp [nextP]) (do_forward_of w x pa pb pc ps pt _ _ _ hS (fun W q => (forward_any W x v σ.c σ.n σ.wk (Rep.quiet R q) I pa).mono fun e w' ⟨g1, g2, g3⟩ => ⟨g1, g2, g3⟩))
  by_cases h4 : pk = 4
  · subst h4
    exact fin (K := ⟨turnC σ.c σ.n pa true, σ.n, turnW σ.n σ.wk pa true⟩) (by simp [ansP]) (by simp [nextP]) (do_inverse_of w x pa pb pc ps pt _ _ _ hS (fun W q => (inverse_any W x v σ.c σ.n σ.wk (Rep.quiet R q) I pa).mono fun e w' ⟨g1, g2, g3⟩ => ⟨g1, g2, g3⟩))
  by_cases h5 : pk = 5
  · subst h5
    exact fin (K := ⟨convC σ.c σ.n pa pb pc, convN σ.n pa pb pc, convW σ.n σ.wk pa pb pc⟩) (by simp [ansP]) (by simp [nextP]) (do_conv_of w x pa pb pc ps pt _ _ _ hS (fun W q => (conv_any W x v σ.c σ.n σ.wk (Rep.quiet R q) I pa pb pc).mono fun e w' ⟨g1, g2, g3⟩ => ⟨g1, g2, g3⟩))
  by_cases h6 : pk = 6
  · subst h6
    exact fin (K := σ) (by simp [ansP]) (by simp [nextP]) (do_spent_of w x pa pb pc ps pt _ _ _ hS (fun W q => (spent_any W x v σ.c σ.n σ.wk (Rep.quiet R q)).mono fun e w' ⟨g1, g2⟩ => ⟨g1, by rw [g2]; exact Chg.refl _ _, by rw [g2]; exact Rep.quiet R q⟩))
  by_cases h7 : pk = 7
  · subst h7
    exact fin (K := σ) (by simp [ansP]) (by simp [nextP]) (do_show_of w x pa pb pc ps pt _ _ _ hS (fun W q => (show_any W x v σ.c σ.n σ.wk (Rep.quiet R q) I).mono fun e w' ⟨g1, g2⟩ => ⟨g1, Quiet.chg g2 _, Rep.quiet (Rep.quiet R q) g2⟩))
  by_cases h8 : pk = 8
  · subst h8
    exact fin (K := σ) (by simp [ansP]) (by simp [nextP]) (do_check_of w x pa pb pc ps pt _ _ hS (fun W q => (check_any W x v σ.c σ.n σ.wk (Rep.quiet R q) I).mono fun e w' ⟨g1, g2⟩ => ⟨g1, Quiet.chg g2 _, Rep.quiet (Rep.quiet R q) g2⟩))
  · have e1 : ansP σ ⟨pk, pa, pb, pc, ps, pt⟩ = ⟨0, 0, 0, ⟨#[]⟩⟩ := by simp [ansP, h1, h2, h3, h4, h5, h6, h7, h8]
    have e2 : nextP σ ⟨pk, pa, pb, pc, ps, pt⟩ = σ := by simp [nextP, h1, h2, h3, h4, h5, h6, h7, h8]
    rw [e1, e2]
    refine (do_none_of w x pk pa pb pc ps pt (by simpa using h1) (by simpa using h2) (by simpa using h3) (by simpa using h4) (by simpa using h5) (by simpa using h6) (by simpa using h7) (by simpa using h8)).mono ?_
    rintro e w' ⟨g1, g2⟩
    exact ⟨g1, Quiet.chg g2 _, Rep.quiet R g2⟩

theorem dom_any (w : World) (m ma mb : Nat) (σ : St) (R : RepMS w m ma mb σ) (I : σ.Ok) (p : Opr) :
    Calls Try.prog 31 #[ptr m, opv p.k p.a p.b p.c p.s p.t] w fun e w' => e = .returned (ansv (ansP σ p).e (ansP σ p).n (ansP σ p).m (ansP σ p).s) ∧ Chg (ownM m ma mb) w w' ∧ RepMS w' m ma mb (nextP σ p) := by
  have hS := RepM.lts R
  obtain ⟨pk, pa, pb, pc, ps, pt⟩ := p
  have fin : ∀ {E N M S K}, (ansP σ ⟨pk, pa, pb, pc, ps, pt⟩ = ⟨E, N, M, S⟩) → nextP σ ⟨pk, pa, pb, pc, ps, pt⟩ = K → (Calls Try.prog 31 #[ptr m, opv pk pa pb pc ps pt] w fun e w' => e = .returned (ansv E N M S) ∧ Did (ownM m ma mb) (fun w1 => RepMS w1 m ma mb K) w w') →
      Calls Try.prog 31 #[ptr m, opv pk pa pb pc ps pt] w fun e w' => e = .returned (ansv (ansP σ ⟨pk, pa, pb, pc, ps, pt⟩).e (ansP σ ⟨pk, pa, pb, pc, ps, pt⟩).n (ansP σ ⟨pk, pa, pb, pc, ps, pt⟩).m (ansP σ ⟨pk, pa, pb, pc, ps, pt⟩).s) ∧ Chg (ownM m ma mb) w w' ∧ RepMS w' m ma mb (nextP σ ⟨pk, pa, pb, pc, ps, pt⟩) := by
    intro E N M S K e1 e2 h
    rw [e1, e2]
    exact h.mono fun e w' ⟨h1, h2⟩ => ⟨h1, did_M hS h2⟩
  by_cases h1 : pk = 1
  · subst h1
    exact fin (K := ⟨loadC σ.c ps pa, loadN σ.n ps pa, σ.wk⟩) (by simp [ansP]) (by simp [nextP]) (dom_load_of w m pa pb pc ps pt _ _ _ hS (fun W q => (mload_any W m ma mb σ.c σ.n σ.wk (RepM.quiet R q) I pa ps).mono fun e w' ⟨g1, g2, g3⟩ => ⟨g1, g2, g3⟩))
  by_cases h2 : pk = 2
  · subst h2
    exact fin (K := σ) (by simp [ansP]) (by simp [nextP]) (dom_at_of w m pa pb pc ps pt _ _ _ _ hS (fun W q => (mat_any W m ma mb σ.c σ.n σ.wk (RepM.quiet R q) I pa pb).mono fun e w' ⟨g1, g2⟩ => ⟨g1, by rw [g2]; exact Chg.refl _ _, by rw [g2]; exact RepM.quiet R q⟩))
  by_cases h3 : pk = 3
  · subst h3
    exact fin (K := ⟨turnC σ.c σ.n pa false, σ.n, turnW σ.n σ.wk pa false⟩) (by simp [ansP]) (by simp [nextP]) (dom_forward_of w m pa pb pc ps pt _ _ _ hS (fun W q => (mforward_any W m ma mb σ.c σ.n σ.wk (RepM.quiet R q) I pa).mono fun e w' ⟨g1, g2, g3⟩ => ⟨g1, g2, g3⟩))
  by_cases h4 : pk = 4
  · subst h4
    exact fin (K := ⟨turnC σ.c σ.n pa true, σ.n, turnW σ.n σ.wk pa true⟩) (by simp [ansP]) (by simp [nextP]) (dom_inverse_of w m pa pb pc ps pt _ _ _ hS (fun W q => (minverse_any W m ma mb σ.c σ.n σ.wk (RepM.quiet R q) I pa).mono fun e w' ⟨g1, g2, g3⟩ => ⟨g1, g2, g3⟩))
  by_cases h5 : pk = 5
  · subst h5
    exact fin (K := ⟨convC σ.c σ.n pa pb pc, convN σ.n pa pb pc, convW σ.n σ.wk pa pb pc⟩) (by simp [ansP]) (by simp [nextP]) (dom_conv_of w m pa pb pc ps pt _ _ _ hS (fun W q => (mconv_any W m ma mb σ.c σ.n σ.wk (RepM.quiet R q) I pa pb pc).mono fun e w' ⟨g1, g2, g3⟩ => ⟨g1, g2, g3⟩))
  by_cases h6 : pk = 6
  · subst h6
    exact fin (K := σ) (by simp [ansP]) (by simp [nextP]) (dom_spent_of w m pa pb pc ps pt _ _ _ hS (fun W q => (spentM_any W m ma mb σ.c σ.n σ.wk (RepM.quiet R q)).mono fun e w' ⟨g1, g2⟩ => ⟨g1, by rw [g2]; exact Chg.refl _ _, by rw [g2]; exact RepM.quiet R q⟩))
  by_cases h7 : pk = 7
  · subst h7
    exact fin (K := σ) (by simp [ansP]) (by simp [nextP]) (dom_show_of w m pa pb pc ps pt _ _ _ hS (fun W q => (mshow_any W m ma mb σ.c σ.n σ.wk (RepM.quiet R q) I).mono fun e w' ⟨g1, g2⟩ => ⟨g1, Quiet.chg g2 _, RepM.quiet (RepM.quiet R q) g2⟩))
  by_cases h8 : pk = 8
  · subst h8
    exact fin (K := σ) (by simp [ansP]) (by simp [nextP]) (dom_check_of w m pa pb pc ps pt _ _ hS (fun W q => (checkM_any W m).mono fun e w' ⟨g1, g2⟩ => ⟨g1, by rw [g2]; exact Chg.refl _ _, by rw [g2]; exact RepM.quiet R q⟩))
  · have e1 : ansP σ ⟨pk, pa, pb, pc, ps, pt⟩ = ⟨0, 0, 0, ⟨#[]⟩⟩ := by simp [ansP, h1, h2, h3, h4, h5, h6, h7, h8]
    have e2 : nextP σ ⟨pk, pa, pb, pc, ps, pt⟩ = σ := by simp [nextP, h1, h2, h3, h4, h5, h6, h7, h8]
    rw [e1, e2]
    refine (dom_none_of w m pk pa pb pc ps pt (by simpa using h1) (by simpa using h2) (by simpa using h3) (by simpa using h4) (by simpa using h5) (by simpa using h6) (by simpa using h7) (by simpa using h8)).mono ?_
    rintro e w' ⟨g1, g2⟩
    exact ⟨g1, Quiet.chg g2 _, RepM.quiet R g2⟩

/-! ### Both sides -/
/-- Both sides in memory, apart from each other, in the blocks of S, which are new. -/
structure Both (W : World) (S : Nat → Prop) (w : World) (x m : Nat) : Prop where
  chg : Chg (fun k => W.heap.size ≤ k) W w
  rng : ∀ k, S k → W.heap.size ≤ k ∧ k < w.heap.size
  reps : ∃ v p q σ, RepS w x v σ ∧ RepMS w m p q σ ∧ St.Ok σ ∧ (∀ k, own x v k → ¬ ownM m p q k) ∧ (∀ k, own x v k → S k) ∧ ∀ k, ownM m p q k → S k

theorem Both.quiet {W w w' : World} {S : Nat → Prop} {x m : Nat} (h : Both W S w x m) (qu : Quiet w w') : Both W S w' x m := by
  obtain ⟨h1, h5, v, p, q, σ, R, M, I, h2, h3, h4⟩ := h
  exact ⟨h1.trans (qu.chg _), fun k hk => ⟨(h5 k hk).1, Nat.lt_of_lt_of_le (h5 k hk).2 qu.size⟩, v, p, q, σ, Rep.quiet R qu, RepM.quiet M qu, I, h2, h3, h4⟩

/-- Both made anew. -/
theorem both_new {W w w1 w2 : World} {x v m p q : Nat} (h0 : Chg (fun k => W.heap.size ≤ k) W w) (q1 : Quiet w w1) (ho1 : ∀ k, own x v k → w.heap.size ≤ k) (R1 : Rep w1 x v (fun _ => 0) (fun _ => 0) 0) (q2 : Quiet w1 w2) (ho2 : ∀ k, ownM m p q k → w1.heap.size ≤ k) (M2 : RepM w2 m p q (fun _ => 0) (fun _ => 0) 0) : Both W (fun k => w.heap.size ≤ k ∧ k < w2.heap.size) w2 x m := by
  have R2 := R1.quiet q2
  have hz := q1.size
  have hz0 := h0.size
  refine ⟨h0.trans ((q1.trans q2).chg _), fun k hk => ⟨Nat.le_trans hz0 hk.1, hk.2⟩, v, p, q, St.first, R2, M2, inv_first, ?_, ?_, ?_⟩
  · intro k hk hm
    have h1 := R1.lts k hk
    have h2 := ho2 k hm
    omega
  · intro k hk
    exact ⟨ho1 k hk, R2.lts k hk⟩
  · intro k hk
    exact ⟨Nat.le_trans hz (ho2 k hk), M2.lts k hk⟩

/-- A step that both sides play. -/
theorem both_step {W w : World} {S : Nat → Prop} {x m : Nat} (h : Both W S w x m) (p : Opr) :
    ∃ X : An, Calls Try.prog 10 #[.pointer (some ⟨x, 0, none⟩), .agg #[.int .i64 p.k, .int .i64 p.a, .int .i64 p.b, .int .i64 p.c, .string p.s, .string p.t]] w fun e w1 => e = .returned (.agg #[.int .i64 X.e, .int .i64 X.n, .int .i64 X.m, .string X.s]) ∧
      Chg S w w1 ∧
      ∀ w2, Quiet w1 w2 → Calls Try.prog 31 #[.pointer (some ⟨m, 0, none⟩), .agg #[.int .i64 p.k, .int .i64 p.a, .int .i64 p.b, .int .i64 p.c, .string p.s, .string p.t]] w2 fun e w3 => e = .returned (.agg #[.int .i64 X.e, .int .i64 X.n, .int .i64 X.m, .string X.s]) ∧
        Chg S w2 w3 ∧ Both W S w3 x m := by
  obtain ⟨h1, h5, v, pp, qq, σ, R, M, I, h2, h3, h4⟩ := h
  refine ⟨ansP σ p, ?_⟩
  refine Calls.mono (do_any w x v σ R I p) ?_
  rintro e w1 ⟨rfl, hch, R1⟩
  have M1 : RepMS w1 m pp qq σ := RepM.of_chg M hch h2
  refine ⟨rfl, hch.mono (fun k _ h => h3 k h), ?_⟩
  intro w2 q2
  refine Calls.mono (dom_any w2 m pp qq σ (RepM.quiet M1 q2) I p) ?_
  rintro e w3 ⟨rfl, hchm, M3⟩
  refine ⟨rfl, hchm.mono (fun k _ h => h4 k h), ?_⟩
  have R3 : RepS w3 x v (nextP σ p) := Rep.of_chg (Rep.quiet R1 q2) hchm (fun k hx hr => h2 k hr hx)
  have z1 := hch.size
  have z2 := q2.size
  have z3 := hchm.size
  exact ⟨((h1.trans (hch.mono (fun k _ h => (h5 k (h3 k h)).1))).trans (q2.chg _)).trans (hchm.mono (fun k _ h => (h5 k (h4 k h)).1)), fun k hk => ⟨(h5 k hk).1, by have := (h5 k hk).2; omega⟩, v, pp, qq, _, R3, M3, inv_next I p, h2, h3, h4⟩

/-- Both sides show the same; the real one is sound. -/
theorem both_seen {W w : World} {S : Nat → Prop} {x m : Nat} (h : Both W S w x m) : ∃ T : ByteArray,
    Calls Try.prog 22 #[.pointer (some ⟨x, 0, none⟩)] w fun e w1 => e = .returned (.string T) ∧ Quiet w w1 ∧
      Calls Try.prog 32 #[.pointer (some ⟨m, 0, none⟩)] w1 fun e w2 => e = .returned (.string T) ∧ Quiet w w2 ∧
        Calls Try.prog 23 #[.pointer (some ⟨x, 0, none⟩)] w2 fun e w3 => e = .returned (.bool true) ∧ Quiet w w3 := by
  obtain ⟨_, _, v, p, q, σ, R, M, I, _, _, _⟩ := h
  refine ⟨str (showTo σ.c σ.n σ.wk 3), (show_any w x v _ _ _ R I).mono ?_⟩
  rintro e w1 ⟨h1, q1⟩
  refine ⟨h1, q1, (mshow_any w1 m p q _ _ _ (RepM.quiet M q1) I).mono ?_⟩
  rintro e w2 ⟨h2, q2⟩
  refine ⟨h2, q1.trans q2, (check_any w2 x v _ _ _ (Rep.quiet R (q1.trans q2)) I).mono ?_⟩
  rintro e w3 ⟨h3, q3⟩
  exact ⟨h3, (q1.trans q2).trans q3⟩
end Go.Proofs.Qxb6500368a
