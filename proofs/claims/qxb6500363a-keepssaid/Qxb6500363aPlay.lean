/-
  One step on either ring, plainly; Do and DoM play it.
-/
import Derived.Test.Qxb6500363aDo
import Derived.Test.Qxb6500363aLoadM
import Derived.Test.Qxb6500363aCheckM
import Derived.Test.Qxb6500363aCheckR
namespace Go.Proofs.Qxb6500363a
open Go.RowKit Go.Qx
set_option linter.unusedSimpArgs false
set_option linter.unusedVariables false

structure Opr where
  k : Int
  a : Int
  b : Int
  c : Int
  s : ByteArray
  t : ByteArray

structure An where
  e : Int
  n : Int
  s : ByteArray

def ansP (k : Int) (xs : List Int) (o : Opr) : An :=
  if o.k = 1 then ⟨fitP o.s.size o.a, 0, ⟨#[]⟩⟩
  else if o.k = 2 then ⟨(pokeX k xs o.a o.b).1, 0, ⟨#[]⟩⟩
  else if o.k = 3 then ⟨(moveE k xs o.a).1, 0, ⟨#[]⟩⟩
  else if o.k = 4 then ⟨0, (kickE k xs o.a).1, ⟨#[]⟩⟩
  else if o.k = 5 then ⟨0, privI xs o.a, ⟨#[]⟩⟩
  else if o.k = 6 then ⟨0, cnt (hots xs), ⟨#[]⟩⟩
  else if o.k = 7 then ⟨0, wsum xs.length (hots xs) 0, ⟨#[]⟩⟩
  else if o.k = 8 then ⟨0, 0, str (showP k xs)⟩
  else if o.k = 9 then ⟨0, 1, ⟨#[]⟩⟩
  else ⟨0, 0, ⟨#[]⟩⟩

def nextP (k : Int) (xs : List Int) (o : Opr) : Int × List Int :=
  if o.k = 1 then loadKX k xs o.a o.s
  else if o.k = 2 then (k, (pokeX k xs o.a o.b).2)
  else if o.k = 3 then (k, (moveE k xs o.a).2)
  else if o.k = 4 then (k, (kickE k xs o.a).2)
  else (k, xs)

/-! ### The ring stays a ring -/
theorem Ok.set {k : Int} {xs : List Int} (o : Ok k xs) (i : Nat) (v : Int) (h0 : 0 ≤ v) (h1 : v < k) : Ok k (xs.set i v) := by
  refine ⟨by rw [List.length_set]; exact o.n2, by rw [List.length_set]; exact o.n6, by rw [List.length_set]; exact o.k1, o.k8, ?_⟩
  intro x hx
  rcases List.mem_or_eq_of_mem_set hx with h | h
  · exact o.v x h
  · rw [h]; exact ⟨h0, h1⟩

theorem Ok.kpos {k : Int} {xs : List Int} (o : Ok k xs) : 2 ≤ k := by have := o.n2; have := o.k1; omega

theorem ok_move {k : Int} {xs : List Int} (o : Ok k xs) (i : Nat) (hi : i < xs.length) : Ok k (moveX k xs i) := by
  have hk := o.kpos
  unfold moveX
  split
  · have hv := o.get 0 (by have := o.n2; omega)
    refine o.set 0 _ (Int.tmod_nonneg _ (by omega)) (Int.tmod_lt_of_pos _ (by omega))
  · have hv := o.get (i - 1) (by omega)
    exact o.set i _ hv.1 hv.2

theorem kickAt_bound : ∀ (hs : List Bool) (i : Nat) (j : Int), kickAt hs i j < (i + hs.length : Nat)
  | [], i, j => by simp [kickAt]; omega
  | h :: r, i, j => by
    have ih := kickAt_bound r (i + 1)
    unfold kickAt
    simp only [List.length_cons]
    split
    · split
      · omega
      · have := ih (j - 1); omega
    · have := ih j; omega

theorem ok_next {k : Int} {xs : List Int} (o : Ok k xs) (p : Opr) : Ok (nextP k xs p).1 (nextP k xs p).2 := by
  have hk := o.kpos
  unfold nextP
  split
  · unfold loadKX
    split
    · rename_i h
      obtain ⟨n2, n6, k1, k8⟩ := fitP_ok h
      have hl := loadX_length p.a p.s
      refine ⟨by simp only [hl]; exact n2, by simp only [hl]; exact n6, by simp only [hl]; exact k1, k8, ?_⟩
      intro x hx
      simp only [loadX, List.mem_map] at hx
      obtain ⟨c, _, rfl⟩ := hx
      exact ⟨Int.tmod_nonneg _ (by omega), Int.tmod_lt_of_pos _ (by omega)⟩
    · exact o
  · split
    · unfold pokeX
      split
      · refine o.set _ _ ?_ ?_
        all_goals
          unfold normP
          rw [if_neg (by omega)]
          have a1 := Int.tmod_lt_of_pos p.b (show 0 < k by omega)
          have a2 := Int.tmod_lt_of_pos (-p.b) (show 0 < k by omega)
          rw [Int.neg_tmod] at a2
          split <;> omega
      · exact o
    · split
      · unfold moveE
        split
        · split
          · exact ok_move o _ (by omega)
          · exact o
        · exact o
      · split
        · unfold kickE
          split
          · exact o
          · rename_i h
            have hb := kickAt_bound (hots xs) 0 (normP p.a (cnt (hots xs)))
            rw [hots_length] at hb
            exact ok_move o _ (by omega)
        · exact o

def ownB (r a b : Nat) (x : Nat) : Prop := ownR r a b x

/-- Do's answer and what it leaves. -/
theorem did_R {w w' : World} {r a b : Nat} {K : Int} {X : List Int} (hr : r < w.heap.size) (ha : a < w.heap.size) (hb : b < w.heap.size) (h : Did (ownR r a b) (fun W w1 => LP W w1 r a b K X) w w') : Chg (ownR r a b) w w' ∧ LP w w' r a b K X := by
  obtain ⟨ch, W, w1, hz, q, ch1, ⟨a', b', h1, h2, R⟩, ch2⟩ := h
  refine ⟨ch, a', b', ?_, ?_, R.of_chg ch2 ?_⟩
  · rcases h1 with h | h; exact .inl h; exact .inr (by omega)
  · rcases h2 with h | h; exact .inl h; exact .inr (by omega)
  · rintro x (rfl | rfl) (h | h | h)
    all_goals first | omega | (rcases h1 with h1 | h1 <;> rcases h2 with h2 | h2 <;> omega)

theorem did_M {w w' : World} {m c : Nat} {K : Int} {X : List Int} (hm : m < w.heap.size) (hc : c < w.heap.size) (h : Did (ownM m c) (fun W w1 => LPm W w1 m c K X) w w') : Chg (ownM m c) w w' ∧ LPm w w' m c K X := by
  obtain ⟨ch, W, w1, hz, q, ch1, ⟨c', h1, R⟩, ch2⟩ := h
  refine ⟨ch, c', ?_, R.of_chg ch2 ?_⟩
  · rcases h1 with h | h; exact .inl h; exact .inr (by omega)
  · rintro x (rfl | rfl) (h | h)
    all_goals first | omega | (rcases h1 with h1 | h1 <;> omega)

theorem RepR.lts {w : World} {r a b : Nat} {k : Int} {xs : List Int} {hs : List Bool} (R : RepR w r a b k xs hs) : r < w.heap.size ∧ a < w.heap.size ∧ b < w.heap.size := ⟨R.blk.lt, R.xb.lt, R.hb.lt⟩
theorem RepM.lts {w : World} {m c : Nat} {k : Int} {xs : List Int} (R : RepM w m c k xs) : m < w.heap.size ∧ c < w.heap.size := ⟨R.blk.lt, R.xb.lt⟩

theorem lp_same {W w1 : World} {r a b : Nat} {k : Int} {xs : List Int} (R : RepR w1 r a b k xs (hots xs)) : LP W w1 r a b k xs := ⟨a, b, .inl rfl, .inl rfl, R⟩
theorem lpm_same {W w1 : World} {m c : Nat} {k : Int} {xs : List Int} (R : RepM w1 m c k xs) : LPm W w1 m c k xs := ⟨c, .inl rfl, R⟩

theorem do_any (w : World) (r a b : Nat) (k : Int) (xs : List Int) (R : RepR w r a b k xs (hots xs)) (o : Ok k xs) (p : Opr) (ha : In64 p.a) (hb : In64 p.b) :
    Calls Try.prog 14 #[ptr r, opv p.k p.a p.b p.c p.s p.t] w fun e w' => e = .returned (ansv (ansP k xs p).e (ansP k xs p).n (ansP k xs p).s) ∧ Chg (ownR r a b) w w' ∧ LP w w' r a b (nextP k xs p).1 (nextP k xs p).2 := by
  obtain ⟨l1, l2, l3⟩ := R.lts
  have hS : ∀ x, ownR r a b x → x < w.heap.size := by rintro x (rfl | rfl | rfl) <;> assumption
  obtain ⟨pk, pa, pb, pc, ps, pt⟩ := p
  simp only at ha hb
  have fin : ∀ {E N S K X}, (ansP k xs ⟨pk, pa, pb, pc, ps, pt⟩ = ⟨E, N, S⟩) → nextP k xs ⟨pk, pa, pb, pc, ps, pt⟩ = (K, X) → (Calls Try.prog 14 #[ptr r, opv pk pa pb pc ps pt] w fun e w' => e = .returned (ansv E N S) ∧ Did (ownR r a b) (fun W w1 => LP W w1 r a b K X) w w') →
      Calls Try.prog 14 #[ptr r, opv pk pa pb pc ps pt] w fun e w' => e = .returned (ansv (ansP k xs ⟨pk, pa, pb, pc, ps, pt⟩).e (ansP k xs ⟨pk, pa, pb, pc, ps, pt⟩).n (ansP k xs ⟨pk, pa, pb, pc, ps, pt⟩).s) ∧ Chg (ownR r a b) w w' ∧ LP w w' r a b (nextP k xs ⟨pk, pa, pb, pc, ps, pt⟩).1 (nextP k xs ⟨pk, pa, pb, pc, ps, pt⟩).2 := by
    intro E N S K X e1 e2 h
    rw [e1, e2]
    exact h.mono fun e w' ⟨h1, h2⟩ => ⟨h1, did_R l1 l2 l3 h2⟩
  by_cases h1 : pk = 1
  · subst h1
    exact fin (by simp [ansP]) (by simp only [nextP, if_true]) (do_load_of w r pa pb pc ps pt _ _ _ hS (fun W q hz => (loadR_any W r a b k xs (R.quiet q) pa ps)))
  by_cases h2 : pk = 2
  · subst h2
    exact fin (by simp [ansP]) (by simp [nextP]) (do_poke_of w r pa pb pc ps pt _ _ _ hS (fun W q hz => (pokeR_any W r a b k xs (R.quiet q) o pa pb hb.1 hb.2).mono fun e w' ⟨g1, g2, g3⟩ => ⟨g1, g2, lp_same g3⟩))
  by_cases h3 : pk = 3
  · subst h3
    exact fin (by simp [ansP]) (by simp [nextP]) (do_move_of w r pa pb pc ps pt _ _ _ hS (fun W q hz => (moveR_any W r a b k xs (R.quiet q) o pa).mono fun e w' ⟨g1, g2, g3⟩ => ⟨g1, g2, lp_same g3⟩))
  by_cases h4 : pk = 4
  · subst h4
    exact fin (by simp [ansP]) (by simp [nextP]) (do_kick_of w r pa pb pc ps pt _ _ _ hS (fun W q hz => (kickR_any W r a b k xs (R.quiet q) o pa ha.1 ha.2).mono fun e w' ⟨g1, g2, g3⟩ => ⟨g1, g2, lp_same g3⟩))
  by_cases h5 : pk = 5
  · subst h5
    exact fin (by simp [ansP]) (by simp [nextP]) (do_priv_of w r pa pb pc ps pt _ _ _ hS (fun W q hz => (privR_any W r a b k xs (R.quiet q) pa).mono fun e w' ⟨g1, g2⟩ => ⟨g1, g2 ▸ Chg.refl _ _, lp_same (g2 ▸ R.quiet q)⟩))
  by_cases h6 : pk = 6
  · subst h6
    exact fin (by simp [ansP]) (by simp [nextP]) (do_tok_of w r pa pb pc ps pt _ _ _ hS (fun W q hz => (tokR_any W r a b k xs _ (R.quiet q)).mono fun e w' ⟨g1, g2⟩ => ⟨g1, g2 ▸ Chg.refl _ _, lp_same (g2 ▸ R.quiet q)⟩))
  by_cases h7 : pk = 7
  · subst h7
    exact fin (by simp [ansP]) (by simp [nextP]) (do_pot_of w r pa pb pc ps pt _ _ _ hS (fun W q hz => (potR_any W r a b k xs _ (R.quiet q)).mono fun e w' ⟨g1, g2⟩ => ⟨g1, g2 ▸ Chg.refl _ _, lp_same (g2 ▸ R.quiet q)⟩))
  by_cases h8 : pk = 8
  · subst h8
    exact fin (by simp [ansP]) (by simp [nextP]) (do_show_of w r pa pb pc ps pt _ _ _ hS (fun W q hz => (showR_any W r a b k xs (R.quiet q) o).mono fun e w' ⟨g1, g2⟩ => ⟨g1, Quiet.chg g2 _, lp_same ((R.quiet q).quiet g2)⟩))
  by_cases h9 : pk = 9
  · subst h9
    exact fin (by simp [ansP]) (by simp [nextP]) (do_check_of w r pa pb pc ps pt _ _ hS (fun W q hz => (checkR_any W r a b k xs (R.quiet q) o).mono fun e w' ⟨g1, g2⟩ => ⟨g1, Quiet.chg g2 _, lp_same ((R.quiet q).quiet g2)⟩))
  · have e1 : ansP k xs ⟨pk, pa, pb, pc, ps, pt⟩ = ⟨0, 0, ⟨#[]⟩⟩ := by simp [ansP, h1, h2, h3, h4, h5, h6, h7, h8, h9]
    have e2 : nextP k xs ⟨pk, pa, pb, pc, ps, pt⟩ = (k, xs) := by simp [nextP, h1, h2, h3, h4]
    rw [e1, e2]
    refine (do_none_of w r pk pa pb pc ps pt (by simpa using h1) (by simpa using h2) (by simpa using h3) (by simpa using h4) (by simpa using h5) (by simpa using h6) (by simpa using h7) (by simpa using h8) (by simpa using h9)).mono ?_
    rintro e w' ⟨g1, g2⟩
    exact ⟨g1, Quiet.chg g2 _, lp_same (R.quiet g2)⟩

theorem dom_any (w : World) (m c : Nat) (k : Int) (xs : List Int) (R : RepM w m c k xs) (o : Ok k xs) (p : Opr) (ha : In64 p.a) (hb : In64 p.b) :
    Calls Try.prog 36 #[ptr m, opv p.k p.a p.b p.c p.s p.t] w fun e w' => e = .returned (ansv (ansP k xs p).e (ansP k xs p).n (ansP k xs p).s) ∧ Chg (ownM m c) w w' ∧ LPm w w' m c (nextP k xs p).1 (nextP k xs p).2 := by
  obtain ⟨l1, l2⟩ := R.lts
  have n6 := o.n6
  have hS : ∀ x, ownM m c x → x < w.heap.size := by rintro x (rfl | rfl) <;> assumption
  obtain ⟨pk, pa, pb, pc, ps, pt⟩ := p
  simp only at ha hb
  have fin : ∀ {E N S K X}, (ansP k xs ⟨pk, pa, pb, pc, ps, pt⟩ = ⟨E, N, S⟩) → nextP k xs ⟨pk, pa, pb, pc, ps, pt⟩ = (K, X) → (Calls Try.prog 36 #[ptr m, opv pk pa pb pc ps pt] w fun e w' => e = .returned (ansv E N S) ∧ Did (ownM m c) (fun W w1 => LPm W w1 m c K X) w w') →
      Calls Try.prog 36 #[ptr m, opv pk pa pb pc ps pt] w fun e w' => e = .returned (ansv (ansP k xs ⟨pk, pa, pb, pc, ps, pt⟩).e (ansP k xs ⟨pk, pa, pb, pc, ps, pt⟩).n (ansP k xs ⟨pk, pa, pb, pc, ps, pt⟩).s) ∧ Chg (ownM m c) w w' ∧ LPm w w' m c (nextP k xs ⟨pk, pa, pb, pc, ps, pt⟩).1 (nextP k xs ⟨pk, pa, pb, pc, ps, pt⟩).2 := by
    intro E N S K X e1 e2 h
    rw [e1, e2]
    exact h.mono fun e w' ⟨h1, h2⟩ => ⟨h1, did_M l1 l2 h2⟩
  by_cases h1 : pk = 1
  · subst h1
    exact fin (by simp [ansP]) (by simp only [nextP, if_true]) (dom_load_of w m pa pb pc ps pt _ _ _ hS (fun W q hz => (loadM_any W m c k xs (R.quiet q) pa ps)))
  by_cases h2 : pk = 2
  · subst h2
    exact fin (by simp [ansP]) (by simp [nextP]) (dom_poke_of w m pa pb pc ps pt _ _ _ hS (fun W q hz => (pokeM_any W m c k xs (R.quiet q) o pa pb hb.1 hb.2).mono fun e w' ⟨g1, g2, g3⟩ => ⟨g1, g2, lpm_same g3⟩))
  by_cases h3 : pk = 3
  · subst h3
    exact fin (by simp [ansP]) (by simp [nextP]) (dom_move_of w m pa pb pc ps pt _ _ _ hS (fun W q hz => (moveM_any W m c k xs (R.quiet q) o pa).mono fun e w' ⟨g1, g2, g3⟩ => ⟨g1, g2, lpm_same g3⟩))
  by_cases h4 : pk = 4
  · subst h4
    exact fin (by simp [ansP]) (by simp [nextP]) (dom_kick_of w m pa pb pc ps pt _ _ _ hS (fun W q hz => (kickM_any W m c k xs (R.quiet q) o pa ha.1 ha.2).mono fun e w' ⟨g1, g2, g3⟩ => ⟨g1, g2, lpm_same g3⟩))
  by_cases h5 : pk = 5
  · subst h5
    exact fin (by simp [ansP]) (by simp [nextP]) (dom_priv_of w m pa pb pc ps pt _ _ _ hS (fun W q hz => (privM_any W m c k xs (R.quiet q) n6 pa).mono fun e w' ⟨g1, g2⟩ => ⟨g1, Quiet.chg g2 _, lpm_same ((R.quiet q).quiet g2)⟩))
  by_cases h6 : pk = 6
  · subst h6
    exact fin (by simp [ansP]) (by simp [nextP]) (dom_tok_of w m pa pb pc ps pt _ _ _ hS (fun W q hz => (tokM_any W m c k xs (R.quiet q) n6).mono fun e w' ⟨g1, g2⟩ => ⟨g1, Quiet.chg g2 _, lpm_same ((R.quiet q).quiet g2)⟩))
  by_cases h7 : pk = 7
  · subst h7
    exact fin (by simp [ansP]) (by simp [nextP]) (dom_pot_of w m pa pb pc ps pt _ _ _ hS (fun W q hz => (potM_any W m c k xs (R.quiet q) n6 o.n2).mono fun e w' ⟨g1, g2⟩ => ⟨g1, Quiet.chg g2 _, lpm_same ((R.quiet q).quiet g2)⟩))
  by_cases h8 : pk = 8
  · subst h8
    exact fin (by simp [ansP]) (by simp [nextP]) (dom_show_of w m pa pb pc ps pt _ _ _ hS (fun W q hz => (showM_any W m c k xs (R.quiet q) o).mono fun e w' ⟨g1, g2⟩ => ⟨g1, Quiet.chg g2 _, lpm_same ((R.quiet q).quiet g2)⟩))
  by_cases h9 : pk = 9
  · subst h9
    exact fin (by simp [ansP]) (by simp [nextP]) (dom_check_of w m pa pb pc ps pt _ _ hS (fun W q hz => (checkM_any W m c k xs (R.quiet q) o).mono fun e w' ⟨g1, g2⟩ => ⟨g1, Quiet.chg g2 _, lpm_same ((R.quiet q).quiet g2)⟩))
  · have e1 : ansP k xs ⟨pk, pa, pb, pc, ps, pt⟩ = ⟨0, 0, ⟨#[]⟩⟩ := by simp [ansP, h1, h2, h3, h4, h5, h6, h7, h8, h9]
    have e2 : nextP k xs ⟨pk, pa, pb, pc, ps, pt⟩ = (k, xs) := by simp [nextP, h1, h2, h3, h4]
    rw [e1, e2]
    refine (dom_none_of w m pk pa pb pc ps pt (by simpa using h1) (by simpa using h2) (by simpa using h3) (by simpa using h4) (by simpa using h5) (by simpa using h6) (by simpa using h7) (by simpa using h8) (by simpa using h9)).mono ?_
    rintro e w' ⟨g1, g2⟩
    exact ⟨g1, Quiet.chg g2 _, lpm_same (R.quiet g2)⟩
end Go.Proofs.Qxb6500363a
