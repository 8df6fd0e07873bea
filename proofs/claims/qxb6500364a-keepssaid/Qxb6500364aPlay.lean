/-
  One step on either mesh, plainly; Do and DoM play it.
-/
import Derived.Test.Qxb6500364aDo
import Derived.Test.Qxb6500364aDeliver
import Derived.Test.Qxb6500364aCheck
import Derived.Test.Qxb6500364aNew
import Derived.Test.Qxb6500364aDelM
import Derived.Test.Qxb6500364aShowM
import Derived.Test.Qxb6500364aCheckM
import Derived.Test.Qxb6500364aNewM
namespace Go.Proofs.Qxb6500364a
open Go.RowKit Go.Qx
set_option linter.unusedSimpArgs false
set_option linter.unusedVariables false

structure Opr where
  k : Int
  a : Int
  b : Int
  c : Int
  s : ByteArray
  t : ByteArray

structure An where
  e : Int
  n : Int
  m : Int
  s : ByteArray

def ansP (C : Nat → Nat → Int) (H : Nat → Nat → Nat → Int) (o : Opr) : An :=
  if o.k = 1 then ⟨linkE o.a o.b o.c, 0, 0, ⟨#[]⟩⟩
  else if o.k = 2 then ⟨liveP C o.a o.b, 0, 0, ⟨#[]⟩⟩
  else if o.k = 3 then ⟨liveP C o.a o.b, 0, 0, ⟨#[]⟩⟩
  else if o.k = 4 then ⟨(routeP C H o.a o.b).2.2, (routeP C H o.a o.b).1, (routeP C H o.a o.b).2.1, ⟨#[]⟩⟩
  else if o.k = 5 then ⟨0, 0, 0, str (showP C H)⟩
  else if o.k = 6 then ⟨0, 1, 0, ⟨#[]⟩⟩
  else ⟨0, 0, 0, ⟨#[]⟩⟩

def nextP (C : Nat → Nat → Int) (H : Nat → Nat → Nat → Int) (o : Opr) : (Nat → Nat → Int) × (Nat → Nat → Nat → Int) :=
  if o.k = 1 then (linkC C o.a o.b o.c, H)
  else if o.k = 2 then (unC C o.a o.b, unH C H o.a o.b)
  else if o.k = 3 then (C, delH C H o.a o.b)
  else (C, H)

theorem inv_link {C : Nat → Nat → Int} {H : Nat → Nat → Nat → Int} (I : Inv C H) (a b c : Int) : Inv (linkC C a b c) H := by
  unfold linkC
  split
  · rename_i h
    rcases ends_cases a b with ⟨i, j, rfl, rfl, hi, hj, hij, e0⟩ | ⟨hne, _⟩
    · have hc : 1 ≤ c := by
        by_cases hc : c < 1
        · simp [linkE, e0, hc] at h
        · omega
      simp only [Int.toNat_natCast]
      refine ⟨?_, ?_, ?_, I.h, ?_⟩
      · intro x y hx hy
        unfold lk
        split
        · omega
        · exact I.c x y hx hy
      · intro x y hx hy
        unfold lk
        by_cases e : (x = i ∧ y = j) ∨ (x = j ∧ y = i)
        · rw [if_pos e, if_pos (by omega)]
        · rw [if_neg e, if_neg (by omega)]; exact I.sym x y hx hy
      · intro x hx
        unfold lk
        rw [if_neg (by omega)]; exact I.diag x hx
      · intro x y d hx hy hd h0
        unfold lk at h0
        split at h0
        · omega
        · exact I.far x y d hx hy hd h0
    · simp [linkE, hne] at h
  · exact I

theorem inv_unlink {C : Nat → Nat → Int} {H : Nat → Nat → Nat → Int} (I : Inv C H) (a b : Int) : Inv (unC C a b) (unH C H a b) := by
  rcases live_cases C a b with ⟨i, j, rfl, rfl, hi, hj, hij, e0, hz, el⟩ | hne
  · rw [show unC C i j = lk C i j 0 by simp [unC, el], show unH C H i j = lk H i j (fun _ => 16) by simp [unH, el]]
    refine ⟨?_, ?_, ?_, ?_, ?_⟩
    · intro x y hx hy
      unfold lk
      split
      · omega
      · exact I.c x y hx hy
    · intro x y hx hy
      unfold lk
      by_cases e : (x = i ∧ y = j) ∨ (x = j ∧ y = i)
      · rw [if_pos e, if_pos (by omega)]
      · rw [if_neg e, if_neg (by omega)]; exact I.sym x y hx hy
    · intro x hx
      unfold lk
      rw [if_neg (by omega)]; exact I.diag x hx
    · intro x y d hx hy hd
      unfold lk
      split
      · dsimp only; omega
      · exact I.h x y d hx hy hd
    · intro x y d hx hy hd h0
      unfold lk at h0 ⊢
      split
      · rfl
      · rename_i e
        rw [if_neg e] at h0
        exact I.far x y d hx hy hd h0
  · rw [show unC C a b = C by simp [unC, hne], show unH C H a b = H by simp [unH, hne]]
    exact I

theorem inv_deliver {C : Nat → Nat → Int} {H : Nat → Nat → Nat → Int} (I : Inv C H) (a b : Int) : Inv C (delH C H a b) := by
  rcases live_cases C a b with ⟨i, j, rfl, rfl, hi, hj, hij, e0, hz, el⟩ | hne
  · rw [show delH C H i j = upd H j (upd (H j) i (vecP C H i)) by simp [delH, el]]
    refine ⟨I.c, I.sym, I.diag, ?_, ?_⟩
    · intro x y d hx hy hd
      unfold upd
      split
      · dsimp only
        split
        · exact ((I.ok i hi).best i hi d hd).1
        · exact I.h j y d hj hy hd
      · exact I.h x y d hx hy hd
    · intro x y d hx hy hd h0
      unfold upd
      split
      · rename_i e1
        subst e1
        dsimp only
        split
        · rename_i e2
          subst e2
          rw [I.sym x y hx hy] at h0
          exact absurd h0 hz
        · exact I.far x y d hx hy hd h0
      · exact I.far x y d hx hy hd h0
  · rw [show delH C H a b = H by simp [delH, hne]]
    exact I

theorem inv_next {C : Nat → Nat → Int} {H : Nat → Nat → Nat → Int} (I : Inv C H) (o : Opr) : Inv (nextP C H o).1 (nextP C H o).2 := by
  unfold nextP
  split
  · exact inv_link I _ _ _
  · split
    · exact inv_unlink I _ _
    · split
      · exact inv_deliver I _ _
      · exact I

theorem inv_first : Inv (fun _ _ => 0) (fun _ _ _ => 16) := ⟨fun _ _ _ _ => by omega, fun _ _ _ _ => rfl, fun _ _ => rfl, fun _ _ _ _ _ _ => by omega, fun _ _ _ _ _ _ _ => rfl⟩

theorem did_R {w w' : World} {x r : Nat} {n : Nat → Nat} {K : (Nat → Nat → Int) × (Nat → Nat → Nat → Int)} (hS : ∀ k, own x r n k → k < w.heap.size) (h : Did (own x r n) (fun w1 => Rep w1 x r n K.1 K.2) w w') : Chg (own x r n) w w' ∧ Rep w' x r n K.1 K.2 := by
  obtain ⟨ch, w1, R, ch2⟩ := h
  refine ⟨ch, R.of_chg ch2 ?_⟩
  rintro k (rfl | rfl) hk
  all_goals have := hS _ hk; omega

theorem did_M {w w' : World} {m p q : Nat} {K : (Nat → Nat → Int) × (Nat → Nat → Nat → Int)} (hS : ∀ k, ownM m p q k → k < w.heap.size) (h : Did (ownM m p q) (fun w1 => RepM w1 m p q K.1 K.2) w w') : Chg (ownM m p q) w w' ∧ RepM w' m p q K.1 K.2 := by
  obtain ⟨ch, w1, R, ch2⟩ := h
  refine ⟨ch, R.of_chg ch2 ?_⟩
  rintro k (rfl | rfl) hk
  all_goals have := hS _ hk; omega

theorem do_any (w : World) (x r : Nat) (n : Nat → Nat) (C : Nat → Nat → Int) (H : Nat → Nat → Nat → Int) (R : Rep w x r n C H) (I : Inv C H) (p : Opr) :
    Calls Try.prog 15 #[ptr x, opv p.k p.a p.b p.c p.s p.t] w fun e w' => e = .returned (ansv (ansP C H p).e (ansP C H p).n (ansP C H p).m (ansP C H p).s) ∧ Chg (own x r n) w w' ∧ Rep w' x r n (nextP C H p).1 (nextP C H p).2 := by
  have hS := R.lts
  obtain ⟨pk, pa, pb, pc, ps, pt⟩ := p
  have fin : ∀ {E N M S K}, (ansP C H ⟨pk, pa, pb, pc, ps, pt⟩ = ⟨E, N, M, S⟩) → nextP C H ⟨pk, pa, pb, pc, ps, pt⟩ = K → (Calls Try.prog 15 #[ptr x, opv pk pa pb pc ps pt] w fun e w' => e = .returned (ansv E N M S) ∧ Did (own x r n) (fun w1 => Rep w1 x r n K.1 K.2) w w') →
      Calls Try.prog 15 #[ptr x, opv pk pa pb pc ps pt] w fun e w' => e = .returned (ansv (ansP C H ⟨pk, pa, pb, pc, ps, pt⟩).e (ansP C H ⟨pk, pa, pb, pc, ps, pt⟩).n (ansP C H ⟨pk, pa, pb, pc, ps, pt⟩).m (ansP C H ⟨pk, pa, pb, pc, ps, pt⟩).s) ∧ Chg (own x r n) w w' ∧ Rep w' x r n (nextP C H ⟨pk, pa, pb, pc, ps, pt⟩).1 (nextP C H ⟨pk, pa, pb, pc, ps, pt⟩).2 := by
    intro E N M S K e1 e2 h
    rw [e1, e2]
    exact h.mono fun e w' ⟨h1, h2⟩ => ⟨h1, did_R hS h2⟩
  by_cases h1 : pk = 1
  · subst h1
    exact fin (K := (linkC C pa pb pc, H)) (by simp only [ansP, if_true]) (by simp only [nextP, if_true]) (do_link_of w x pa pb pc ps pt _ _ _ hS (fun W q => link_any W x r n C H (R.quiet q) I pa pb pc))
  by_cases h2 : pk = 2
  · subst h2
    exact fin (K := (unC C pa pb, unH C H pa pb)) (by simp [ansP]) (by simp [nextP]) (do_unlink_of w x pa pb pc ps pt _ _ _ hS (fun W q => unlink_any W x r n C H (R.quiet q) I pa pb))
  by_cases h3 : pk = 3
  · subst h3
    exact fin (K := (C, delH C H pa pb)) (by simp [ansP]) (by simp [nextP]) (do_deliver_of w x pa pb pc ps pt _ _ _ hS (fun W q => deliver_any W x r n C H (R.quiet q) I pa pb))
  by_cases h4 : pk = 4
  · subst h4
    exact fin (K := (C, H)) (by simp [ansP]) (by simp [nextP]) (do_route_of w x pa pb pc ps pt _ _ _ _ _ hS (fun W q => (route_any W x r n C H (R.quiet q) pa pb).mono fun e w' ⟨g1, g2⟩ => ⟨g1, Quiet.chg g2 _, (R.quiet q).quiet g2⟩))
  by_cases h5 : pk = 5
  · subst h5
    exact fin (K := (C, H)) (by simp [ansP]) (by simp [nextP]) (do_show_of w x pa pb pc ps pt _ _ _ hS (fun W q => (show_any W x r n C H (R.quiet q) I).mono fun e w' ⟨g1, g2⟩ => ⟨g1, Quiet.chg g2 _, (R.quiet q).quiet g2⟩))
  by_cases h6 : pk = 6
  · subst h6
    exact fin (K := (C, H)) (by simp [ansP]) (by simp [nextP]) (do_check_of w x pa pb pc ps pt _ _ hS (fun W q => (check_any W x r n C H (R.quiet q) I).mono fun e w' ⟨g1, g2⟩ => ⟨g1, Quiet.chg g2 _, (R.quiet q).quiet g2⟩))
  · have e1 : ansP C H ⟨pk, pa, pb, pc, ps, pt⟩ = ⟨0, 0, 0, ⟨#[]⟩⟩ := by simp [ansP, h1, h2, h3, h4, h5, h6]
    have e2 : nextP C H ⟨pk, pa, pb, pc, ps, pt⟩ = (C, H) := by simp [nextP, h1, h2, h3]
    rw [e1, e2]
    refine (do_none_of w x pk pa pb pc ps pt (by simpa using h1) (by simpa using h2) (by simpa using h3) (by simpa using h4) (by simpa using h5) (by simpa using h6)).mono ?_
    rintro e w' ⟨g1, g2⟩
    exact ⟨g1, Quiet.chg g2 _, R.quiet g2⟩

theorem dom_any (w : World) (m pp qq : Nat) (C : Nat → Nat → Int) (H : Nat → Nat → Nat → Int) (R : RepM w m pp qq C H) (I : Inv C H) (p : Opr) :
    Calls Try.prog 21 #[ptr m, opv p.k p.a p.b p.c p.s p.t] w fun e w' => e = .returned (ansv (ansP C H p).e (ansP C H p).n (ansP C H p).m (ansP C H p).s) ∧ Chg (ownM m pp qq) w w' ∧ RepM w' m pp qq (nextP C H p).1 (nextP C H p).2 := by
  have hS := R.lts
  obtain ⟨pk, pa, pb, pc, ps, pt⟩ := p
  have fin : ∀ {E N M S K}, (ansP C H ⟨pk, pa, pb, pc, ps, pt⟩ = ⟨E, N, M, S⟩) → nextP C H ⟨pk, pa, pb, pc, ps, pt⟩ = K → (Calls Try.prog 21 #[ptr m, opv pk pa pb pc ps pt] w fun e w' => e = .returned (ansv E N M S) ∧ Did (ownM m pp qq) (fun w1 => RepM w1 m pp qq K.1 K.2) w w') →
      Calls Try.prog 21 #[ptr m, opv pk pa pb pc ps pt] w fun e w' => e = .returned (ansv (ansP C H ⟨pk, pa, pb, pc, ps, pt⟩).e (ansP C H ⟨pk, pa, pb, pc, ps, pt⟩).n (ansP C H ⟨pk, pa, pb, pc, ps, pt⟩).m (ansP C H ⟨pk, pa, pb, pc, ps, pt⟩).s) ∧ Chg (ownM m pp qq) w w' ∧ RepM w' m pp qq (nextP C H ⟨pk, pa, pb, pc, ps, pt⟩).1 (nextP C H ⟨pk, pa, pb, pc, ps, pt⟩).2 := by
    intro E N M S K e1 e2 h
    rw [e1, e2]
    exact h.mono fun e w' ⟨h1, h2⟩ => ⟨h1, did_M hS h2⟩
  by_cases h1 : pk = 1
  · subst h1
    exact fin (K := (linkC C pa pb pc, H)) (by simp only [ansP, if_true]) (by simp only [nextP, if_true]) (dom_link_of w m pa pb pc ps pt _ _ _ hS (fun W q => mlink_any W m pp qq C H (R.quiet q) pa pb pc))
  by_cases h2 : pk = 2
  · subst h2
    exact fin (K := (unC C pa pb, unH C H pa pb)) (by simp [ansP]) (by simp [nextP]) (dom_unlink_of w m pa pb pc ps pt _ _ _ hS (fun W q => munlink_any W m pp qq C H (R.quiet q) pa pb))
  by_cases h3 : pk = 3
  · subst h3
    exact fin (K := (C, delH C H pa pb)) (by simp [ansP]) (by simp [nextP]) (dom_deliver_of w m pa pb pc ps pt _ _ _ hS (fun W q => mdeliver_any W m pp qq C H (R.quiet q) I pa pb))
  by_cases h4 : pk = 4
  · subst h4
    exact fin (K := (C, H)) (by simp [ansP]) (by simp [nextP]) (dom_route_of w m pa pb pc ps pt _ _ _ _ _ hS (fun W q => (mroute_any W m pp qq C H (R.quiet q) I pa pb).mono fun e w' ⟨g1, g2⟩ => ⟨g1, Quiet.chg g2 _, (R.quiet q).quiet g2⟩))
  by_cases h5 : pk = 5
  · subst h5
    exact fin (K := (C, H)) (by simp [ansP]) (by simp [nextP]) (dom_show_of w m pa pb pc ps pt _ _ _ hS (fun W q => (mshow_any W m pp qq C H (R.quiet q) I).mono fun e w' ⟨g1, g2⟩ => ⟨g1, Quiet.chg g2 _, (R.quiet q).quiet g2⟩))
  by_cases h6 : pk = 6
  · subst h6
    exact fin (K := (C, H)) (by simp [ansP]) (by simp [nextP]) (dom_check_of w m pa pb pc ps pt _ _ hS (fun W q => (mcheck_any W m pp qq C H (R.quiet q) I).mono fun e w' ⟨g1, g2⟩ => ⟨g1, g2 ▸ Chg.refl _ _, g2 ▸ R.quiet q⟩))
  · have e1 : ansP C H ⟨pk, pa, pb, pc, ps, pt⟩ = ⟨0, 0, 0, ⟨#[]⟩⟩ := by simp [ansP, h1, h2, h3, h4, h5, h6]
    have e2 : nextP C H ⟨pk, pa, pb, pc, ps, pt⟩ = (C, H) := by simp [nextP, h1, h2, h3]
    rw [e1, e2]
    refine (dom_none_of w m pk pa pb pc ps pt (by simpa using h1) (by simpa using h2) (by simpa using h3) (by simpa using h4) (by simpa using h5) (by simpa using h6)).mono ?_
    rintro e w' ⟨g1, g2⟩
    exact ⟨g1, Quiet.chg g2 _, R.quiet g2⟩

/-! ### Both sides -/
/-- Both sides in memory, apart from each other, in new blocks alone, all of them below Z. -/
structure Both (W : World) (Z : Nat) (w : World) (x m : Nat) : Prop where
  chg : Chg (fun k => W.heap.size ≤ k) W w
  reps : ∃ r n p q C H, Rep w x r n C H ∧ RepM w m p q C H ∧ Inv C H ∧ (∀ k, own x r n k → ¬ ownM m p q k) ∧ (∀ k, own x r n k → W.heap.size ≤ k ∧ k < Z) ∧ ∀ k, ownM m p q k → W.heap.size ≤ k ∧ k < Z

theorem Both.quiet {W w w' : World} {Z x m : Nat} (h : Both W Z w x m) (qu : Quiet w w') : Both W Z w' x m := by
  obtain ⟨h1, r, n, p, q, C, H, R, M, I, h2, h3, h4⟩ := h
  exact ⟨h1.trans (qu.chg _), r, n, p, q, C, H, R.quiet qu, M.quiet qu, I, h2, h3, h4⟩

theorem Both.self {W w : World} {Z x m : Nat} (h : Both W Z w x m) : Both W w.heap.size w x m := by
  obtain ⟨h1, r, n, p, q, C, H, R, M, I, h2, h3, h4⟩ := h
  exact ⟨h1, r, n, p, q, C, H, R, M, I, h2, fun k hk => ⟨(h3 k hk).1, R.lts k hk⟩, fun k hk => ⟨(h4 k hk).1, M.lts k hk⟩⟩

/-- A step that both sides play. -/
theorem both_step {W w : World} {Z x m : Nat} (h : Both W Z w x m) (p : Opr) :
    ∃ X : An, Calls Try.prog 15 #[.pointer (some ⟨x, 0, none⟩), .agg #[.int .i64 p.k, .int .i64 p.a, .int .i64 p.b, .int .i64 p.c, .string p.s, .string p.t]] w fun e w1 => e = .returned (.agg #[.int .i64 X.e, .int .i64 X.n, .int .i64 X.m, .string X.s]) ∧
      Chg (fun k => W.heap.size ≤ k ∧ k < Z) w w1 ∧
      ∀ w2, Quiet w1 w2 → Calls Try.prog 21 #[.pointer (some ⟨m, 0, none⟩), .agg #[.int .i64 p.k, .int .i64 p.a, .int .i64 p.b, .int .i64 p.c, .string p.s, .string p.t]] w2 fun e w3 => e = .returned (.agg #[.int .i64 X.e, .int .i64 X.n, .int .i64 X.m, .string X.s]) ∧
        Chg (fun k => W.heap.size ≤ k ∧ k < Z) w2 w3 ∧ Both W w3.heap.size w3 x m := by
  obtain ⟨h1, r, n, pp, qq, C, H, R, M, I, h2, h3, h4⟩ := h
  refine ⟨ansP C H p, ?_⟩
  refine Calls.mono (do_any w x r n C H R I p) ?_
  rintro e w1 ⟨rfl, hch, R1⟩
  have M1 := M.of_chg hch h2
  refine ⟨rfl, hch.mono (fun k _ h => h3 k h), ?_⟩
  intro w2 q2
  refine Calls.mono (dom_any w2 m pp qq C H (M1.quiet q2) I p) ?_
  rintro e w3 ⟨rfl, hchm, M3⟩
  refine ⟨rfl, hchm.mono (fun k _ h => h4 k h), ?_⟩
  have R3 := (R1.quiet q2).of_chg hchm (fun k hx hr => h2 k hr hx)
  exact ⟨((h1.trans (hch.mono (fun k _ h => (h3 k h).1))).trans (q2.chg _)).trans (hchm.mono (fun k _ h => (h4 k h).1)), r, n, pp, qq, _, _, R3, M3, inv_next I p, h2, fun k hk => ⟨(h3 k hk).1, R3.lts k hk⟩, fun k hk => ⟨(h4 k hk).1, M3.lts k hk⟩⟩

theorem seen_any (w : World) (x r : Nat) (n : Nat → Nat) (m p q : Nat) (C : Nat → Nat → Int) (H : Nat → Nat → Nat → Int) (R : Rep w x r n C H) (M : RepM w m p q C H) (I : Inv C H) :
    Calls Try.prog 20 #[ptr x, ptr m] w fun e w' => e = .returned (.bool true) ∧ Quiet w w' := by
  have h1 := show_any w x r n C H R I
  unfold ptr at h1 ⊢
  go_enter Try.func20, Try.ntmps20
  go_wp2_with fail
  refine h1.mono ?_
  rintro e w1 ⟨rfl, q1⟩
  have h2 := mshow_any w1 m p q C H (M.quiet q1) I
  unfold ptr at h2
  go_wp2_with fail
  refine h2.mono ?_
  rintro e w2 ⟨rfl, q2⟩
  have h3 := check_any w2 x r n C H ((R.quiet q1).quiet q2) I
  unfold ptr at h3
  generalize str (showP C H) = X at *
  have hX : (X.toList == X.toList) = true := by simp
  go_wp2_with fail
  refine h3.mono ?_
  rintro e w3 ⟨rfl, q3⟩
  go_wp2
  go_ret
  exact ⟨rfl, (q1.trans q2).trans q3⟩

theorem both_seen {W w : World} {Z x m : Nat} (h : Both W Z w x m) : Calls Try.prog 20 #[.pointer (some ⟨x, 0, none⟩), .pointer (some ⟨m, 0, none⟩)] w fun e w' => e = .returned (.bool true) ∧ Quiet w w' := by
  obtain ⟨_, r, n, p, q, C, H, R, M, I, _, _, _⟩ := h
  exact seen_any w x r n m p q C H R M I

/-- The j-th part of a step. -/
def partP (o : Opr) (j : Nat) : Opr := if o.k = 7 then ⟨3, (j / 5 : Nat), (j % 5 : Nat), 0, ⟨#[]⟩, ⟨#[]⟩⟩ else o

set_option maxHeartbeats 1000000 in
theorem part_any (w : World) (o : Opr) (j : Nat) (hj : j ≤ 25) : Calls Try.prog 13 #[.agg #[.int .i64 o.k, .int .i64 o.a, .int .i64 o.b, .int .i64 o.c, .string o.s, .string o.t], .int .i64 j] w fun e w' => e = .returned (.agg #[.int .i64 (partP o j).k, .int .i64 (partP o j).a, .int .i64 (partP o j).b, .int .i64 (partP o j).c, .string (partP o j).s, .string (partP o j).t]) ∧ Quiet w w' := by
  obtain ⟨ok, oa, ob, oc, os, ot⟩ := o
  by_cases hk : ok = 7
  · have e : Hid (partP ⟨ok, oa, ob, oc, os, ot⟩ j = ⟨3, (j / 5 : Nat), (j % 5 : Nat), 0, ⟨#[]⟩, ⟨#[]⟩⟩) := by show _ = _; simp [partP, hk]
    rw [unhide e]
    simp only
    subst hk
    have t1 : (j : Int).tdiv 5 = ((j / 5 : Nat) : Int) := by rw [Int.tdiv_eq_ediv_of_nonneg (by omega)]; omega
    have t2 : (j : Int).tmod 5 = ((j % 5 : Nat) : Int) := by rw [Int.tmod_eq_emod_of_nonneg (by omega)]; omega
    have wA : wrap64 ((j / 5 : Nat) : Int) = ((j / 5 : Nat) : Int) := by unfold wrap64; omega
    generalize ((j / 5 : Nat) : Int) = A at *
    generalize ((j % 5 : Nat) : Int) = B at *
    clear e
    go_enter Try.func13, Try.ntmps13
    go_wp2
    refine bodyPost_ret (v := .agg #[.int .i64 3, .int .i64 A, .int .i64 B, .int .i64 0, .string ⟨#[]⟩, .string ⟨#[]⟩]) (by simp [results, Try.results13, go_sem]) rfl ⟨rfl, ?_⟩
    exact ((Chg.refl _ _).alloc _).alloc _
  · have e : Hid (partP ⟨ok, oa, ob, oc, os, ot⟩ j = ⟨ok, oa, ob, oc, os, ot⟩) := by show _ = _; simp [partP, hk]
    rw [unhide e]
    simp only
    have b7 : (ok == 7) = false := by simpa using hk
    clear e hk
    go_enter Try.func13, Try.ntmps13
    go_wp2
    refine bodyPost_ret (v := .agg #[.int .i64 ok, .int .i64 oa, .int .i64 ob, .int .i64 oc, .string os, .string ot]) (by simp [results, Try.results13, go_sem]) rfl ⟨rfl, ?_⟩
    exact ((Chg.refl _ _).alloc _).alloc _
end Go.Proofs.Qxb6500364a
