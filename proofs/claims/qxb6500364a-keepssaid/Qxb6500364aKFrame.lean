/-
  THE FRAME OF Keeps' WALK: the real mesh and the book, apart from each other, in new blocks.
-/
import Derived.Test.Qxb6500364aKStep
import Derived.Test.Qxb6500364aWalk
namespace Go.Proofs.Qxb6500364a
open Go.RowKit Go.Qx
set_option linter.unusedVariables false
set_option linter.unusedSimpArgs false

/-- The real mesh at x holds (C', H'), the book at g holds (C, H). -/
structure KB (W w : World) (x g : Nat) (C' : Nat → Nat → Int) (H' : Nat → Nat → Nat → Int) (C : Nat → Nat → Int) (H : Nat → Nat → Nat → Int) (M F : Nat → Nat → Bool) (rd : Nat) : Prop where
  chg : Chg (fun k => W.heap.size ≤ k) W w
  reps : ∃ r n p q m f, Rep w x r n C' H' ∧ RepG w g p q m f C H M F rd ∧ (∀ k, own x r n k → W.heap.size ≤ k ∧ ¬ ownG g p q m f k) ∧ (∀ k, ownG g p q m f k → W.heap.size ≤ k)
section
variable {W w w2 : World} {x g : Nat} {C' C : Nat → Nat → Int} {H' H : Nat → Nat → Nat → Int} {M F : Nat → Nat → Bool} {rd : Nat}
theorem KB.quiet (h : KB W w x g C' H' C H M F rd) (c : Quiet w w2) : KB W w2 x g C' H' C H M F rd := by
  obtain ⟨h1, r, n, p, q, m, f, R, G, h2, h3⟩ := h
  exact ⟨h1.trans (c.chg _), r, n, p, q, m, f, R.quiet c, G.quiet c, h2, h3⟩
theorem KB.below (h : KB W w x g C' H' C H M F rd) : Below W.heap.size W w := h.chg.below _ (Nat.le_refl _) (fun _ h => h)
theorem kb_show (h : KB W w x g C' H' C H M F rd) (I : Inv C' H') : Calls Try.prog 11 #[.pointer (some ⟨x, 0, none⟩)] w fun e w' => e = .returned (.string (str (showP C' H'))) ∧ Quiet w w' := by
  obtain ⟨h1, r, n, p, q, m, f, R, G, h2, h3⟩ := h
  exact show_any w x r n C' H' R I
theorem kb_shown (h : KB W w x g C' H' C H M F rd) (I : Inv C H) : Calls Try.prog 12 #[.pointer (some ⟨g, 0, none⟩)] w fun e w' => e = .returned (.string (str (showP C H))) ∧ Quiet w w' := by
  obtain ⟨h1, r, n, p, q, m, f, R, G, h2, h3⟩ := h
  exact shown_any w g p q m f C H M F rd G I
theorem kb_foot (h : KB W w x g C' H' C H M F rd) (I : Inv C H) (Fd : Fed H F) : Calls Try.prog 17 #[.pointer (some ⟨g, 0, none⟩), .string (str (showP C H))] w fun e w' => e = .returned (.bool true) ∧ w' = w := by
  obtain ⟨h1, r, n, p, q, m, f, R, G, h2, h3⟩ := h
  exact foot_any w g p q m f C H M F rd G I Fd.feet
theorem kb_want (h : KB W w x g C' H' C H M F rd) (I : Inv C H) (o : Opr) : Calls Try.prog 14 #[.pointer (some ⟨g, 0, none⟩), opv o.k o.a o.b o.c o.s o.t, .string (str (showP C H))] w fun e w' => e = .returned (ansv (ansP C H o).e (ansP C H o).n (ansP C H o).m (ansP C H o).s) ∧ Quiet w w' := by
  obtain ⟨h1, r, n, p, q, m, f, R, G, h2, h3⟩ := h
  exact want_any w g p q m f C H M F rd G I o
theorem kb_rd (h : KB W w x g C' H' C H M F rd) : w.cell? ⟨g, 4, none⟩ = some (.int .i64 rd) := by
  obtain ⟨h1, r, n, p, q, m, f, R, G, h2, h3⟩ := h
  exact G.cells.2.2.2.2
theorem kb_do {w0 : World} (h0 : KB W w0 x g C H C H M F rd) (I : Inv C H) (q0 : Quiet w0 w) (o : Opr) : Calls Try.prog 15 #[.pointer (some ⟨x, 0, none⟩), opv o.k o.a o.b o.c o.s o.t] w fun e w' => e = .returned (ansv (ansP C H o).e (ansP C H o).n (ansP C H o).m (ansP C H o).s) ∧ Chg (fun k => k < w0.heap.size) w w' ∧ KB W w' x g (nextP C H o).1 (nextP C H o).2 C H M F rd := by
  have h := h0.quiet q0
  obtain ⟨h1, r, n, p, q, m, f, R, G, h2, h3⟩ := h0
  have lts := R.lts
  refine (do_any w x r n C H (R.quiet q0) I o).mono ?_
  rintro e w' ⟨rfl, ch, R'⟩
  refine ⟨rfl, ch.mono (fun k _ hk => lts k hk), h.chg.trans (ch.mono fun k _ hk => (h2 k hk).1), r, n, p, q, m, f, R', (G.quiet q0).of_chg ch (fun k hk hg => (h2 k hk).2 hg), h2, h3⟩
theorem KB.book (h : KB W w x g C' H' C H M F rd) {w' : World} {p q m f : Nat} {C2 : Nat → Nat → Int} {H2 : Nat → Nat → Nat → Int} {M2 F2 : Nat → Nat → Bool} {r2 r : Nat} {n : Nat → Nat}
    (R : Rep w x r n C' H') (h2 : ∀ k, own x r n k → W.heap.size ≤ k ∧ ¬ ownG g p q m f k) (h3 : ∀ k, ownG g p q m f k → W.heap.size ≤ k) (ch : Chg (ownG g p q m f) w w') (G : RepG w' g p q m f C2 H2 M2 F2 r2) : KB W w' x g C' H' C2 H2 M2 F2 r2 :=
  ⟨h.chg.trans (ch.mono fun k _ hk => h3 k hk), r, n, p, q, m, f, R.of_chg ch (fun k hk ho => (h2 k ho).2 hk), G, h2, h3⟩
theorem kb_link (h : KB W w x g C' H' C H M F rd) (i j : Nat) (hi : i < 5) (hj : j < 5) (hij : i ≠ j) (c : Int) (hc : 1 ≤ c) (s t S0 : ByteArray) : Calls Try.prog 16 #[.pointer (some ⟨g, 0, none⟩), opv 1 i j c s t, .string S0] w fun e w' => e = .returned (.tuple #[]) ∧ KB W w' x g C' H' (lk C i j (min c 16)) H (fun _ _ => false) F 0 := by
  have h' := h
  obtain ⟨h1, r, n, p, q, m, f, R, G, h2, h3⟩ := h
  refine (turn_link w g p q m f C H M F rd G i j hi hj hij c hc s t S0).mono ?_
  rintro e w' ⟨rfl, ch, G'⟩
  exact ⟨rfl, h'.book R h2 h3 ch G'⟩
theorem kb_unlink (h : KB W w x g C' H' C H M F rd) (i j : Nat) (hi : i < 5) (hj : j < 5) (hij : i ≠ j) (c : Int) (s t S0 : ByteArray) : Calls Try.prog 16 #[.pointer (some ⟨g, 0, none⟩), opv 2 i j c s t, .string S0] w fun e w' => e = .returned (.tuple #[]) ∧ KB W w' x g C' H' (lk C i j 0) (lk H i j (fun _ => 16)) (fun _ _ => false) (lk F i j false) 0 := by
  have h' := h
  obtain ⟨h1, r, n, p, q, m, f, R, G, h2, h3⟩ := h
  refine (turn_unlink w g p q m f C H M F rd G i j hi hj hij c s t S0).mono ?_
  rintro e w' ⟨rfl, ch, G'⟩
  exact ⟨rfl, h'.book R h2 h3 ch G'⟩
theorem kb_deliver (h : KB W w x g C' H' C H M F rd) (i j : Nat) (hi : i < 5) (hj : j < 5) (hij : i ≠ j) (I : Inv C H) (hr : rd ≤ 16) (c : Int) (s t : ByteArray) : Calls Try.prog 16 #[.pointer (some ⟨g, 0, none⟩), opv 3 i j c s t, .string (str (showP C H))] w fun e w' => e = .returned (.tuple #[]) ∧
    (KB W w' x g C' H' C (upd H j (upd (H j) i (vecP C H i))) (upd M i (upd (M i) j true)) (upd F j (upd (F j) i true)) rd ∨ (markedTo C (upd M i (upd (M i) j true)) 25 ∧ KB W w' x g C' H' C (upd H j (upd (H j) i (vecP C H i))) (fun _ _ => false) (upd F j (upd (F j) i true)) (min (rd + 1) 16))) := by
  have h' := h
  obtain ⟨h1, r, n, p, q, m, f, R, G, h2, h3⟩ := h
  refine (turn_deliver w g p q m f C H M F rd G i j hi hj hij I hr c s t).mono ?_
  rintro e w' ⟨rfl, ch, G' | ⟨hm, G'⟩⟩
  · exact ⟨rfl, .inl (h'.book R h2 h3 ch G')⟩
  · exact ⟨rfl, .inr ⟨hm, h'.book R h2 h3 ch G'⟩⟩

/-- What the book is behind a turning step. -/
def Booked (safe : Bool) (C : Nat → Nat → Int) (H : Nat → Nat → Nat → Int) (M F : Nat → Nat → Bool) (rd : Nat) : Prop := Inv C H ∧ Fed H F ∧ (safe = false → Near C (fw C 5) H M rd) ∧ rd ≤ 16
theorem kb_turn (h : KB W w x g C' H' C H M F rd) (safe : Bool) (hB : Booked safe C H M F rd) (o : Opr) (h1 : 1 ≤ o.k) (h3 : o.k ≤ 3) (he : (ansP C H o).e = 0) :
    Calls Try.prog 16 #[.pointer (some ⟨g, 0, none⟩), opv o.k o.a o.b o.c o.s o.t, .string (str (showP C H))] w fun e w' => e = .returned (.tuple #[]) ∧ ∃ M2 F2 r2, KB W w' x g C' H' (nextP C H o).1 (nextP C H o).2 M2 F2 r2 ∧ Booked safe (nextP C H o).1 (nextP C H o).2 M2 F2 r2 := by
  obtain ⟨I, Fd, Nr, hr⟩ := hB
  obtain ⟨k, a, b, c, s, t⟩ := o
  dsimp only at h1 h3 he ⊢
  have In := inv_next I ⟨k, a, b, c, s, t⟩
  by_cases k1 : k = 1
  · subst k1
    have he : linkE a b c = 0 := he
    rcases ends_cases a b with ⟨i, j, rfl, rfl, hi, hj, hij, e0⟩ | ⟨hne, _⟩
    · have hc : 1 ≤ c := by
        by_cases hc : c < 1
        · simp [linkE, e0, hc] at he
        · omega
      have hx : nextP C H ⟨1, i, j, c, s, t⟩ = (lk C i j (min c 16), H) := by
        show (linkC C i j c, H) = _
        unfold linkC; rw [if_pos he]; rfl
      rw [hx] at In ⊢
      refine (kb_link h i j hi hj hij c hc s t _).mono ?_
      rintro e w' ⟨rfl, hb⟩
      exact ⟨rfl, _, _, _, hb, In, Fd, fun _ => (rnd_start In).2, by omega⟩
    · simp [linkE, hne] at he
  by_cases k2 : k = 2
  · subst k2
    have he : liveP C a b = 0 := he
    rcases live_cases C a b with ⟨i, j, rfl, rfl, hi, hj, hij, e0, hz, el⟩ | hne
    · have hx : nextP C H ⟨2, i, j, c, s, t⟩ = (lk C i j 0, lk H i j (fun _ => 16)) := by
        show (unC C i j, unH C H i j) = _
        unfold unC unH; rw [if_pos he, if_pos he]; rfl
      rw [hx] at In ⊢
      refine (kb_unlink h i j hi hj hij c s t _).mono ?_
      rintro e w' ⟨rfl, hb⟩
      exact ⟨rfl, _, _, _, hb, In, Fd.unlink i j, fun _ => (rnd_start In).2, by omega⟩
    · exact absurd he hne
  · have k3 : k = 3 := by omega
    subst k3
    have he : liveP C a b = 0 := he
    rcases live_cases C a b with ⟨i, j, rfl, rfl, hi, hj, hij, e0, hz, el⟩ | hne
    · have hx : nextP C H ⟨3, i, j, c, s, t⟩ = (C, upd H j (upd (H j) i (vecP C H i))) := by
        show (C, delH C H i j) = _
        unfold delH; rw [if_pos he]; rfl
      rw [hx] at In ⊢
      refine (kb_deliver h i j hi hj hij I hr c s t).mono ?_
      rintro e w' ⟨rfl, hb | ⟨hm, hb⟩⟩
      · exact ⟨rfl, _, _, _, hb, In, Fd.deliver i j _, fun hs => (rnd_deliver I ⟨hr, Nr hs⟩ i j hi hj).2, hr⟩
      · exact ⟨rfl, _, _, _, hb, In, Fd.deliver i j _, fun hs => (rnd_round I (rnd_deliver I ⟨hr, Nr hs⟩ i j hi hj) hm).2, by omega⟩
    · exact absurd he hne
/-- A step that turns nothing. -/
theorem next_same (C : Nat → Nat → Int) (H : Nat → Nat → Nat → Int) (o : Opr) (h : (ansP C H o).e ≠ 0 ∨ o.k < 1 ∨ 3 < o.k) : nextP C H o = (C, H) := by
  obtain ⟨k, a, b, c, s, t⟩ := o
  dsimp only at h
  by_cases k1 : k = 1
  · subst k1
    have h : linkE a b c ≠ 0 := by
      rcases h with h | h | h
      · exact h
      · omega
      · omega
    show (linkC C a b c, H) = _
    unfold linkC; rw [if_neg h]
  by_cases k2 : k = 2
  · subst k2
    have h : liveP C a b ≠ 0 := by
      rcases h with h | h | h
      · exact h
      · omega
      · omega
    show (unC C a b, unH C H a b) = _
    unfold unC unH; rw [if_neg h, if_neg h]
  by_cases k3 : k = 3
  · subst k3
    have h : liveP C a b ≠ 0 := by
      rcases h with h | h | h
      · exact h
      · omega
      · omega
    show (C, delH C H a b) = _
    unfold delH; rw [if_neg h]
  · unfold nextP
    dsimp only
    rw [if_neg k1, if_neg k2, if_neg k3]
end
end Go.Proofs.Qxb6500364a
