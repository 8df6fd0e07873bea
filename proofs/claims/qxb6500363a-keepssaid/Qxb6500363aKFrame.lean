/-
  THE FRAME OF Keeps' WALK.
-/
import Derived.Test.Qxb6500363aKTurn
import Derived.Test.Qxb6500363aKConv
import Derived.Test.Qxb6500363aWalk
namespace Go.Proofs.Qxb6500363a
open Go.RowKit Go.Qx
set_option linter.unusedVariables false
set_option linter.unusedSimpArgs false

/-- The real ring (k, xs) and the ghost's values ys, apart from each other, in new blocks. -/
structure KB (W w : World) (r g n c : Nat) (k : Int) (xs ys : List Int) : Prop where
  chg : Chg (fun x => W.heap.size ≤ x) W w
  reps : ∃ a b, RepR w r a b k xs (hots xs) ∧ ∀ x, ownR r a b x → W.heap.size ≤ x ∧ x ≠ g
  gv : Gv w g n c ys
  gl : W.heap.size ≤ g
theorem KB.quiet {W w w' : World} {r g n c : Nat} {k : Int} {xs ys : List Int} (h : KB W w r g n c k xs ys) (q : Quiet w w') : KB W w' r g n c k xs ys := by
  obtain ⟨h1, ⟨a, b, R, h2⟩, h3, h4⟩ := h
  exact ⟨h1.trans (q.chg _), ⟨a, b, R.quiet q, h2⟩, h3.quiet q, h4⟩
theorem KB.below {W w : World} {r g n c : Nat} {k : Int} {xs ys : List Int} (h : KB W w r g n c k xs ys) : Below W.heap.size W w := h.chg.below _ (Nat.le_refl _) (fun _ h => h)

section
variable {W w : World} {r g n c : Nat} {k : Int} {xs ys : List Int} (h : KB W w r g n c k xs ys)
include h
theorem kb_show (o : Ok k xs) : Calls Try.prog 13 #[.pointer (some ⟨r, 0, none⟩)] w fun e w' => e = .returned (.string (str (showP k xs))) ∧ Quiet w w' := by
  obtain ⟨a, b, R, _⟩ := h.reps
  exact showR_any w r a b k xs R o
theorem kb_mask (o : Ok k xs) : Calls Try.prog 10 #[.pointer (some ⟨r, 0, none⟩), .int .i64 xs.length] w fun e w' => e = .returned (.int .i64 (mk (hots xs))) ∧ w' = w := by
  obtain ⟨a, b, R, _⟩ := h.reps
  exact mask_any w r a b k xs R o.n6
theorem kb_state (o : Ok k xs) : Calls Try.prog 12 #[.pointer (some ⟨r, 0, none⟩), .int .i64 xs.length, .int .i64 (cnt (hots xs)), .int .i64 (wsum xs.length (hots xs) 0)] w fun e w' => e = .returned (.bool true) ∧ Quiet w w' := by
  obtain ⟨a, b, R, _⟩ := h.reps
  exact state_any w r a b k xs R o (P1 xs o.n2)
theorem kb_play {w2 : World} (q : Quiet w w2) (o : Ok k xs) (p : Opr) (ha : In64 p.a) (hb : In64 p.b) : Calls Try.prog 14 #[.pointer (some ⟨r, 0, none⟩), opv p.k p.a p.b p.c p.s p.t] w2 fun e w' => e = .returned (ansv (ansP k xs p).e (ansP k xs p).n (ansP k xs p).s) ∧ Chg (fun x => x < w.heap.size) w2 w' ∧ KB W w' r g n c (nextP k xs p).1 (nextP k xs p).2 ys := by
  obtain ⟨a, b, R, hO⟩ := h.reps
  obtain ⟨l1, l2, l3⟩ := R.lts
  have lg := h.gv.b.lt
  have lW := h.chg.size
  have lq := q.size
  have h2 := h.quiet q
  refine (do_any w2 r a b k xs (R.quiet q) o p ha hb).mono ?_
  rintro e w' ⟨he, ch, a', b', ha', hb', R'⟩
  refine ⟨he, ch.mono ?_, h2.chg.trans (ch.mono fun x _ hx => (hO x hx).1), ⟨a', b', R', ?_⟩, h2.gv.of_chg ch (fun hx => (hO g hx).2 rfl), h.gl⟩
  · rintro x _ (rfl | rfl | rfl) <;> assumption
  · rintro x (rfl | rfl | rfl)
    · exact hO _ (.inl rfl)
    · rcases ha' with rfl | ha'
      · exact hO _ (.inr (.inl rfl))
      · exact ⟨by omega, by omega⟩
    · rcases hb' with rfl | hb'
      · exact hO _ (.inr (.inr rfl))
      · exact ⟨by omega, by omega⟩
theorem kb_turned {k' : Int} {zs : List Int} {e : Ending} {w' : World} (t : TP w g k' zs e w') : ∃ g' n' c', e = .returned (.tuple #[.slice (some ⟨g', 0, none⟩) n' c', .int .i64 k']) ∧ Chg (fun x => x = g) w w' ∧ KB W w' r g' n' c' k xs zs := by
  obtain ⟨g', n', c', he, ch, G, hg⟩ := t
  obtain ⟨a, b, R, hO⟩ := h.reps
  obtain ⟨l1, l2, l3⟩ := R.lts
  have lW := h.chg.size
  refine ⟨g', n', c', he, ch, h.chg.trans (ch.mono fun x _ hx => by rw [hx]; exact h.gl), ⟨a, b, R.of_chg ch (fun x hx ho => (hO x ho).2 hx), ?_⟩, G, ?_⟩
  · intro x hx
    refine ⟨(hO x hx).1, ?_⟩
    rcases hg with rfl | hg
    · exact (hO x hx).2
    · intro e
      have : x < w.heap.size := by rcases hx with rfl | rfl | rfl <;> assumption
      omega
  · have := h.gl
    rcases hg with rfl | hg <;> omega
theorem kb_hold (o : Ok k ys) : Calls Try.prog 20 #[.slice (some ⟨g, 0, none⟩) n c] w fun e w' => e = .returned (.int .i64 (mk (hots ys))) ∧ Quiet w w' :=
  hold_any w g n c ys h.gv o.n2 o.n6
theorem kb_spelt (o : Ok k ys) : Calls Try.prog 21 #[.int .i64 k, .int .i64 (cnt (hots ys)), .int .i64 (wsum ys.length (hots ys) 0), .slice (some ⟨g, 0, none⟩) n c, .int .i64 (mk (hots ys))] w fun e w' => e = .returned (.string (str (showP k ys))) ∧ Quiet w w' :=
  spelt_any w g n c k ys h.gv o
end
theorem kb_new {W w1 : World} {r a b : Nat} (R : RepR w1 r a b 2 [0, 0] (hots [0, 0])) (q : Quiet W w1) (hO : ∀ x, ownR r a b x → W.heap.size ≤ x) : KB W (w1.alloc (.cells #[.int .i64 0, .int .i64 0] 3)) r w1.heap.size 2 2 2 [0, 0] [0, 0] := by
  obtain ⟨l1, l2, l3⟩ := R.lts
  have q2 : Quiet w1 (w1.alloc (.cells #[.int .i64 0, .int .i64 0] 3)) := (Chg.refl _ _).alloc _
  refine ⟨Quiet.chg (q.trans q2) _, ⟨a, b, R.quiet q2, ?_⟩, ⟨Blk.new w1 3 [.int .i64 0, .int .i64 0], rfl, rfl⟩, q.size⟩
  intro x hx
  refine ⟨hO x hx, ?_⟩
  have : x < w1.heap.size := by rcases hx with rfl | rfl | rfl <;> assumption
  omega
theorem show_first : showP 2 [0, 0] = [50, 47, 49, 47, 48, 58, 42, 48, 44, 48, 44] := by decide
end Go.Proofs.Qxb6500363a
