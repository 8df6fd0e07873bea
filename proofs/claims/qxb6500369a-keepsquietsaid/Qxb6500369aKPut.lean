/-
  369 Keeps: send whole, put. (gen9gh.py)
-/
import Derived.Test.Qxb6500369aKGh
namespace Go.Proofs.Qxb6500369a
open Go.RowKit Go.Qx
set_option linter.unusedSimpArgs false
set_option linter.unusedVariables false

set_option maxHeartbeats 8000000 in
set_option maxRecDepth 100000 in
theorem send_0 (w : World) (O : Nat → Prop) (g : Nat) (G : Gh) (hg : GhO w O g G) (l : Nat) (mi mh : Int) :
    Calls Try.prog 38 #[ptr g, .int .i64 l, .agg #[.int .i64 0, .int .i64 mi, .int .i64 mh]] w (GPost w O g G) := by
  unfold ptr
  have hgH := hide hg
  clear hg
  go_enter Try.func38, Try.ntmps38
  go_wp2
  go_big_quiet (fail)
  go_wp2
  go_end0
  have q : Quiet w ((w.alloc (.cells #[.int .i64 0, .int .i64 mi, .int .i64 mh] 55)).drewN nq) := ((Chg.refl _ _).alloc _).drewN _
  exact ⟨rfl, q.chg _, ((unhide hgH).quiet q).mono (fun k h => .inl h)⟩

theorem send_any (w : World) (O : Nat → Prop) (g : Nat) (G : Gh) (hg : GhO w O g G) (l : Nat) (m : Ms) (hm : MsF m) (h8 : G.ids.length ≤ 8) (hl : m.k ≠ 0 → G.wire.length ≤ 2 * G.ids.length) (h1 : 0 ≤ G.s1 ∧ G.s1 ≤ 1000000) (h2 : 0 ≤ G.s2 ∧ G.s2 ≤ 1000000) (h3 : 0 ≤ G.s3 ∧ G.s3 ≤ 1000000) :
    Calls Try.prog 38 #[ptr g, .int .i64 l, msV m] w (GPost w O g (sendP G l m)) := by
  obtain ⟨k, i, h⟩ := m
  rcases hm with e | e | e | e
  · simp only at e; subst e
    exact send_0 w O g G hg l i h
  · simp only at e; subst e
    have := send_1 w O g G hg l i h h8 (hl (by simp)) h1
    simpa [sendP, msV] using this
  · simp only at e; subst e
    have := send_2 w O g G hg l i h h8 (hl (by simp)) h2
    simpa [sendP, msV] using this
  · simp only at e; subst e
    have := send_3 w O g G hg l i h h8 (hl (by simp)) h3
    simpa [sendP, msV] using this

theorem GPost.trans {w w1 w2 : World} {O : Nat → Prop} {g : Nat} {G2 : Gh} (c1 : Chg O w w1) (h : Chg (fun k => O k ∨ w.heap.size ≤ k) w1 w2 ∧ GhO w2 (fun k => (O k ∨ w.heap.size ≤ k) ∨ w1.heap.size ≤ k) g G2) :
    Chg O w w2 ∧ GhO w2 (fun k => O k ∨ w.heap.size ≤ k) g G2 :=
  ⟨Chg.trans' c1 h.1 (fun i hi h => by
    rcases h with h | h
    · exact h
    · omega), h.2.mono (fun k h => by
    have := c1.size
    rcases h with h | h
    · exact h
    · right; omega)⟩

def putP (G : Gh) (j : Nat) (ou : Ou) : Gh := sendP (sendP G (2 * j) ou.cw) (2 * j + 1) ou.ccw

set_option maxHeartbeats 8000000 in
set_option maxRecDepth 100000 in
theorem put_any (w : World) (O : Nat → Prop) (g : Nat) (G : Gh) (hg : GhO w O g G) (hOl : ∀ k, O k → k < w.heap.size) (j : Nat) (hj : j < 8) (ou : Ou) (hm1 : MsF ou.cw) (hm2 : MsF ou.ccw) (h8 : G.ids.length ≤ 8) (hl : (G.wire ++ outsP j ou).length ≤ 2 * G.ids.length + 1)
    (h1 : 0 ≤ G.s1 ∧ G.s1 ≤ 100000) (h2 : 0 ≤ G.s2 ∧ G.s2 ≤ 100000) (h3 : 0 ≤ G.s3 ∧ G.s3 ≤ 100000) :
    Calls Try.prog 23 #[ptr g, .int .i64 j, ouV ou] w (GPost w O g (putP G j ou)) := by
  obtain ⟨⟨ck, ci, ch⟩, ⟨dk, di, dh⟩⟩ := ou
  have al : Quiet w (w.alloc (.cells #[.int .i64 ck, .int .i64 ci, .int .i64 ch, .int .i64 dk, .int .i64 di, .int .i64 dh] 57)) := (Chg.refl _ _).alloc _
  have bo := Blk.new w 57 [.int .i64 ck, .int .i64 ci, .int .i64 ch, .int .i64 dk, .int .i64 di, .int .i64 dh]
  have hs1 := send_any _ O g G (hg.quiet al) (2 * j) ⟨ck, ci, ch⟩ hm1 h8 (fun hk => by simp [outsP] at hl hk; rw [if_neg hk] at hl; simp at hl; omega) (by omega) (by omega) (by omega)
  have e1 : (sendP G (2 * j) ⟨ck, ci, ch⟩).ids = G.ids := by unfold sendP; split <;> rfl
  have hb1 : (0 ≤ (sendP G (2 * j) ⟨ck, ci, ch⟩).s1 ∧ (sendP G (2 * j) ⟨ck, ci, ch⟩).s1 ≤ 1000000) ∧ (0 ≤ (sendP G (2 * j) ⟨ck, ci, ch⟩).s2 ∧ (sendP G (2 * j) ⟨ck, ci, ch⟩).s2 ≤ 1000000) ∧ (0 ≤ (sendP G (2 * j) ⟨ck, ci, ch⟩).s3 ∧ (sendP G (2 * j) ⟨ck, ci, ch⟩).s3 ≤ 1000000) := by
    unfold sendP
    split
    · omega
    · dsimp only
      repeat' split
      all_goals omega
  have hw1 : dk ≠ 0 → (sendP G (2 * j) ⟨ck, ci, ch⟩).wire.length ≤ 2 * G.ids.length := fun hk => by
    simp [outsP] at hl
    rw [if_neg hk] at hl
    unfold sendP
    simp only
    split
    · rename_i h; rw [if_pos h] at hl; simp at hl; omega
    · rename_i h; rw [if_neg h] at hl; simp at hl ⊢; omega
  have hs2 : ∀ W O', GhO W O' g (sendP G (2 * j) ⟨ck, ci, ch⟩) → Calls Try.prog 38 #[ptr g, .int .i64 (2 * (j : Int) + 1), msV ⟨dk, di, dh⟩] W (GPost W O' g (putP G j ⟨⟨ck, ci, ch⟩, ⟨dk, di, dh⟩⟩)) := fun W O' h => by
    have := send_any W O' g _ h (2 * j + 1) ⟨dk, di, dh⟩ hm2 (by rw [e1]; exact h8) (by rw [e1]; exact hw1) hb1.1 hb1.2.1 hb1.2.2
    push_cast at this
    exact this
  push_cast at hs1
  unfold msV ptr at hs1 hs2
  dsimp only at hs1 hs2
  have hs1H := hide hs1
  have hs2H := hide hs2
  have hOlH := hide hOl
  have boH := hide bo
  have w1 : IntKind.i64.wrap (2 * (j : Int)) = 2 * (j : Int) := by rw [IntKind.wrap_i64]; omega
  have w2 : IntKind.i64.wrap (2 * (j : Int) + 1) = 2 * (j : Int) + 1 := by rw [IntKind.wrap_i64]; omega
  have alH := hide al
  clear hs1 hs2 hOl bo al hg hm1 hm2 h8 hl h1 h2 h3 hj e1 hb1 hw1
  unfold ptr ouV
  dsimp only
  go_enter Try.func23, Try.ntmps23
  go_wp2_with fail
  refine (unhide hs1H).mono ?_
  rintro e v1 ⟨rfl, c1, g1⟩
  have bo1 := c1.blk (unhide boH) (fun h => by have := unhide hOlH _ h; omega)
  have x3 := bo1.cell 3
  have x4 := bo1.cell 4
  have x5 := bo1.cell 5
  simp at x3 x4 x5
  have hs3 := hide (unhide hs2H v1 _ g1)
  have c1H := hide ((Quiet.chg (unhide alH) _).trans c1)
  have hsz := hide (show w.heap.size ≤ (w.alloc (.cells #[.int .i64 ck, .int .i64 ci, .int .i64 ch, .int .i64 dk, .int .i64 di, .int .i64 dh] 57)).heap.size from (unhide alH).size)
  clear hs1H hs2H boH bo1 c1 g1
  go_wp2_with fail
  refine (unhide hs3).mono ?_
  rintro e v2 ⟨rfl, c2, g2⟩
  have fin := hide (GPost.trans (unhide c1H) ⟨c2.mono (fun k _ h => by
    have := unhide hsz
    rcases h with h | h
    · exact .inl h
    · right; omega), g2.mono (fun k h => by
    have := unhide hsz
    rcases h with (h | h) | h
    · exact .inl (.inl h)
    · exact .inl (.inr (by omega))
    · exact .inr h)⟩)
  clear c2 g2 hs3 c1H x3 x4 x5
  go_wp2
  go_end0
  exact ⟨rfl, (unhide fin).1, (unhide fin).2⟩
end Go.Proofs.Qxb6500369a
