/-
  The closed laws: Born, EdgeRangeHeight, EdgeRangeHeightOne: their walks.
-/
import Derived.Test.Qxb6500361aPut
import Derived.Test.Qxb6500361aLook
namespace Go.Proofs.Qxb6500361a
open Go.RowKit Go.Qx
set_option linter.unusedSimpArgs false
set_option linter.unusedVariables false

theorem rng_all (l : List Nd) (h : ∀ d ∈ l, -9223372036854775808 ≤ d.key ∧ d.key ≤ 9223372036854775807) : rng (-9223372036854775808) 9223372036854775807 l = l := by
  unfold rng
  rw [List.filter_eq_self]
  intro d hd
  have := h d hd
  simp; omega

theorem show_any (w : World) (c l hd : Nat) (s : ByteArray) (nds : List Nd) (top : Nat) (r : Rep w c l hd s nds top) :
    Calls Try.prog 18 #[ptr l] w fun e w' => e = .returned (.string (pairsStr nds)) ∧ Quiet w w' := by
  have h := scan_any w c l hd s nds top (-9223372036854775808) 9223372036854775807 r
  rw [rng_all nds r.keys] at h
  unfold ptr at *
  go_enter Try.func18, Try.ntmps18
  go_wp2_with fail
  refine h.mono ?_
  rintro e w1 ⟨rfl, hq⟩
  go_wp2
  go_ret
  exact ⟨rfl, hq⟩

set_option maxHeartbeats 1000000 in
theorem born_any (w : World) : Calls Try.prog 9 #[] w fun e w' => e = .returned (.bool true) ∧ Below w.heap.size w w' := by
  go_enter Try.func9, Try.ntmps9
  go_wp2_with fail
  refine (ground_any w).mono ?_
  rintro e w1 ⟨rfl, hw1⟩
  have b1 : Blk w1 w.heap.size 72 [.string ⟨#[]⟩] := by rw [hw1]; exact Blk.new w 72 [.string ⟨#[]⟩]
  have q1 : Quiet w w1 := by rw [hw1]; exact (Chg.refl _ _).alloc _
  clear hw1
  go_wp2_with fail
  refine (feed_any w1 w.heap.size ⟨#[]⟩ ⟨#[72, 72, 84]⟩ b1 (by decide) (by decide)).mono ?_
  rintro e w2 ⟨rfl, q2, b2⟩
  rw [show feedErr ⟨#[]⟩ ⟨#[72, 72, 84]⟩ = 0 from rfl]
  rw [show feedNew ⟨#[]⟩ ⟨#[72, 72, 84]⟩ = ⟨#[72, 72, 84]⟩ from by decide] at b2
  go_wp2_with fail
  refine (new_any w2 w.heap.size ⟨#[72, 72, 84]⟩ b2 (by decide)).mono ?_
  rintro e w3 ⟨rfl, q3, r3⟩
  go_wp2_with fail
  refine (show_any w3 _ _ _ _ _ _ r3).mono ?_
  rintro e w4 ⟨rfl, q4⟩
  rw [show pairsStr [] = ⟨#[]⟩ from rfl]
  go_wp2_with fail
  refine (coins_any w4 w.heap.size _ (r3.quiet q4).coin).mono ?_
  rintro e w5 ⟨rfl, rfl⟩
  go_wp2
  go_ret
  refine ⟨rfl, ?_⟩
  have := (((q1.chg (fun b => w.heap.size ≤ b)).trans (q2.mono (fun i _ h => by omega))).trans (q3.chg _)).trans (q4.chg _)
  exact this.below _ (Nat.le_refl _) (fun _ h => h)

theorem lev_yes (a : Nat) (v : ByteArray) (h lv : Nat) (hl : lv < h) : levelStr lv [⟨a, 7, v, h⟩] = ⟨#[55, 44]⟩ := by
  unfold levelStr
  simp only [List.foldl_cons, List.foldl_nil, hl, if_true]
  decide +kernel

theorem lev_no (a : Nat) (v : ByteArray) (h lv : Nat) (hl : h ≤ lv) : levelStr lv [⟨a, 7, v, h⟩] = ⟨#[]⟩ := by
  unfold levelStr
  simp only [List.foldl_cons, List.foldl_nil, show ¬ lv < h by omega, if_false]

set_option maxHeartbeats 1000000 in
theorem edgeOne_any (w : World) : Calls Try.prog 8 #[] w fun e w' => e = .returned (.bool true) ∧ Below w.heap.size w w' := by
  go_enter Try.func8, Try.ntmps8
  go_wp2_with fail
  refine (ground_any w).mono ?_
  rintro e w1 ⟨rfl, hw1⟩
  have b1 : Blk w1 w.heap.size 72 [.string ⟨#[]⟩] := by rw [hw1]; exact Blk.new w 72 [.string ⟨#[]⟩]
  have q1 : Quiet w w1 := by rw [hw1]; exact (Chg.refl _ _).alloc _
  clear hw1
  go_wp2_with fail
  refine (new_any w1 w.heap.size ⟨#[]⟩ b1 (by decide)).mono ?_
  rintro e w3 ⟨rfl, q3, r3⟩
  go_wp2_with fail
  refine (put_new w3 _ _ _ _ [] [] 1 7 ⟨#[97]⟩ (by decide) (by decide) (by decide) r3 (by simp) (by simp) (by decide)).mono ?_
  rintro e w4 ⟨rfl, q4, a, ha, r4⟩
  rw [show toss 7 (⟨#[]⟩ : ByteArray).data.toList = (1, []) from rfl] at r4
  simp only [List.nil_append] at r4
  go_wp2_with fail
  refine (level_any w4 _ _ _ _ _ _ 0 r4 (by decide)).mono ?_
  rintro e w5 ⟨rfl, q5⟩
  rw [lev_yes _ _ _ _ (by decide)]
  go_wp2_with fail
  refine (level_any w5 _ _ _ _ _ _ 1 (r4.quiet q5) (by decide)).mono ?_
  rintro e w6 ⟨rfl, q6⟩
  rw [lev_no _ _ _ _ (by decide)]
  go_wp2
  go_ret
  refine ⟨rfl, ?_⟩
  have hs1 := q1.size
  have := ((((q1.chg (fun b => w.heap.size ≤ b)).trans (q3.chg _)).trans (q4.mono (fun i _ h => by rcases h with h | h | h | ⟨d, hd, _⟩ <;> first | omega | simp at hd))).trans (q5.chg _)).trans (q6.chg _)
  exact this.below _ (Nat.le_refl _) (fun _ h => h)

set_option maxHeartbeats 1000000 in
theorem edge_any (w : World) : Calls Try.prog 7 #[] w fun e w' => e = .returned (.bool true) ∧ Below w.heap.size w w' := by
  go_enter Try.func7, Try.ntmps7
  go_wp2_with fail
  refine (ground_any w).mono ?_
  rintro e w1 ⟨rfl, hw1⟩
  have b1 : Blk w1 w.heap.size 72 [.string ⟨#[]⟩] := by rw [hw1]; exact Blk.new w 72 [.string ⟨#[]⟩]
  have q1 : Quiet w w1 := by rw [hw1]; exact (Chg.refl _ _).alloc _
  clear hw1
  go_wp2_with fail
  refine (feed_any w1 w.heap.size ⟨#[]⟩ ⟨#[72, 72, 84]⟩ b1 (by decide) (by decide)).mono ?_
  rintro e w2 ⟨rfl, q2, b2⟩
  rw [show feedErr ⟨#[]⟩ ⟨#[72, 72, 84]⟩ = 0 from rfl]
  rw [show feedNew ⟨#[]⟩ ⟨#[72, 72, 84]⟩ = ⟨#[72, 72, 84]⟩ from by decide] at b2
  go_wp2_with fail
  refine (new_any w2 w.heap.size ⟨#[72, 72, 84]⟩ b2 (by decide)).mono ?_
  rintro e w3 ⟨rfl, q3, r3⟩
  go_wp2_with fail
  refine (put_new w3 _ _ _ _ [] [] 1 7 ⟨#[97]⟩ (by decide) (by decide) (by decide) r3 (by simp) (by simp) (by decide)).mono ?_
  rintro e w4 ⟨rfl, q4, a, ha, r4⟩
  rw [show toss 7 (⟨#[72, 72, 84]⟩ : ByteArray).data.toList = (3, []) from rfl] at r4
  simp only [List.nil_append] at r4
  go_wp2_with fail
  refine (level_any w4 _ _ _ _ _ _ 0 r4 (by decide)).mono ?_
  rintro e w5 ⟨rfl, q5⟩
  rw [lev_yes _ _ _ _ (by decide)]
  have r5 := r4.quiet q5
  go_wp2_with fail
  refine (level_any w5 _ _ _ _ _ _ 1 r5 (by decide)).mono ?_
  rintro e w6 ⟨rfl, q6⟩
  rw [lev_yes _ _ _ _ (by decide)]
  have r6 := r5.quiet q6
  go_wp2_with fail
  refine (level_any w6 _ _ _ _ _ _ 2 r6 (by decide)).mono ?_
  rintro e w7 ⟨rfl, q7⟩
  rw [lev_yes _ _ _ _ (by decide)]
  have r7 := r6.quiet q7
  go_wp2_with fail
  refine (level_any w7 _ _ _ _ _ _ 3 r7 (by decide)).mono ?_
  rintro e w8 ⟨rfl, q8⟩
  rw [lev_no _ _ _ _ (by decide)]
  have r8 := r7.quiet q8
  go_wp2_with fail
  refine (level_any w8 _ _ _ _ _ _ 7 r8 (by decide)).mono ?_
  rintro e w9 ⟨rfl, q9⟩
  rw [lev_no _ _ _ _ (by decide)]
  go_wp2
  go_ret
  refine ⟨rfl, ?_⟩
  have hs1 := q1.size
  have hs2 := q2.size
  have := ((((((((q1.chg (fun b => w.heap.size ≤ b)).trans (q2.mono (fun i _ h => by omega))).trans (q3.chg _)).trans (q4.mono (fun i _ h => by rcases h with h | h | h | ⟨d, hd, _⟩ <;> first | omega | simp at hd))).trans (q5.chg _)).trans (q6.chg _)).trans (q7.chg _)).trans (q8.chg _)).trans (q9.chg _)
  exact this.below _ (Nat.le_refl _) (fun _ h => h)
end Go.Proofs.Qxb6500361a
