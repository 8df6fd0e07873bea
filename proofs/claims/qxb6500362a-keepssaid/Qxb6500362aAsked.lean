/-
  Asked: THE EXAMPLES OF THE OBSERVERS. (gen2asked.py)
-/
import Derived.Test.Qxb6500362aFact
namespace Go.Proofs.Qxb6500362a
open Go.RowKit Go.Qx
set_option linter.unusedSimpArgs false
set_option linter.unusedVariables false

abbrev St : Type := (Nat → Int) × (Nat → Int)

/-- A bench in memory amid boxes that hold answers. -/
structure Stage (w0 w : World) (x v : Nat) (S : St) (bs : List (Nat × List Value)) : Prop where
  rep : Rep w x v S.1 S.2
  inv : Inv S.1 S.2
  chg : Chg (fun k => w0.heap.size ≤ k) w0 w
  above : ∀ k, own x v k → w0.heap.size ≤ k
  blk : ∀ p, p ∈ bs → Blk w p.1 35 p.2
  apart : ∀ p, p ∈ bs → ¬ own x v p.1

theorem stage_play {w0 w : World} {x v : Nat} {S : St} {bs : List (Nat × List Value)} (h : Stage w0 w x v S bs) (k a b c E : Int) (hE : (aP S k a b c).e = E) :
    Calls Try.prog 14 #[.pointer (some ⟨x, 0, none⟩), .int .i64 k, .int .i64 a, .int .i64 b, .int .i64 c] w fun e w' => e = .returned (.int .i64 E) ∧ Stage w0 w' x v (sP S k a b c) bs := by
  refine (play_any w x v _ _ h.rep h.inv k a b c).mono ?_
  rintro e w' ⟨rfl, ch, R⟩
  refine ⟨?_, R, sP_inv h.inv k a b c, h.chg.trans (ch.mono (fun k _ hk => h.above k hk)), h.above, fun p hp => ch.blk (h.blk p hp) (h.apart p hp), h.apart⟩
  rw [← hE]; rfl

def ansIs (S : St) (k a b c E N M : Int) : Bool := decide ((aP S k a b c).e = E) && decide ((aP S k a b c).n = N) && decide ((aP S k a b c).m = M) && decide ((aP S k a b c).s = ⟨#[]⟩)

theorem stage_do {w0 w : World} {x v : Nat} {S : St} {bs : List (Nat × List Value)} (h : Stage w0 w x v S bs) (k a b c E N M : Int) (hA : ansIs S k a b c E N M = true) :
    Calls Try.prog 15 #[.pointer (some ⟨x, 0, none⟩), .agg #[.int .i64 k, .int .i64 a, .int .i64 b, .int .i64 c, .string ⟨#[]⟩, .string ⟨#[]⟩]] w fun e w' => e = .returned (.agg #[.int .i64 E, .int .i64 N, .int .i64 M, .string ⟨#[]⟩]) ∧
      Stage w0 (w'.alloc (.cells #[.int .i64 E, .int .i64 N, .int .i64 M, .string ⟨#[]⟩] 35)) x v (sP S k a b c) ((w'.heap.size, [.int .i64 E, .int .i64 N, .int .i64 M, .string ⟨#[]⟩]) :: bs) := by
  unfold ansIs at hA
  simp only [Bool.and_eq_true, decide_eq_true_eq] at hA
  obtain ⟨⟨⟨h1, h2⟩, h3⟩, h4⟩ := hA
  refine (do_any w x v _ _ h.rep h.inv ⟨k, a, b, c, ⟨#[]⟩, ⟨#[]⟩⟩).mono ?_
  rintro e w' ⟨rfl, ch, R⟩
  have q : Quiet w' (w'.alloc (.cells #[.int .i64 E, .int .i64 N, .int .i64 M, .string ⟨#[]⟩] 35)) := (Chg.refl _ _).alloc _
  refine ⟨?_, R.quiet q, sP_inv h.inv k a b c, (h.chg.trans (ch.mono (fun k _ hk => h.above k hk))).trans (q.chg _), h.above, ?_, ?_⟩
  · unfold aP at h1 h2 h3 h4
    rw [h1, h2, h3, h4]; rfl
  · intro p hp
    rcases List.mem_cons.1 hp with rfl | hp
    · exact Blk.new w' 35 [.int .i64 E, .int .i64 N, .int .i64 M, .string ⟨#[]⟩]
    · exact q.blk (ch.blk (h.blk p hp) (h.apart p hp))
  · intro p hp
    rcases List.mem_cons.1 hp with rfl | hp
    · intro ho
      have := R.lts _ ho
      simp at this
    · exact h.apart p hp

theorem stage_new {w0 w : World} {bs : List (Nat × List Value)} (hc : Chg (fun k => w0.heap.size ≤ k) w0 w) (hb : ∀ p, p ∈ bs → Blk w p.1 35 p.2) :
    Calls Try.prog 13 #[] w fun e w' => ∃ x v, e = .returned (.pointer (some ⟨x, 0, none⟩)) ∧ Stage w0 w' x v S0 bs := by
  refine (new_any w).mono ?_
  rintro e w' ⟨x, v, rfl, q, ho, R⟩
  refine ⟨x, v, rfl, R, inv_first, hc.trans (q.chg _), fun k hk => Nat.le_trans hc.size (ho k hk), fun p hp => q.blk (hb p hp), ?_⟩
  intro p hp hk
  have h1 := ho _ hk
  have h2 := (hb p hp).lt
  omega

def onesS : Nat → St
  | 0 => S0
  | n + 1 => sP (onesS n) 2 n 1 0

theorem onesE : ∀ n, n < 4 → (aP (onesS n) 2 n 1 0).e = 0 := by
  intro n hn
  have : n = 0 ∨ n = 1 ∨ n = 2 ∨ n = 3 := by omega
  rcases this with rfl | rfl | rfl | rfl <;> decide +kernel

set_option maxRecDepth 100000 in
set_option maxHeartbeats 4000000 in
theorem asked_any (w : World) : Calls Try.prog 7 #[] w fun e w' => e = .returned (.bool true) ∧ Below w.heap.size w w' := by
  have hn := stage_new (w0 := w) (w := w) (bs := []) (Chg.refl _ _) (fun p hp => by cases hp)
  go_enter Try.func7, Try.ntmps7
  go_wp2_with fail
  refine hn.mono ?_
  clear hn
  rintro e w1 ⟨x, v, rfl, hs⟩
  have hsH := hide hs
  clear hs
  go_wp2
  go_loopw [2] (fun i wr => ∃ j : Nat, j ≤ 4 ∧ i = .int .i64 j ∧ Stage w wr x v (onesS j) []) (fun i _ => 4 - (intOf i).toNat)
  case atStart => exact ⟨0, by omega, rfl, unhide hsH⟩
  case round =>
    obtain ⟨j, hj, rfl, hs⟩ := hrel
    clear hsH
    by_cases hlt : j < 4
    · have hp := hide (stage_play hs 2 j 1 0 0 (onesE j hlt))
      have g1 : (j : Int) < 4 := by omega
      clear hs
      go_wp2_with fail
      refine (unhide hp).mono ?_
      clear hp
      rintro e w2 ⟨rfl, hs⟩
      have hs2 := hide hs
      clear hs
      go_wp2
      go_roundw
      case rel => exact ⟨j + 1, by omega, by go_num, unhide hs2⟩
      case measure => simp [intOf]; omega
    · have e4 : j = 4 := by omega
      subst e4
      clear hlt hj
      have hp := hide (stage_do hs 12 (2) (0) (0) (0) (15) (0) (by decide +kernel))
      clear hs
      go_wp2_with fail
      refine (unhide hp).mono ?_
      clear hp
      rintro e w2 ⟨rfl, hs⟩
      have hp := hide (stage_do hs 12 (32) (-32) (0) (0) (-65503) (-67616) (by decide +kernel))
      clear hs
      go_wp2_with fail
      refine (unhide hp).mono ?_
      clear hp
      rintro e w3 ⟨rfl, hs⟩
      have hp := hide (stage_do hs 12 (33) (0) (0) (2) (0) (0) (by decide +kernel))
      clear hs
      go_wp2_with fail
      refine (unhide hp).mono ?_
      clear hp
      rintro e w4 ⟨rfl, hs⟩
      have hp := hide (stage_new hs.chg hs.blk)
      clear hs
      go_wp2_with fail
      refine (unhide hp).mono ?_
      clear hp
      rintro e w5 ⟨x5, v5, rfl, hs⟩
      have hp := hide (stage_play hs 2 (3) (255) (255) 0 (by decide +kernel))
      clear hs
      go_wp2_with fail
      refine (unhide hp).mono ?_
      clear hp
      rintro e w6 ⟨rfl, hs⟩
      have hp := hide (stage_do hs 12 (31) (32) (0) (0) (-31856895) (-1518015) (by decide +kernel))
      clear hs
      go_wp2_with fail
      refine (unhide hp).mono ?_
      clear hp
      rintro e w7 ⟨rfl, hs⟩
      have hp := hide (stage_new hs.chg hs.blk)
      clear hs
      go_wp2_with fail
      refine (unhide hp).mono ?_
      clear hp
      rintro e w8 ⟨x8, v8, rfl, hs⟩
      have hp := hide (stage_play hs 2 (1) (1) (0) 0 (by decide +kernel))
      clear hs
      go_wp2_with fail
      refine (unhide hp).mono ?_
      clear hp
      rintro e w9 ⟨rfl, hs⟩
      have hp := hide (stage_do hs 12 (3) (4) (0) (0) (3) (4) (by decide +kernel))
      clear hs
      go_wp2_with fail
      refine (unhide hp).mono ?_
      clear hp
      rintro e w10 ⟨rfl, hs⟩
      have hp := hide (stage_play hs 2 (0) (1) (2) 0 (by decide +kernel))
      clear hs
      go_wp2_with fail
      refine (unhide hp).mono ?_
      clear hp
      rintro e w11 ⟨rfl, hs⟩
      have hp := hide (stage_play hs 2 (1) (1) (3) 0 (by decide +kernel))
      clear hs
      go_wp2_with fail
      refine (unhide hp).mono ?_
      clear hp
      rintro e w12 ⟨rfl, hs⟩
      have hp := hide (stage_play hs 2 (2) (1) (2) 0 (by decide +kernel))
      clear hs
      go_wp2_with fail
      refine (unhide hp).mono ?_
      clear hp
      rintro e w13 ⟨rfl, hs⟩
      have hp := hide (stage_do hs 13 (0) (1) (0) (0) (0) (0) (by decide +kernel))
      clear hs
      go_wp2_with fail
      refine (unhide hp).mono ?_
      clear hp
      rintro e w14 ⟨rfl, hs⟩
      have hp := hide (stage_do hs 13 (0) (2) (0) (0) (1) (0) (by decide +kernel))
      clear hs
      go_wp2_with fail
      refine (unhide hp).mono ?_
      clear hp
      rintro e w15 ⟨rfl, hs⟩
      have hp := hide (stage_do hs 3 (1) (0) (0) (0) (1) (3) (by decide +kernel))
      clear hs
      go_wp2_with fail
      refine (unhide hp).mono ?_
      clear hp
      rintro e w16 ⟨rfl, hs⟩
      have hp := hide (stage_do hs 3 (4) (0) (0) (1) (0) (0) (by decide +kernel))
      clear hs
      go_wp2_with fail
      refine (unhide hp).mono ?_
      clear hp
      rintro e w17 ⟨rfl, hs⟩
      have b0 := hs.blk _ (.head _)
      have b0c0 := b0.cell 0
      have b0c1 := b0.cell 1
      have b0c2 := b0.cell 2
      have b0c3 := b0.cell 3
      simp at b0c0 b0c1 b0c2 b0c3
      have b1 := hs.blk _ (.tail _ (.head _))
      have b1c0 := b1.cell 0
      have b1c1 := b1.cell 1
      have b1c2 := b1.cell 2
      have b1c3 := b1.cell 3
      simp at b1c0 b1c1 b1c2 b1c3
      have b2 := hs.blk _ (.tail _ (.tail _ (.head _)))
      have b2c0 := b2.cell 0
      have b2c1 := b2.cell 1
      have b2c2 := b2.cell 2
      have b2c3 := b2.cell 3
      simp at b2c0 b2c1 b2c2 b2c3
      have b3 := hs.blk _ (.tail _ (.tail _ (.tail _ (.head _))))
      have b3c0 := b3.cell 0
      have b3c1 := b3.cell 1
      have b3c2 := b3.cell 2
      have b3c3 := b3.cell 3
      simp at b3c0 b3c1 b3c2 b3c3
      have b4 := hs.blk _ (.tail _ (.tail _ (.tail _ (.tail _ (.head _)))))
      have b4c0 := b4.cell 0
      have b4c1 := b4.cell 1
      have b4c2 := b4.cell 2
      have b4c3 := b4.cell 3
      simp at b4c0 b4c1 b4c2 b4c3
      have b5 := hs.blk _ (.tail _ (.tail _ (.tail _ (.tail _ (.tail _ (.head _))))))
      have b5c0 := b5.cell 0
      have b5c1 := b5.cell 1
      have b5c2 := b5.cell 2
      have b5c3 := b5.cell 3
      simp at b5c0 b5c1 b5c2 b5c3
      have b6 := hs.blk _ (.tail _ (.tail _ (.tail _ (.tail _ (.tail _ (.tail _ (.head _)))))))
      have b6c0 := b6.cell 0
      have b6c1 := b6.cell 1
      have b6c2 := b6.cell 2
      have b6c3 := b6.cell 3
      simp at b6c0 b6c1 b6c2 b6c3
      have b7 := hs.blk _ (.tail _ (.tail _ (.tail _ (.tail _ (.tail _ (.tail _ (.tail _ (.head _))))))))
      have b7c0 := b7.cell 0
      have b7c1 := b7.cell 1
      have b7c2 := b7.cell 2
      have b7c3 := b7.cell 3
      simp at b7c0 b7c1 b7c2 b7c3
      have b8 := hs.blk _ (.tail _ (.tail _ (.tail _ (.tail _ (.tail _ (.tail _ (.tail _ (.tail _ (.head _)))))))))
      have b8c0 := b8.cell 0
      have b8c1 := b8.cell 1
      have b8c2 := b8.cell 2
      have b8c3 := b8.cell 3
      simp at b8c0 b8c1 b8c2 b8c3
      have hsH := hide hs.chg
      clear hs b0 b1 b2 b3 b4 b5 b6 b7 b8
      generalize w2.heap.size = B0 at *
      generalize w3.heap.size = B1 at *
      generalize w4.heap.size = B2 at *
      generalize w7.heap.size = B3 at *
      generalize w10.heap.size = B4 at *
      generalize w14.heap.size = B5 at *
      generalize w15.heap.size = B6 at *
      generalize w16.heap.size = B7 at *
      generalize w17.heap.size = B8 at *
      go_wp2
      go_ret
      exact ⟨rfl, (unhide hsH).below _ (Nat.le_refl _) (fun _ h => h)⟩
end Go.Proofs.Qxb6500362a
