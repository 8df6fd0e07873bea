/-
  The node's events: enter, ask, answer, release, request.
-/
import Derived.Test.Qxb6500367aInsert
import Derived.Test.Qxb6500367aDrop
namespace Go.Proofs.Qxb6500367a
open Go.RowKit Go.Qx
set_option linter.unusedSimpArgs false
set_option linter.unusedVariables false

theorem Rep.alloc {w : World} {x a b : Nat} {s : Nd} (r : Rep w x a b s) (o : Obj) : Rep (w.alloc o) x a b s := r.quiet ((Chg.refl _ _).alloc _)

set_option maxRecDepth 100000 in
set_option maxHeartbeats 2000000 in
theorem enter_any (w : World) (x a b : Nat) (s : Nd) (r : Rep w x a b s) : Calls Try.prog 38 #[ptr x] w fun e w' => e = .returned (.tuple #[]) ∧ Chg (own x a b) w w' ∧ Rep w' x a b (enterP s) := by
  obtain ⟨c0, c1, _, c3, c4, c5, _, c7⟩ := r.cells
  have f3 := r.blk.frozen 3
  have hn4 := r.n4
  have hn1 := r.n1
  unfold ptr
  by_cases h1 : s.phase = 1
  · have g1 : (s.phase == 1) = true := by simpa using h1
    by_cases h2 : s.acks = s.n - 1
    · have g2 : (s.acks == (s.n : Int) - 1) = true := by simpa using h2
      have hw1 : IntKind.i64.wrap ((s.n : Int) - 1) = (s.n : Int) - 1 := by rw [IntKind.wrap_i64]; omega
      have hxw := r.blk.lt
      cases hq : s.q with
      | nil =>
        have hE : Hid (enterP s = s) := by show _ = _; unfold enterP; rw [if_neg (by rw [hq]; simp)]
        have hqH := hide hq
        clear hq h1 h2
        go_enter Try.func38, Try.ntmps38
        go_wp2
        go_big_quiet (fail)
        have qW : Quiet w (w.drewN nq) := (Chg.refl _ _).drewN _
        generalize w.drewN nq = W at qW ⊢
        have rW := r.quiet qW
        clear c0 c1 c3 c4 c5 c7 f3
        obtain ⟨c0, c1, _, c3, c4, c5, _, c7⟩ := rW.cells
        have f3 := rW.blk.frozen 3
        have nx : W.heap.size ≠ x := by have := rW.blk.lt; omega
        clear nq
        go_wp2
        go_region_held3 (fun w' => w'.cell? ⟨x, 4, none⟩ = some (.int .i64 s.mine) ∧ w'.cell? ⟨x, 1, none⟩ = some (.int .i64 s.id)) (go_keep) (fail)
        have qV : Quiet w (W.alloc (.cells #[.int .i64 s.mine, .int .i64 s.id] 91)).drew := (qW.alloc _).drew
        have bD : Blk (W.alloc (.cells #[.int .i64 s.mine, .int .i64 s.id] 91)).drew W.heap.size 91 [.int .i64 s.mine, .int .i64 s.id] := (Blk.new W 91 [.int .i64 s.mine, .int .i64 s.id]).drew
        rename_i hHeld
        clear hHeld
        generalize (W.alloc (.cells #[.int .i64 s.mine, .int .i64 s.id] 91)).drew = V at qV bD ⊢
        clear c0 c1 c3 c4 c5 c7 f3 rW qW
        generalize W.heap.size = D at *
        have rV := r.quiet qV
        obtain ⟨c0, c1, _, c3, c4, c5, _, c7⟩ := rV.cells
        have f3 := rV.blk.frozen 3
        have d0 := bD.cell 0
        have d1 := bD.cell 1
        simp at d0 d1
        rw [unhide hqH] at c5
        simp only [List.length_nil] at c5
        go_wp2
        go_big_quiet (fail)
        go_wp2
        go_end0
        rw [unhide hE]
        exact ⟨rfl, Quiet.chg (show Quiet w _ from qV.drewN _) _, r.quiet (qV.drewN _)⟩
      | cons u q =>
        have hqH := hide hq
        obtain ⟨ut, ui⟩ := u
        have hE : Hid (enterP s = if ut = s.mine ∧ ui = s.id then { s with phase := 2 } else s) := by
          show _ = _; unfold enterP
          rw [hq]
          by_cases hh : ut = s.mine ∧ ui = s.id
          · rw [if_pos ⟨h1, h2, by simp [hh]⟩, if_pos hh]
          · rw [if_neg (by simp [h1, h2]; simpa using hh), if_neg hh]
        clear hq h1 h2
        go_enter Try.func38, Try.ntmps38
        go_wp2
        go_big_quiet (fail)
        have qW : Quiet w (w.drewN nq) := (Chg.refl _ _).drewN _
        generalize w.drewN nq = W at qW ⊢
        have rW := r.quiet qW
        clear c0 c1 c3 c4 c5 c7 f3
        obtain ⟨c0, c1, _, c3, c4, c5, _, c7⟩ := rW.cells
        have f3 := rW.blk.frozen 3
        have nx : W.heap.size ≠ x := by have := rW.blk.lt; omega
        clear nq
        go_wp2
        go_region_held3 (fun w' => w'.cell? ⟨x, 4, none⟩ = some (.int .i64 s.mine) ∧ w'.cell? ⟨x, 1, none⟩ = some (.int .i64 s.id)) (go_keep) (fail)
        have qV : Quiet w (W.alloc (.cells #[.int .i64 s.mine, .int .i64 s.id] 91)).drew := (qW.alloc _).drew
        have bD : Blk (W.alloc (.cells #[.int .i64 s.mine, .int .i64 s.id] 91)).drew W.heap.size 91 [.int .i64 s.mine, .int .i64 s.id] := (Blk.new W 91 [.int .i64 s.mine, .int .i64 s.id]).drew
        rename_i hHeld
        clear hHeld
        generalize (W.alloc (.cells #[.int .i64 s.mine, .int .i64 s.id] 91)).drew = V at qV bD ⊢
        clear c0 c1 c3 c4 c5 c7 f3 rW qW
        generalize W.heap.size = D at *
        have rV := r.quiet qV
        obtain ⟨c0, c1, _, c3, c4, c5, _, c7⟩ := rV.cells
        have f3 := rV.blk.frozen 3
        have d0 := bD.cell 0
        have d1 := bD.cell 1
        simp at d0 d1
        rw [unhide hqH] at c5
        obtain ⟨e0, e1⟩ := rV.get 0 (ut, ui) (by rw [unhide hqH]; rfl)
        simp only [Nat.zero_mul, Nat.zero_add] at e0 e1
        simp only [List.length_cons] at c5
        have l1 : (0 : Int) < ((q.length + 1 : Nat) : Int) := by omega
        by_cases hh : ut = s.mine ∧ ui = s.id
        · have hb1 : (ut == s.mine) = true := by simpa using hh.1
          have hb2 : (ui == (s.id : Int)) = true := by simpa using hh.2
          have hE2 := unhide hE
          rw [if_pos hh] at hE2
          have hE3 := hide hE2
          clear hh hE2
          go_wp2
          go_big_quiet (fail)
          go_wp2
          go_end0
          rw [unhide hE3]
          refine ⟨rfl, (Quiet.chg (show Quiet w _ from qV.drewN _) _).setCell (.inl (.inl rfl)) _, ?_⟩
          exact (rV.quiet ((Chg.refl _ _).drewN _)).set _ rfl rfl rfl rfl ((rV.quiet ((Chg.refl _ _).drewN _)).blk.set 3 _) (chg1 _ x 3 _)
        · have hE2 := unhide hE
          rw [if_neg hh] at hE2
          have hE3 := hide hE2
          clear hE2 hE
          by_cases hb : ut = s.mine
          · have hb1 : (ut == s.mine) = true := by simpa using hb
            have hb2 : (ui == (s.id : Int)) = false := by rw [beq_eq_false_iff_ne]; intro h; exact hh ⟨hb, h⟩
            clear hh hb
            go_wp2
            go_big_quiet (fail)
            go_wp2
            go_end0
            rw [unhide hE3]
            exact ⟨rfl, Quiet.chg (show Quiet w _ from qV.drewN _) _, r.quiet (qV.drewN _)⟩
          · have hb1 : (ut == s.mine) = false := by simpa using hb
            clear hh hb
            go_wp2
            go_big_quiet (fail)
            go_wp2
            go_end0
            rw [unhide hE3]
            exact ⟨rfl, Quiet.chg (show Quiet w _ from qV.drewN _) _, r.quiet (qV.drewN _)⟩
    · have hE : Hid (enterP s = s) := by show _ = _; unfold enterP; rw [if_neg (by simp [h2])]
      have g2 : (s.acks == (s.n : Int) - 1) = false := by simpa using h2
      clear h1 h2
      go_enter Try.func38, Try.ntmps38
      go_wp2
      go_big_quiet (fail)
      go_wp2
      refine bodyPost_ret (results_none rfl _ _ _) rfl ?_
      rw [unhide hE]
      exact ⟨rfl, (Chg.refl _ _).drewN _, r.quiet ((Chg.refl _ _).drewN _)⟩
  · have hE : Hid (enterP s = s) := by show _ = _; unfold enterP; rw [if_neg (by simp [h1])]
    have g1 : (s.phase == 1) = false := by simpa using h1
    clear h1
    go_enter Try.func38, Try.ntmps38
    go_wp2
    refine bodyPost_ret (results_none rfl _ _ _) rfl ?_
    rw [unhide hE]
    exact ⟨rfl, Chg.refl _ _, r⟩

theorem Rep.upd {w : World} {x a b : Nat} {s : Nd} (r : Rep w x a b s) (s' : Nd) (o : Nat) (v : Value) (hn : s'.n = s.n) (hi : s'.id = s.id) (hq : s'.q = s.q) (hg : s'.got = s.got) (h : (nodeCells s a b).set o v = nodeCells s' a b) : Rep (w.setCell ⟨x, o, none⟩ v) x a b s' := by
  refine r.set s' hn hi hq hg ?_ (chg1 _ x o v)
  rw [← h]; exact r.blk.set o v

theorem own_x {x a b : Nat} {w0 w : World} (h : Chg (own x a b) w0 w) (o : Nat) (v : Value) : Chg (own x a b) w0 (w.setCell ⟨x, o, none⟩ v) := h.setCell (.inl (.inl rfl)) v

set_option maxRecDepth 100000 in
set_option maxHeartbeats 2000000 in
theorem ask_any (w : World) (x a b : Nat) (s : Nd) (r : Rep w x a b s) (hc0 : 0 ≤ s.clock) (hc1 : s.clock ≤ 1152921504606846976) (hroom : s.phase = 0 → s.q.length < s.n) :
    Calls Try.prog 33 #[ptr x] w fun e w' => e = .returned (.int .i64 (askP s).1) ∧ Chg (own x a b) w w' ∧ Rep w' x a b (askP s).2 := by
  obtain ⟨c0, c1, c2, c3, c4, c5, _, c7⟩ := r.cells
  have f2 := r.blk.frozen 2
  have f4 := r.blk.frozen 4
  by_cases h1 : s.phase = 0
  · have g1 : (s.phase == 0) = true := by simpa using h1
    have hE : Hid (askP s = (0, { s with clock := s.clock + 1, mine := s.clock + 1, q := insP s.q (s.clock + 1, s.id), phase := 1 })) := by show _ = _; unfold askP; rw [if_pos h1]
    have hroom := hroom h1
    clear h1
    unfold ptr
    go_enter Try.func33, Try.ntmps33
    go_wp2
    have r1 := (r.upd { s with clock := s.clock + 1 } 2 (.int .i64 (s.clock + 1)) rfl rfl rfl rfl rfl).upd { s with clock := s.clock + 1, mine := s.clock + 1 } 4 (.int .i64 (s.clock + 1)) rfl rfl rfl rfl rfl
    have ch1 : Chg (own x a b) w _ := own_x (own_x (Chg.refl _ w) 2 (.int .i64 (s.clock + 1))) 4 (.int .i64 (s.clock + 1))
    generalize (w.setCell ⟨x, 2, none⟩ (.int .i64 (s.clock + 1))).setCell ⟨x, 4, none⟩ (.int .i64 (s.clock + 1)) = W at r1 ch1 ⊢
    clear c0 c1 c2 c3 c4 c5 c7 f2 f4
    obtain ⟨c0, c1, c2, c3, c4, c5, _, c7⟩ := r1.cells
    simp only at c1 c4
    have nx : W.heap.size ≠ x := by have := r1.blk.lt; omega
    go_region_held3 (fun w' => w'.cell? ⟨x, 4, none⟩ = some (.int .i64 (s.clock + 1)) ∧ w'.cell? ⟨x, 1, none⟩ = some (.int .i64 s.id)) (go_keep) (fail)
    rename_i hHeld
    clear hHeld
    have qV : Quiet W (W.alloc (.cells #[.int .i64 (s.clock + 1), .int .i64 s.id] 91)).drew := ((Chg.refl _ _).alloc _).drew
    have bD : Blk (W.alloc (.cells #[.int .i64 (s.clock + 1), .int .i64 s.id] 91)).drew W.heap.size 91 [.int .i64 (s.clock + 1), .int .i64 s.id] := (Blk.new W 91 [.int .i64 (s.clock + 1), .int .i64 s.id]).drew
    generalize (W.alloc (.cells #[.int .i64 (s.clock + 1), .int .i64 s.id] 91)).drew = V at qV bD ⊢
    have d0 := bD.cell 0
    have d1 := bD.cell 1
    simp at d0 d1
    have rV := r1.quiet qV
    go_wp2_with fail
    refine (insert_any V x a b _ rV (s.clock + 1) s.id hroom).mono ?_
    rintro e w2 ⟨rfl, ch2, r2⟩
    have f3 := r2.blk.frozen 3
    obtain ⟨_, _, _, c3', _, _, _, _⟩ := r2.cells
    go_wp2
    go_ret
    rw [unhide hE]
    exact ⟨rfl, own_x ((ch1.trans (qV.chg _)).trans ch2) _ _, r2.upd _ 3 _ rfl rfl rfl rfl rfl⟩
  · have g1 : (s.phase == 0) = false := by simpa using h1
    have hE : Hid (askP s = (5, s)) := by show _ = _; unfold askP; rw [if_neg h1]
    clear h1 hroom
    unfold ptr
    go_enter Try.func33, Try.ntmps33
    go_wp2
    go_ret
    rw [unhide hE]
    exact ⟨rfl, Chg.refl _ _, r⟩
end Go.Proofs.Qxb6500367a
