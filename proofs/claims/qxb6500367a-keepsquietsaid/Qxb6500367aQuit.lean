/-
  quit, Step.
-/
import Derived.Test.Qxb6500367aEvents
namespace Go.Proofs.Qxb6500367a
open Go.RowKit Go.Qx
set_option linter.unusedSimpArgs false
set_option linter.unusedVariables false

theorem clear_step (g : List Bool) (k : Nat) (hk : k < g.length) : (List.replicate k false ++ g.drop k).set k false = List.replicate (k + 1) false ++ g.drop (k + 1) := by
  have e : g.drop k = g[k] :: g.drop (k + 1) := List.drop_eq_getElem_cons hk
  rw [List.set_append_right _ _ (by simp), e, List.replicate_succ', List.length_replicate, Nat.sub_self, List.set_cons_zero, List.append_assoc]
  rfl

set_option maxRecDepth 100000 in
set_option maxHeartbeats 2000000 in
theorem quit_any (w : World) (x a b : Nat) (s : Nd) (r : Rep w x a b s) (hc0 : 0 ≤ s.clock) (hc1 : s.clock ≤ 1152921504606846976) :
    Calls Try.prog 34 #[ptr x] w fun e w' => e = .returned (.int .i64 (quitP s).1) ∧ Chg (own x a b) w w' ∧ Rep w' x a b (quitP s).2 := by
  obtain ⟨c0, c1, c2, c3, c4, c5, _, c7⟩ := r.cells
  have f2 := r.blk.frozen 2
  by_cases h1 : s.phase = 2
  · have g1 : (s.phase == 2) = true := by simpa using h1
    have hE : Hid (quitP s = (0, { s with clock := s.clock + 1, q := dropP s.q s.id, got := List.replicate s.n false, acks := 0, mine := 0, phase := 0 })) := by show _ = _; unfold quitP; rw [if_pos h1]
    clear h1
    have r1 := r.upd { s with clock := s.clock + 1 } 2 (.int .i64 (s.clock + 1)) rfl rfl rfl rfl rfl
    have ch1 : Chg (own x a b) w _ := own_x (Chg.refl _ w) 2 (.int .i64 (s.clock + 1))
    unfold ptr
    go_enter Try.func34, Try.ntmps34
    go_wp2_with fail
    refine (drop_any _ x a b _ r1 s.id).mono ?_
    rintro e w2 ⟨rfl, ch2, r2⟩
    have ch3 := ch1.trans ch2
    have hn := r.n4
    have hgl := r.gl
    obtain ⟨k0, k1, k2, k3, k4, k5, k6, k7⟩ := r2.cells
    simp only at k0 k6
    go_wp2
    go_loopw [26] (fun i wr => ∃ k : Nat, k ≤ s.n ∧ i = .int .i64 k ∧ Rep wr x a b { s with clock := s.clock + 1, q := dropP s.q s.id, got := List.replicate k false ++ s.got.drop k } ∧ Chg (own x a b) w wr) (fun i _ => 5 - (intOf i).toNat)
    case atStart => exact ⟨0, Nat.zero_le _, rfl, r2, ch3⟩
    case round =>
      clear k0 k1 k2 k3 k4 k5 k6 k7
      obtain ⟨k, hk, rfl, r3, ch4⟩ := hrel
      obtain ⟨k0, k1, k2, k3, k4, k5, k6, k7⟩ := r3.cells
      simp only at k0 k6
      have i0 : (0 : Int) ≤ (k : Int) := by omega
      by_cases hlt : k < s.n
      · have i1 : (k : Int) < (s.n : Int) := by omega
        have hg := r3.gots k hlt
        have fg := r3.gb.frozen k
        have hst := clear_step s.got k (by omega)
        have r4 := r3.flags (W := wr.setCell ⟨b, k, none⟩ (.bool false)) ((List.replicate k false ++ s.got.drop k).set k false) (by simp; omega) (by rw [List.map_set]; exact r3.gb.set k _) (chg1 _ b k _)
        rw [hst] at r4
        clear hst
        go_wp2
        go_roundw
        case rel => exact ⟨k + 1, by omega, by go_num, r4, ch4.setCell (.inl (.inr (.inr rfl))) _⟩
        case measure => simp [intOf]; omega
      · have i1 : ¬ (k : Int) < (s.n : Int) := by omega
        have e1 : List.replicate k false ++ s.got.drop k = List.replicate s.n false := by
          rw [List.drop_eq_nil_of_le (by omega), show k = s.n by omega]; simp
        rw [e1] at r3
        clear e1
        have f7 := r3.blk.frozen 7
        have f4 := r3.blk.frozen 4
        have f3 := r3.blk.frozen 3
        have n73 : (7 : Nat) ≠ 4 := by omega
        go_wp2
        go_ret
        rw [unhide hE]
        refine ⟨rfl, own_x (own_x (own_x ch4 _ _) _ _) _ _, ?_⟩
        exact ((r3.upd { s with clock := s.clock + 1, q := dropP s.q s.id, got := List.replicate s.n false, acks := 0 } 7 (.int .i64 0) rfl rfl rfl rfl rfl).upd { s with clock := s.clock + 1, q := dropP s.q s.id, got := List.replicate s.n false, acks := 0, mine := 0 } 4 (.int .i64 0) rfl rfl rfl rfl rfl).upd _ 3 (.int .i64 0) rfl rfl rfl rfl rfl
  · have g1 : (s.phase == 2) = false := by simpa using h1
    have hE : Hid (quitP s = (5, s)) := by show _ = _; unfold quitP; rw [if_neg h1]
    clear h1
    unfold ptr
    go_enter Try.func34, Try.ntmps34
    go_wp2
    go_ret
    rw [unhide hE]
    exact ⟨rfl, Chg.refl _ _, r⟩
end Go.Proofs.Qxb6500367a
