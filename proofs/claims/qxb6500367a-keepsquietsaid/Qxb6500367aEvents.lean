/-
  The node's events: quit, request, answer, release.
-/
import Derived.Test.Qxb6500367aEnter
namespace Go.Proofs.Qxb6500367a
open Go.RowKit Go.Qx
set_option linter.unusedSimpArgs false
set_option linter.unusedVariables false

theorem Rep.gots {w : World} {x a b : Nat} {s : Nd} (r : Rep w x a b s) (i : Nat) (hi : i < s.n) : w.cell? ⟨b, i, none⟩ = some (.bool (s.got.getD i false)) := by
  have hl := r.gl
  rw [r.gb.cell i, List.getElem?_map, List.getD_eq_getElem?_getD, List.getElem?_eq_getElem (by omega)]; rfl

/-- The flags alone are turned. -/
theorem Rep.flags {w W : World} {x a b : Nat} {s : Nd} (r : Rep w x a b s) (g : List Bool) (hg : g.length = s.n) (hb : Blk W b 4 (g.map Value.bool)) (c : Chg (fun k => k = b) w W) : Rep W x a b { s with got := g } := by
  obtain ⟨sp, h1, h2⟩ := r.row
  exact ⟨c.blk r.blk (Ne.symm r.nb), ⟨sp, c.blk h1 r.nab, h2⟩, hb, r.na, r.nb, r.nab, r.n1, r.n4, r.il, r.ql, hg⟩

set_option maxRecDepth 100000 in
set_option maxHeartbeats 2000000 in
theorem answer_any (w : World) (x a b : Nat) (s : Nd) (r : Rep w x a b s) (hc0 : 0 ≤ s.clock) (hc1 : s.clock ≤ 1152921504606846976) (f : Nat) (hf : f < s.n) (t : Int) (h1 : 1 ≤ t) (h2 : t ≤ 1152921504606846976) (ha0 : 0 ≤ s.acks) (ha1 : s.acks ≤ 100) :
    Calls Try.prog 36 #[ptr x, .int .i64 f, .int .i64 t] w fun e w' => e = .returned (.int .i64 (ackP s f t).1) ∧ Chg (own x a b) w w' ∧ Rep w' x a b (ackP s f t).2 := by
  obtain ⟨c0, c1, c2, c3, c4, c5, c6, c7⟩ := r.cells
  have hgot := r.gots f hf
  have i0 : (0 : Int) ≤ (f : Int) := by omega
  have i1 : (f : Int) < (s.n : Int) := by omega
  have hfn : ((f : Int)).toNat = f := by omega
  have hn4 := r.n4
  by_cases g1 : s.phase = 1
  · have b1 : (s.phase == 1) = true := by simpa using g1
    cases g2 : s.got.getD f false with
    | true =>
      have hE : Hid (ackP s f t = (5, s)) := by show _ = _; unfold ackP; rw [if_pos g1, hfn, g2]; rfl
      rw [g2] at hgot
      clear g1 g2 hfn
      unfold ptr
      go_enter Try.func36, Try.ntmps36
      go_wp2
      go_ret
      rw [unhide hE]
      exact ⟨rfl, Chg.refl _ _, r⟩
    | false =>
      rw [g2] at hgot
      by_cases g3 : t ≤ s.mine
      · have hE : Hid (ackP s f t = (5, s)) := by show _ = _; unfold ackP; rw [if_pos g1, hfn, g2, if_pos g3]; rfl
        clear g1 g2 hfn
        unfold ptr
        go_enter Try.func36, Try.ntmps36
        go_wp2
        go_ret
        rw [unhide hE]
        exact ⟨rfl, Chg.refl _ _, r⟩
      · have hE : Hid (ackP s f t = (0, { s with clock := max s.clock t + 1, got := s.got.set f true, acks := s.acks + 1 })) := by show _ = _; unfold ackP; rw [if_pos g1, hfn, g2, if_neg g3]; rfl
        have g4 : s.mine < t := by omega
        clear g1 g2 hfn g3
        have hh := hear_any w x a b s r t hc0 hc1 h1 h2
        unfold ptr at *
        go_enter Try.func36, Try.ntmps36
        go_wp2_with fail
        refine hh.mono ?_
        rintro e w2 ⟨rfl, ch2, r2⟩
        clear hh
        obtain ⟨_, _, _, _, _, _, k6, k7⟩ := r2.cells
        have kf := r2.gots f hf
        have ff := r2.gb.frozen f
        have f7 := r2.blk.frozen 7
        have nbx := r2.nb
        have nxb := Ne.symm nbx
        have e7 : (hearP s t).acks = s.acks := rfl
        have en : (hearP s t).n = s.n := rfl
        rw [e7] at k7
        rw [en] at k6
        clear e7 en
        go_wp2
        go_ret
        rw [unhide hE]
        have r3 := r2.flags (W := w2.setCell ⟨b, f, none⟩ (.bool true)) (s.got.set f true) (by simp [r.gl, hearP]) (by rw [List.map_set]; exact r2.gb.set f _) (chg1 _ b f _)
        exact ⟨rfl, own_x (ch2.setCell (.inl (.inr (.inr rfl))) _) _ _, r3.upd _ 7 _ rfl rfl rfl rfl rfl⟩
  · have b1 : (s.phase == 1) = false := by simpa using g1
    have hE : Hid (ackP s f t = (5, s)) := by show _ = _; unfold ackP; rw [if_neg g1]
    clear g1 hfn
    unfold ptr
    go_enter Try.func36, Try.ntmps36
    go_wp2
    go_ret
    rw [unhide hE]
    exact ⟨rfl, Chg.refl _ _, r⟩

set_option maxRecDepth 100000 in
set_option maxHeartbeats 2000000 in
theorem release_any (w : World) (x a b : Nat) (s : Nd) (r : Rep w x a b s) (hc0 : 0 ≤ s.clock) (hc1 : s.clock ≤ 1152921504606846976) (f t : Int) (h1 : 1 ≤ t) (h2 : t ≤ 1152921504606846976) :
    Calls Try.prog 37 #[ptr x, .int .i64 f, .int .i64 t] w fun e w' => e = .returned (.int .i64 (relP s f t).1) ∧ Chg (own x a b) w w' ∧ Rep w' x a b (relP s f t).2 := by
  have hd := drop_any w x a b s r f
  cases hB : hasP s.q f with
  | true =>
    have hE : Hid (relP s f t = (0, { s with clock := max s.clock t + 1, q := dropP s.q f })) := by show _ = _; unfold relP; rw [if_pos hB]
    rw [hB] at hd
    clear hB
    go_enter Try.func37, Try.ntmps37
    go_wp2_with fail
    refine hd.mono ?_
    rintro e w2 ⟨rfl, ch2, r2⟩
    go_wp2_with fail
    refine (hear_any w2 x a b _ r2 t hc0 hc1 h1 h2).mono ?_
    rintro e w3 ⟨rfl, ch3, r3⟩
    go_wp2
    go_ret
    rw [unhide hE]
    exact ⟨rfl, ch2.trans ch3, r3⟩
  | false =>
    have hE : Hid (relP s f t = (5, s)) := by show _ = _; unfold relP; rw [hB]; rfl
    have hdn := dropP_none s.q f hB
    rw [hB, hdn] at hd
    clear hB hdn
    go_enter Try.func37, Try.ntmps37
    go_wp2_with fail
    refine hd.mono ?_
    rintro e w2 ⟨rfl, ch2, r2⟩
    go_wp2
    go_ret
    rw [unhide hE]
    exact ⟨rfl, ch2, r2⟩

set_option maxRecDepth 100000 in
set_option maxHeartbeats 2000000 in
theorem request_any (w : World) (x a b : Nat) (s : Nd) (r : Rep w x a b s) (hc0 : 0 ≤ s.clock) (hc1 : s.clock ≤ 1152921504606846976) (f t : Int) (h1 : 1 ≤ t) (h2 : t ≤ 1152921504606846976) (hroom : heldP s.q f = 0 → s.q.length < s.n) :
    Calls Try.prog 35 #[ptr x, .int .i64 f, .int .i64 t] w fun e w' => e = .returned (.int .i64 (reqP s f t).1) ∧ Chg (own x a b) w w' ∧ Rep w' x a b (reqP s f t).2 := by
  have hd := held_any w x a b s r f
  by_cases hB : heldP s.q f = 0
  · have hE : Hid (reqP s f t = (0, { s with clock := max s.clock t + 1 + 1, q := insP s.q (t, f) })) := by show _ = _; unfold reqP; rw [if_pos hB]
    rw [hB] at hd
    have hroom := hroom hB
    clear hB
    go_enter Try.func35, Try.ntmps35
    go_wp2_with fail
    refine hd.mono ?_
    rintro e w2 ⟨rfl, q2⟩
    have r2 := r.quiet q2
    go_wp2_with fail
    refine (hear_any w2 x a b _ r2 t hc0 hc1 h1 h2).mono ?_
    rintro e w3 ⟨rfl, ch3, r3⟩
    go_wp2_with fail
    refine (insert_any _ x a b _ (r3.alloc (.cells #[.int .i64 t, .int .i64 f] 91)) t f hroom).mono ?_
    rintro e w4 ⟨rfl, ch4, r4⟩
    have f2 := r4.blk.frozen 2
    obtain ⟨_, _, k2, _, _, _, _, _⟩ := r4.cells
    have hm1 : 0 ≤ max s.clock t + 1 := by omega
    have hm2 : max s.clock t + 1 ≤ 1152921504606846977 := by omega
    simp only [hearP] at k2
    unfold ptr
    generalize hM : max s.clock t + 1 = M at *
    have hMH := hide hM
    clear hM
    go_wp2
    go_ret
    rw [unhide hE]
    refine ⟨rfl, own_x ((((q2.chg _).trans ch3).alloc _).trans ch4) _ _, r4.upd _ 2 _ rfl rfl rfl rfl ?_⟩
    simp only [nodeCells, hearP]
    rfl
  · have hE : Hid (reqP s f t = (5, s)) := by show _ = _; unfold reqP; rw [if_neg hB]
    have b1 : (heldP s.q f == 0) = false := by simpa using hB
    clear hB hroom
    go_enter Try.func35, Try.ntmps35
    go_wp2_with fail
    refine hd.mono ?_
    rintro e w2 ⟨rfl, q2⟩
    go_wp2
    go_ret
    rw [unhide hE]
    exact ⟨rfl, q2.chg _, r.quiet q2⟩
end Go.Proofs.Qxb6500367a
