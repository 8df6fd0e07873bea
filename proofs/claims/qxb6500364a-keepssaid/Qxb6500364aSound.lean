/-
  THE REAL MESH: sound.
-/
import Derived.Test.Qxb6500364aHear
namespace Go.Proofs.Qxb6500364a
open Go.RowKit Go.Qx
set_option linter.unusedVariables false
set_option linter.unusedSimpArgs false

theorem vec_index (v : Nat → Int) (k : Nat) (hk : k < 5) (W : World) : (Instr.index 55 (.agg #[.int .i64 (v 0), .int .i64 (v 1), .int .i64 (v 2), .int .i64 (v 3), .int .i64 (v 4)]) (.int .i64 k)).run Try.prog W = .ok (.int .i64 (v k)) W :=
  run_index_agg (P := Try.prog) W 55 3 5 Try.underlying55 Try.sizeOf3 Try.isAgg3 _ k hk _ (by have := vecC_get v k hk; simpa [vecC] using this)

set_option maxRecDepth 100000 in
set_option maxHeartbeats 2000000 in
theorem sound_any (w : World) (n s : Nat) (c : Nat → Int) (h : Nat → Nat → Int) (hb : Blk w n 58 (ndC s (mended s c h))) (o : NdOk (mended s c h)) (hs : s < 5) (hdg : c s = 0) (b : Nat) (hb5 : b < 5) (hfar : c b = 0 → ∀ d, d < 5 → h b d = 16) :
    Calls Try.prog 44 #[ptr n, .int .i64 b] w fun e w' => e = .returned (.bool true) ∧ Quiet w w' := by
  have b0 : (0 : Int) ≤ (b : Int) := by omega
  have b1 : (b : Int) < 5 := by omega
  have c0 := cell_s hb
  have c1 : w.cell? ⟨n, 1 + b, none⟩ = some (.int .i64 (c b)) := cell_c hb b hb5
  obtain ⟨o1, o2⟩ : 0 ≤ c b ∧ c b ≤ 16 := o.c b hb5
  have z0 : w.cell? ⟨n, 6 + b * 5, none⟩ = some (.int .i64 (h b 0)) := cell_h hb b 0 hb5 (by omega)
  have z1 : w.cell? ⟨n, 6 + b * 5 + 1, none⟩ = some (.int .i64 (h b 1)) := cell_h hb b 1 hb5 (by omega)
  have z2 : w.cell? ⟨n, 6 + b * 5 + 2, none⟩ = some (.int .i64 (h b 2)) := cell_h hb b 2 hb5 (by omega)
  have z3 : w.cell? ⟨n, 6 + b * 5 + 3, none⟩ = some (.int .i64 (h b 3)) := cell_h hb b 3 hb5 (by omega)
  have z4 : w.cell? ⟨n, 6 + b * 5 + 4, none⟩ = some (.int .i64 (h b 4)) := cell_h hb b 4 hb5 (by omega)
  have p1 : ¬ c b < 0 := by omega
  have p2 : ¬ 16 < c b := by omega
  have hcs : Hid (b = s → c b = 0) := fun e => by rw [e]; exact hdg
  have hbest : Hid (∀ W, Quiet w W → Calls Try.prog 46 #[.pointer (some ⟨n, 0, none⟩), .int .i64 b] W fun e w' => e = .returned (.tuple #[.int .i64 (bestP s c h b).1, .int .i64 (bestP s c h b).2]) ∧ Quiet W w') := fun W q => best_any W n s _ (q.blk hb) o hs b hb5
  have hrng : Hid (∀ d, d < 5 → 0 ≤ h b d ∧ h b d ≤ 16) := fun d hd => o.h b d hb5 hd
  have hidx : Hid (∀ k : Nat, k < 5 → ∀ W, (Instr.index 55 (.agg #[.int .i64 (h b 0), .int .i64 (h b 1), .int .i64 (h b 2), .int .i64 (h b 3), .int .i64 (h b 4)]) (.int .i64 k)).run Try.prog W = .ok (.int .i64 (h b k)) W) := fun k hk W => vec_index (h b) k hk W
  have hbH := hide hb
  have hfH := hide hfar
  clear hb hfar hdg o
  unfold ptr
  have after : Hid (∀ B1 B2 : Int, bestP s c h b = (B1, B2) → w.cell? ⟨n, 31 + b, none⟩ = some (.int .i64 B1) ∧ w.cell? ⟨n, 36 + b, none⟩ = some (.int .i64 B2)) := by
    intro B1 B2 e
    have h1 : w.cell? ⟨n, 31 + b, none⟩ = some (.int .i64 (bestP s c h b).1) := cell_d (unhide hbH) b hb5
    have h2 : w.cell? ⟨n, 36 + b, none⟩ = some (.int .i64 (bestP s c h b).2) := cell_p (unhide hbH) b hb5
    rw [e] at h1 h2
    exact ⟨h1, h2⟩
  by_cases e : b = s
  case' pos =>
    have e1 : ((b : Int) == (s : Int)) = true := by rw [e]; simp
    have e2 : c b = 0 := unhide hcs e
    have e3 : (c b != 0) = false := by simp [e2]
  case' neg =>
    have e1 : ((b : Int) == (s : Int)) = false := by simp; omega
  all_goals
    clear hcs e
    go_enter Try.func44, Try.ntmps44
    go_wp2
    go_loopw [41] (fun i wr => ∃ k : Nat, k ≤ 5 ∧ i = .int .i64 k ∧ wr = w) (fun i _ => 6 - (intOf i).toNat)
    case atStart => exact ⟨0, by omega, rfl, rfl⟩
    case round =>
      obtain ⟨k, hk, rfl, rfl⟩ := hrel
      by_cases hlt : k < 5
      · have k0 : (0 : Int) ≤ (k : Int) := by omega
        have k1 : (k : Int) < 5 := by omega
        have hix := unhide hidx k hlt
        obtain ⟨r1, r2⟩ := unhide hrng k hlt
        have r1' : ¬ h b k < 0 := by omega
        have r2' : ¬ 16 < h b k := by omega
        go_wp2
        go_roundw
        case rel => first | exact ⟨k + 1, by omega, by go_num, rfl⟩ | exact ⟨k + 1, by omega, by go_num, trivial⟩ | exact ⟨k + 1, by omega, by go_num⟩
        case measure => simp [intOf]; omega
      · have k1 : ¬ (k : Int) < 5 := by omega
        have hfr := far_any wr
        unfold vecV at hfr
        clear hidx hrng hk hlt
        go_wp2_with fail
        refine hfr.mono ?_
        rintro e w2 ⟨rfl, q2⟩
        clear hfr
        have hb2 := unhide hbest _ (Quiet.trans q2 ((Chg.refl _ _).alloc (.cells #[.int .i64 16, .int .i64 16, .int .i64 16, .int .i64 16, .int .i64 16] 55)))
        have bv := Blk.new w2 55 [.int .i64 16, .int .i64 16, .int .i64 16, .int .i64 16, .int .i64 16]
        have q3 : Quiet wr (w2.alloc (.cells #[.int .i64 16, .int .i64 16, .int .i64 16, .int .i64 16, .int .i64 16] 55)) := Quiet.trans q2 ((Chg.refl _ _).alloc _)
        have aft := unhide after
        generalize hB : bestP s c h b = B at *
        obtain ⟨B1, B2⟩ := B
        simp only at hb2
        obtain ⟨u1, u2⟩ := aft B1 B2 rfl
        clear hB aft after hbest
        go_wp2_with fail
        refine hb2.mono ?_
        rintro e w4 ⟨rfl, q4⟩
        have qq := Quiet.trans q3 q4
        have bv4 := q4.blk bv
        have y1 := Quiet.cell qq c1
        have y2 := Quiet.cell qq u1
        have y3 := Quiet.cell qq u2
        have x0 := Quiet.cell qq z0
        have x1 := Quiet.cell qq z1
        have x2 := Quiet.cell qq z2
        have x3 := Quiet.cell qq z3
        have x4 := Quiet.cell qq z4
        have f0 := bv4.cell 0
        have f1 := bv4.cell 1
        have f2 := bv4.cell 2
        have f3 := bv4.cell 3
        have f4 := bv4.cell 4
        simp at f0 f1 f2 f3 f4
        have qH := hide qq
        have s1 : (B1 == B1) = true := by simp
        have s2 : (B2 == B2) = true := by simp
        clear hb2 q2 q3 q4 qq bv bv4 c0 c1 u1 u2 z0 z1 z2 z3 z4 hbH k1
        generalize w2.heap.size = V at *
        by_cases hc0 : c b = 0
        · obtain g := unhide hfH hc0
          have g0 := g 0 (by omega)
          have g1 := g 1 (by omega)
          have g2 := g 2 (by omega)
          have g3 := g 3 (by omega)
          have g4 := g 4 (by omega)
          rw [g0] at x0
          rw [g1] at x1
          rw [g2] at x2
          rw [g3] at x3
          rw [g4] at x4
          have heq := fun W => eq5 W 16 16 16 16 16 16 16 16 16 16
          simp only [beq_self_eq_true, Bool.and_self] at heq
          have gg : ¬ 0 < c b := by omega
          have gg' : decide (0 < c b) = false := decide_eq_false gg
          clear g g0 g1 g2 g3 g4 hfH
          go_wp2
          go_region_held3 (fun w' => w'.cell? ⟨n, 31 + b, none⟩ = some (.int .i64 B1) ∧ w'.cell? ⟨n, 36 + b, none⟩ = some (.int .i64 B2) ∧ w'.cell? ⟨n, 6 + b * 5, none⟩ = some (.int .i64 16) ∧ w'.cell? ⟨n, 6 + b * 5 + 1, none⟩ = some (.int .i64 16) ∧ w'.cell? ⟨n, 6 + b * 5 + 2, none⟩ = some (.int .i64 16) ∧ w'.cell? ⟨n, 6 + b * 5 + 3, none⟩ = some (.int .i64 16) ∧ w'.cell? ⟨n, 6 + b * 5 + 4, none⟩ = some (.int .i64 16) ∧ w'.cell? ⟨V, 0, none⟩ = some (.int .i64 16) ∧ w'.cell? ⟨V, 1, none⟩ = some (.int .i64 16) ∧ w'.cell? ⟨V, 2, none⟩ = some (.int .i64 16) ∧ w'.cell? ⟨V, 3, none⟩ = some (.int .i64 16) ∧ w'.cell? ⟨V, 4, none⟩ = some (.int .i64 16)) (go_keep) (fail)
          go_wp2
          go_ret
          exact ⟨rfl, (unhide qH).drew⟩
        · try exact absurd e2 hc0
          all_goals
            have gg : 0 < c b := by omega
            have gg' : decide (0 < c b) = true := decide_eq_true gg
            go_wp2
            go_big_quiet (fail)
            go_wp2
            go_ret
            exact ⟨rfl, Chg.drewN (unhide qH) _⟩
end Go.Proofs.Qxb6500364a
