/-
  A router: far, best.
-/
import Derived.Test.Qxb6500364aPlain
namespace Go.Proofs.Qxb6500364a
open Go.RowKit Go.Qx
set_option linter.unusedVariables false
set_option linter.unusedSimpArgs false

def vecV (v : Nat → Int) : Value := .agg #[.int .i64 (v 0), .int .i64 (v 1), .int .i64 (v 2), .int .i64 (v 3), .int .i64 (v 4)]

theorem far_any (w : World) : Calls Try.prog 38 #[] w fun e w' => e = .returned (vecV fun _ => 16) ∧ Quiet w w' := by
  unfold vecV
  go_enter Try.func38, Try.ntmps38
  go_wp2
  refine bodyPost_ret (v := .agg #[.int .i64 16, .int .i64 16, .int .i64 16, .int .i64 16, .int .i64 16]) (results_blk (u := 55) (cs := [.int .i64 16, .int .i64 16, .int .i64 16, .int .i64 16, .int .i64 16]) Try.results38 rfl Try.isAgg55 Try.sizeOf55 ?_) rfl ⟨rfl, ?_⟩
  · exact Blk.new _ _ _
  · exact (Chg.refl _ _).alloc _

set_option maxRecDepth 100000 in
set_option maxHeartbeats 2000000 in
theorem best_any (w : World) (n s : Nat) (x : Nd) (hb : Blk w n 58 (ndC s x)) (o : NdOk x) (hs : s < 5) (d : Nat) (hd : d < 5) :
    Calls Try.prog 46 #[ptr n, .int .i64 d] w fun e w' => e = .returned (.tuple #[.int .i64 (bestP s x.c x.h d).1, .int .i64 (bestP s x.c x.h d).2]) ∧ Quiet w w' := by
  have c0 := cell_s hb
  unfold ptr
  by_cases hds : d = s
  · have e : Hid (bestP s x.c x.h d = (0, (s : Int))) := by show _ = _; simp [bestP, hds]
    rw [unhide e]
    clear e
    subst hds
    have b1 : ((d : Int) == (d : Int)) = true := by simp
    go_enter Try.func46, Try.ntmps46
    go_wp2
    go_big_quiet (fail)
    go_wp2
    go_ret2
    exact ⟨rfl, (Chg.refl _ _).drewN _⟩
  · have e : Hid (bestP s x.c x.h d = bestTo x.c (fun b => x.h b d) 5) := by show _ = _; simp [bestP, hds]
    have b1 : ((d : Int) == (s : Int)) = false := by simp; omega
    rw [unhide e]
    clear e hds
    have d0 : (0 : Int) ≤ (d : Int) := by omega
    have d1 : (d : Int) < 5 := by omega
    go_enter Try.func46, Try.ntmps46
    go_wp2
    go_loopw [6, 7, 20] (fun u v i wr => ∃ k : Nat, k ≤ 5 ∧ i = .int .i64 k ∧ u = .int .i64 (bestTo x.c (fun b => x.h b d) k).1 ∧ v = .int .i64 (bestTo x.c (fun b => x.h b d) k).2 ∧ Quiet w wr) (fun _ _ i _ => 6 - (intOf i).toNat)
    case atStart => exact ⟨0, by omega, rfl, rfl, rfl, Chg.refl _ _⟩
    case round =>
      obtain ⟨k, hk, rfl, rfl, rfl, q⟩ := hrel
      have bw := q.blk hb
      clear c0
      by_cases hlt : k < 5
      · have k0 : (0 : Int) ≤ (k : Int) := by omega
        have k1 : (k : Int) < 5 := by omega
        have rg := bestTo_range x.c (fun b => x.h b d) o.c (fun b hb' => o.h b d hb' hd) k (by omega)
        have a1 := cell_c bw k hlt
        have a2 := cell_h bw k d hlt hd
        obtain ⟨o1, o2⟩ := o.c k hlt
        obtain ⟨o3, o4⟩ := o.h k d hlt hd
        have hst : Hid (bestTo x.c (fun b => x.h b d) (k + 1) = if 0 < x.c k then (min (bestTo x.c (fun b => x.h b d) k).1 (min (x.c k + x.h k d) 16), if min (x.c k + x.h k d) 16 < (bestTo x.c (fun b => x.h b d) k).1 then (k : Int) else (bestTo x.c (fun b => x.h b d) k).2) else bestTo x.c (fun b => x.h b d) k) := rfl
        generalize bestTo x.c (fun b => x.h b d) k = B at *
        obtain ⟨B1, B2⟩ := B
        simp only at hst rg
        obtain ⟨⟨r1, r2⟩, r3, r4⟩ := rg
        have qH := hide q
        generalize x.c k = ck at *
        generalize x.h k d = hk' at *
        clear bw q
        by_cases hc : 0 < ck
        · go_wp2
          have wr1 : IntKind.i64.wrap (ck + hk') = ck + hk' := by rw [IntKind.wrap_i64]; omega
          go_region_held3 (fun w' => w'.cell? ⟨n, 1 + k, none⟩ = some (.int .i64 ck) ∧ w'.cell? ⟨n, 6 + k * 5 + d, none⟩ = some (.int .i64 hk')) (go_keep) (fail)
          rename_i hHeld
          clear hHeld
          go_wp2
          all_goals
            go_roundw
            case rel =>
              refine ⟨k + 1, by omega, by go_num, congrArg (Value.int .i64) ?_, congrArg (Value.int .i64) ?_, (unhide qH).drew⟩
              · rw [unhide hst, if_pos hc]; simp only; omega
              · rw [unhide hst, if_pos hc]; simp only; split <;> omega
            case measure => simp [intOf]; omega
        · go_wp2
          go_roundw
          case rel => exact ⟨k + 1, by omega, by go_num, by rw [unhide hst, if_neg hc], by rw [unhide hst, if_neg hc], unhide qH⟩
          case measure => simp [intOf]; omega
      · have k1 : ¬ (k : Int) < 5 := by omega
        obtain rfl : k = 5 := by omega
        have qH := hide q
        clear bw q
        go_wp2
        go_ret2
        exact ⟨rfl, unhide qH⟩
end Go.Proofs.Qxb6500364a
