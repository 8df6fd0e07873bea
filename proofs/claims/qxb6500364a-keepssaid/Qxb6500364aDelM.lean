/-
  THE ABSTRACT MESH: Deliver.
-/
import Derived.Test.Qxb6500364aRouteM
namespace Go.Proofs.Qxb6500364a
open Go.RowKit Go.Qx
set_option linter.unusedVariables false
set_option linter.unusedSimpArgs false

def lay5 (xs : List UInt8) : List Value := xs.map bv ++ List.replicate (5 - xs.length) (bv 0)

theorem lay5_set (xs : List UInt8) (c : UInt8) (d : Nat) (hl : xs.length = d) (h : d < 5) : (lay5 xs).set d (bv c) = lay5 (xs ++ [c]) := by
  subst hl
  unfold lay5
  rw [List.set_append_right _ _ (by simp), List.length_map, Nat.sub_self, show 5 - xs.length = (5 - (xs ++ [c]).length) + 1 by simp; omega, List.replicate_succ, List.set_cons_zero]
  simp

theorem made5b : madeCells (Value.int .u8 0).cells (5 * 1) = (lay5 []).toArray := by kernel_rfl

theorem make60b (W : World) : (Instr.makeSlice 60 (.int .i64 5) (.int .i64 5)).run Try.prog W = .ok (.slice (some ⟨W.heap.size, 0, none⟩) 5 5) (W.alloc (.cells (lay5 []).toArray 5)) := by
  obtain ⟨i, hi, hz0, hz1, hz2⟩ := info_parts info5
  have := run_make (P := Try.prog) W 60 5 i _ Try.underlying60 hi hz0 .i64 .i64 5 5 (by omega) (by omega) (by rw [hz2]; omega) (by omega)
  rw [hz1] at this
  rw [this]
  exact congrArg (fun x => Result.ok _ (W.alloc (.cells x 5))) made5b

set_option maxRecDepth 100000 in
set_option maxHeartbeats 2000000 in
theorem mdeliver_any (w : World) (m p q : Nat) (C : Nat → Nat → Int) (H : Nat → Nat → Nat → Int) (R : RepM w m p q C H) (I : Inv C H) (a b : Int) : Calls Try.prog 35 #[ptr m, .int .i64 a, .int .i64 b] w (repMPost w m p q (liveP C a b) C (delH C H a b)) := by
  have he := mlive_any w m p q C H R a b
  rcases live_cases C a b with ⟨i, j, rfl, rfl, hi, hj, hij, e0, hz, el⟩ | hne
  · rw [el] at he
    have e3 : Hid (delH C H i j = upd H j (upd (H j) i (vecP C H i))) := by show _ = _; simp [delH, el]
    rw [unhide e3, el]
    have hroute : Hid (∀ W, Quiet w W → ∀ d : Nat, d < 5 → Calls Try.prog 36 #[.pointer (some ⟨m, 0, none⟩), .int .i64 i, .int .i64 d] W fun e w' => e = .returned (.tuple #[.int .i64 (bestP i (C i) (H i) d).1, .int .i64 (bestP i (C i) (H i) d).2, .int .i64 0]) ∧ Quiet W w') := by
      intro W qq d hd
      have h1 := mroute_any W m p q C H (R.quiet qq) I i d
      rw [show routeP C H i d = ((bestP i (C i) (H i) d).1, (bestP i (C i) (H i) d).2, 0) by unfold routeP; rw [if_pos (by simp [nodesP]; omega)]; rfl] at h1
      exact h1
    have hgl : Hid (∀ W (d : Nat), d < 5 → Calls Try.prog 23 #[.int .i64 (bestP i (C i) (H i) d).1] W fun e w' => e = .returned (.int .u8 (gl (vecP C H i d)).toNat) ∧ w' = W) := by
      intro W d hd
      have h1 : 0 ≤ (bestP i (C i) (H i) d).1 ∧ (bestP i (C i) (H i) d).1 ≤ 16 := ((I.ok i hi).best i hi d hd).1
      exact glyph_any W _ (by omega) h1.2
    have hm := make60b
    generalize hL : (lay5 []).toArray = L0 at hm
    have hLH := hide hL
    have RH := hide R
    have hown : Hid (∀ k, ownM m p q k → k < w.heap.size) := R.lts
    clear hL R I e0 hz el e3
    have i0 : (0 : Int) ≤ (i : Int) := by omega
    have i1 : (i : Int) < 5 := by omega
    have j0 : (0 : Int) ≤ (j : Int) := by omega
    have j1 : (j : Int) < 5 := by omega
    unfold repMPost ptr at *
    go_enter Try.func35, Try.ntmps35
    go_wp2_with fail
    refine he.mono ?_
    rintro e w' ⟨rfl, rfl⟩
    go_wp2
    have bV : Hid (Blk (w'.alloc (.cells L0 5)) w'.heap.size 5 (lay5 [])) := by
      rw [← unhide hLH]
      exact Blk.new w' 5 (lay5 [])
    have q0 : Hid (Quiet w' (w'.alloc (.cells L0 5))) := (Chg.refl _ _).alloc _
    generalize w'.alloc (.cells L0 5) = W0 at *
    generalize hB : w'.heap.size = V at *
    have hVH := hide hB
    clear hB
    go_loopw [9] (fun k wr => ∃ d : Nat, d ≤ 5 ∧ k = .int .i64 d ∧ Quiet w' wr ∧ Blk wr V 5 (lay5 (earTo (vecP C H i) d))) (fun k _ => 6 - (intOf k).toNat)
    case atStart => exact ⟨0, by omega, rfl, unhide q0, unhide bV⟩
    case round =>
      obtain ⟨d, hd, rfl, qq, bb⟩ := hrel
      clear bV q0
      by_cases hlt : d < 5
      · have d0 : (0 : Int) ≤ (d : Int) := by omega
        have d1 : (d : Int) < 5 := by omega
        have hc1 := hide (unhide hroute _ qq d hlt)
        have hc2 : Hid (∀ W, Calls Try.prog 23 #[.int .i64 (bestP i (C i) (H i) d).1] W fun e w' => e = .returned (.int .u8 (gl (vecP C H i d)).toNat) ∧ w' = W) := fun W => unhide hgl W d hlt
        have hlen : (earTo (vecP C H i) d).length = d := earTo_length _ d
        have fin : Hid (∀ W, Quiet wr W → (∃ u, W.cell? ⟨V, d, none⟩ = some u) ∧ W.frozen? ⟨V, d, none⟩ = false ∧ Quiet w' (W.setCell ⟨V, d, none⟩ (.int .u8 (gl (vecP C H i d)).toNat)) ∧ Blk (W.setCell ⟨V, d, none⟩ (.int .u8 (gl (vecP C H i d)).toNat)) V 5 (lay5 (earTo (vecP C H i) (d + 1)))) := by
          intro W q2
          have b2 := q2.blk bb
          refine ⟨⟨_, (b2.cell d).trans (List.getElem?_eq_getElem (by unfold lay5; simp [hlen]; omega))⟩, b2.frozen d, (Quiet.trans qq q2).setCell (p := ⟨V, d, none⟩) (.inr (Nat.le_of_eq (unhide hVH))) _, ?_⟩
          have h1 := b2.set d (bv (gl (vecP C H i d)))
          rw [lay5_set _ _ d hlen hlt] at h1
          exact h1
        generalize (bestP i (C i) (H i) d).1 = B1 at *
        generalize (bestP i (C i) (H i) d).2 = B2 at *
        generalize gl (vecP C H i d) = G at *
        clear qq bb hlen
        go_wp2_with fail
        refine (unhide hc1).mono ?_
        rintro e w2 ⟨rfl, q2⟩
        obtain ⟨⟨u, hu⟩, hf, y1, y2⟩ := unhide fin w2 q2
        have y1H := hide y1
        have y2H := hide y2
        clear y1 y2 fin hc1 q2
        go_wp2_with fail
        refine (unhide hc2 _).mono ?_
        rintro e w3 ⟨rfl, rfl⟩
        go_wp2
        go_roundw
        case rel => exact ⟨d + 1, by omega, by go_num, unhide y1H, unhide y2H⟩
        case measure => simp [intOf]; omega
      · have d1 : ¬ (d : Int) < 5 := by omega
        obtain rfl : d = 5 := by omega
        have R2 := (unhide RH).quiet qq
        have c1 := R2.blk.cell 1
        simp at c1
        have ch2 : wr.cell? ⟨q, j * 5 + i, none⟩ = some (.string (ear (H j i))) := (R2.hb.cell _).trans (grid_get sv H j i hj hi)
        have fh := R2.hb.frozen (j * 5 + i)
        have mq := R2.mq
        have qm := Ne.symm mq
        have jx1 : (0 : Int) ≤ (j : Int) * 5 + (i : Int) := by omega
        have jx2 : (j : Int) * 5 + (i : Int) < 25 := by omega
        have wr3 : IntKind.i64.wrap ((j : Int) * 5) = (j : Int) * 5 := by rw [IntKind.wrap_i64]; omega
        have wr4 : IntKind.i64.wrap ((j : Int) * 5 + (i : Int)) = (j : Int) * 5 + (i : Int) := by rw [IntKind.wrap_i64]; omega
        have tn2 : ((j : Int) * 5 + (i : Int)).toNat = j * 5 + i := by omega
        have hcs : (convert 60 9 (.slice (some ⟨V, 0, none⟩) 5 5)).run Try.prog wr.drew = .ok (.string (ear (vecP C H i))) wr.drew := by
          refine run_str_of_cells (P := Try.prog) wr.drew 60 5 Try.underlying60 Try.underlying5 V 0 5 5 (earTo (vecP C H i) 5) (earTo_length _ 5) ?_ 9 Try.underlying9
          intro k hk
          rw [Nat.zero_add, bb.drew.cell k]
          unfold lay5
          rw [List.getElem?_append_left (by simp [earTo_length]; omega), List.getElem?_map]
        have fin : Hid (Chg (ownM m p q) w' (wr.setCell ⟨q, j * 5 + i, none⟩ (.string (ear (vecP C H i)))) ∧ RepM (wr.setCell ⟨q, j * 5 + i, none⟩ (.string (ear (vecP C H i)))) m p q C (upd H j (upd (H j) i (vecP C H i)))) := by
          refine ⟨(qq.chg (ownM m p q)).setCell (p := ⟨q, j * 5 + i, none⟩) (.inl (.inr (.inr rfl))) _, R2.blk.set_other (a := ⟨q, j * 5 + i, none⟩) mq _, R2.cb.set_other (a := ⟨q, j * 5 + i, none⟩) R2.pq _, ?_, R2.mp, R2.mq, R2.pq⟩
          have h1 := R2.hb.set (j * 5 + i) (sv (vecP C H i))
          rw [grid_set sv H j i hj hi] at h1
          exact h1
        generalize ear (vecP C H i) = ev at *
        clear R2 qq bb
        go_wp2
        go_region
        obtain ⟨y1, y2⟩ := unhide fin
        have yH := hide (And.intro y1.drew (y2.quiet ((Chg.refl _ _).drew)))
        clear y1 y2 fin hcs
        go_wp2
        go_ret
        exact ⟨rfl, (unhide yH).1, (unhide yH).2⟩
  · have e3 : Hid (delH C H a b = H) := by show _ = _; simp [delH, hne]
    rw [unhide e3]
    unfold repMPost ptr at *
    have z1 : (liveP C a b != 0) = true := by simpa using hne
    have RH := hide R
    clear e3 hne R
    generalize liveP C a b = E at *
    go_enter Try.func35, Try.ntmps35
    go_wp2_with fail
    refine he.mono ?_
    rintro e w' ⟨rfl, rfl⟩
    go_wp2
    go_ret
    exact ⟨rfl, Chg.refl _ _, unhide RH⟩
end Go.Proofs.Qxb6500364a
