/-
  Check of the real ring: it answers true.
-/
import Derived.Test.Qxb6500363aLoad
import Derived.Test.Qxb6500363aFit
namespace Go.Proofs.Qxb6500363a
open Go.RowKit Go.Qx
set_option linter.unusedSimpArgs false
set_option linter.unusedVariables false

/-- The scratch ring. -/
def SC (w wx : World) (cv : Value) (k : Int) (n : Nat) : Prop := ∃ cr ca cb, cv = .pointer (some ⟨cr, 0, none⟩) ∧ w.heap.size ≤ cr ∧ w.heap.size ≤ ca ∧ w.heap.size ≤ cb ∧ RepR wx cr ca cb k (List.replicate n 0) (List.replicate n false) ∧ Quiet w wx

theorem sc1 (w : World) (k : Int) (n : Nat) : SC w (((w.alloc (.cells (Array.replicate n (Value.int .i64 0)) 3)).alloc (.cells (Array.replicate n (Value.bool false)) 4)).alloc (.cells #[.int .i64 k, .slice (some ⟨w.heap.size, 0, none⟩) n n, .slice (some ⟨w.heap.size + 1, 0, none⟩) n n, .int .i64 0, .int .i64 0] 51)).drew (.pointer (some ⟨w.heap.size + 1 + 1, 0, none⟩)) k n := by
  have e1 : Array.replicate n (Value.int .i64 0) = (ints (List.replicate n 0)).toArray := by simp [ints]
  have e2 : Array.replicate n (Value.bool false) = (bools (List.replicate n false)).toArray := by simp [bools]
  rw [e1, e2]
  refine ⟨w.heap.size + 1 + 1, w.heap.size, w.heap.size + 1, rfl, by omega, by omega, by omega, ⟨?_, (((Blk.new _ _ _).alloc _).alloc _).drew, ((Blk.at_new (by simp)).alloc _).drew, by omega, by omega, by omega, by simp⟩, ((((Chg.refl _ _).alloc _).alloc _).alloc _).drew⟩
  rw [List.length_replicate, cnt_none, wsum_none]
  exact (Blk.at_new (by simp)).drew

theorem sc2 (w : World) (k : Int) (n : Nat) : SC w (((w.alloc (.cells (Array.replicate n (Value.bool false)) 4)).alloc (.cells (Array.replicate n (Value.int .i64 0)) 3)).alloc (.cells #[.int .i64 k, .slice (some ⟨w.heap.size + 1, 0, none⟩) n n, .slice (some ⟨w.heap.size, 0, none⟩) n n, .int .i64 0, .int .i64 0] 51)).drew (.pointer (some ⟨w.heap.size + 1 + 1, 0, none⟩)) k n := by
  have e1 : Array.replicate n (Value.int .i64 0) = (ints (List.replicate n 0)).toArray := by simp [ints]
  have e2 : Array.replicate n (Value.bool false) = (bools (List.replicate n false)).toArray := by simp [bools]
  rw [e1, e2]
  refine ⟨w.heap.size + 1 + 1, w.heap.size + 1, w.heap.size, rfl, by omega, by omega, by omega, ⟨?_, ((Blk.at_new (by simp)).alloc _).drew, (((Blk.new _ _ _).alloc _).alloc _).drew, by omega, by omega, by omega, by simp⟩, ((((Chg.refl _ _).alloc _).alloc _).alloc _).drew⟩
  rw [List.length_replicate, cnt_none, wsum_none]
  exact (Blk.at_new (by simp)).drew

theorem ints_one (xs : List Int) : ∀ v ∈ ints xs, v.oneCell' = true := by
  intro v hv; simp [ints] at hv; obtain ⟨_, _, rfl⟩ := hv; rfl

theorem over_all (xs ys : List Value) (h : ys.length = xs.length) : over ys 0 xs = xs := by
  have := over_mid xs [] ys [] h
  simpa using this

theorem RepR.filled {w : World} {r a b : Nat} {k : Int} {n : Nat} {hs : List Bool} (R : RepR w r a b k (List.replicate n 0) hs) (xs : List Int) (hl : xs.length = n) : RepR (w.setCells a 0 (ints xs)) r a b k xs hs := by
  subst hl
  have hb := R.blk
  rw [List.length_replicate] at hb
  refine ⟨Blk.setCells_other (Ne.symm R.ra) _ _ hb, ?_, Blk.setCells_other (Ne.symm R.ab) _ _ R.hb, R.ra, R.rb, R.ab, by rw [R.hl, List.length_replicate]⟩
  have := Blk.setCells (ints xs) 0 R.xb
  rw [over_all _ _ (by simp [ints])] at this
  exact this

theorem size3 : (Try.prog.info? 3).map (·.size) = some 1 := by kernel_rfl

set_option maxRecDepth 100000 in
set_option maxHeartbeats 8000000 in
theorem checkR_any (w : World) (r a b : Nat) (k : Int) (xs : List Int) (R : RepR w r a b k xs (hots xs)) (o : Ok k xs) : Calls Try.prog 27 #[ptr r] w fun e w' => e = .returned (.bool true) ∧ Quiet w w' := by
  obtain ⟨c0, c1, c2, c3, c4⟩ := R.cells
  have hft := fit_any w xs.length k
  rw [fitP_true o] at hft
  have n6 := o.n6
  have n2 := o.n2
  have k8 := o.k8
  have hlt := R.blk.lt
  have m1 := fun W => make27 W xs.length n6
  have m2 := fun W => make49 W xs.length n6
  have nr0 : w.heap.size ≠ r := by omega
  have nr1 : w.heap.size + 1 ≠ r := by omega
  have hd0 := fun (o : Obj) => (R.quiet ((Chg.refl _ w).alloc o)).cells.1
  have hd1 := fun (o o' : Obj) => (R.quiet (((Chg.refl _ w).alloc o).alloc o')).cells.1
  unfold ptr at *
  go_enter Try.func27, Try.ntmps27
  go_wp2_with fail
  refine hft.mono ?_
  rintro e w1 ⟨rfl, rfl⟩
  go_wp2
  go_cut [5] (fun cv wx => SC w1 wx cv k xs.length)
  case first =>
    go_region_law (fail)
    all_goals
      go_wp2
      go_meet
      case rel => first | with_reducible exact sc1 w1 k xs.length | with_reducible exact sc2 w1 k xs.length
  case rest =>
    obtain ⟨cr, ca, cb, rfl, hcr, hca, hcb, Rc, qc⟩ := hcut
    clear hd0 hd1 c0 c1 c2 c3 c4
    have R1 := R.quiet qc
    obtain ⟨c0, c1, c2, c3, c4⟩ := R1.cells
    obtain ⟨e0, e1, e2, e3, e4⟩ := Rc.cells
    rw [List.length_replicate] at e1 e2
    have hil : (ints xs).length = xs.length := by simp [ints]
    have hcp := run_copy_cells (P := Try.prog) wc.drew 27 27 3 3 ca 0 xs.length xs.length ⟨a, 0, none⟩ xs.length xs.length (ints xs) Try.underlying27 size3 (by rw [hil]; exact (Nat.min_self _).symm)
      (fun j v hj => by rw [Addr.add_lit, R1.xb.drew.cell, Nat.zero_add]; exact hj) (fun j hj => by rw [Rc.xb.drew.cell, List.getElem?_eq_getElem (by rw [hil] at hj; simp [ints]; omega)]; rfl) (fun j _ => Rc.xb.drew.frozen _) (ints_one xs)
    rw [hil] at hcp
    clear hil
    go_wp2
    go_region_law (fail)
    all_goals
      have R2 := (Rc.quiet ((Chg.refl _ wc).drew)).filled xs rfl
      have q2 : Quiet w1 (wc.drew.setCells ca 0 (ints xs)) := Chg.setCells (.inr hca) _ _ (qc.drew)
      generalize wc.drew.setCells ca 0 (ints xs) = V at R2 q2 ⊢
      have hphl := hide (hots_length xs)
      have hph0 : partH (hots xs) 0 = List.replicate xs.length false := by unfold partH; rw [unhide hphl]; simp
      rw [← hph0] at R2
      clear hph0 hcp c0 c1 c2 c3 c4 e0 e1 e2 e3 e4 Rc R1
      go_wp2
      go_loopw [49] (fun i wr => ∃ j : Nat, j ≤ xs.length ∧ i = .int .i64 j ∧ RepR wr cr ca cb k xs (partH (hots xs) j) ∧ Quiet w1 wr) (fun i _ => 7 - (intOf i).toNat)
      case atStart => exact ⟨0, Nat.zero_le _, rfl, R2, q2⟩
      case round =>
        clear R2 q2
        obtain ⟨j, hj, rfl, Rj, qj⟩ := hrel
        have i0 : (0 : Int) ≤ (j : Int) := by omega
        by_cases hlt2 : j < xs.length
        · have i1 : (j : Int) < (xs.length : Int) := by omega
          have ht := touch_any _ cr ca cb k xs _ Rj n6 j hlt2
          rw [partH_set (hots xs) j (by rw [unhide hphl]; exact hlt2) (priv xs j) (hots_get xs j hlt2)] at ht
          unfold ptr at ht
          have htH := hide ht
          clear ht
          go_wp2_with fail
          refine (unhide htH).mono ?_
          rintro e w2 ⟨rfl, ch2, R2⟩
          have q2 : Quiet w1 w2 := Chg.trans' qj ch2 (by rintro i hi (h | h | h) <;> omega)
          have R3 := R.quiet q2
          obtain ⟨d0, d1, d2, d3, d4⟩ := R3.cells
          obtain ⟨e0, e1, e2, e3, e4⟩ := R2.cells
          have hh := R3.h j hlt2
          have hx := R3.x j hlt2
          have hh2 := R2.h j hlt2
          have eh : (hots xs).getD j false = priv xs j := by rw [List.getD_eq_getElem?_getD, hots_get _ _ hlt2]; rfl
          have eh2 : (partH (hots xs) (j + 1)).getD j false = priv xs j := by
            unfold partH
            rw [List.getD_eq_getElem?_getD, List.getElem?_append_left (by rw [List.length_take, unhide hphl]; omega), List.getElem?_take, if_pos (by omega), hots_get _ _ hlt2]; rfl
          rw [eh] at hh
          rw [eh2] at hh2
          clear eh eh2
          have hv := o.get j hlt2
          generalize xs.getD j 0 = xv at *
          obtain ⟨v0, v1⟩ := hv
          generalize priv xs j = pv at *
          have hpp : (pv == pv) = true := by simp
          go_wp2
          go_big_quiet (fail)
          go_wp2
          go_roundw
          case rel => exact ⟨j + 1, by omega, by go_num, R2.quiet ((Chg.refl _ _).drewN _), q2.drewN _⟩
          case measure => simp [intOf]; omega
        · have i1 : ¬ (j : Int) < (xs.length : Int) := by omega
          have hpj : partH (hots xs) j = hots xs := by unfold partH; rw [unhide hphl, show xs.length - j = 0 by omega, List.take_of_length_le (by rw [unhide hphl]; omega)]; simp
          rw [hpj] at Rj
          clear hpj
          have R3 := R.quiet qj
          obtain ⟨d0, d1, d2, d3, d4⟩ := R3.cells
          obtain ⟨e0, e1, e2, e3, e4⟩ := Rj.cells
          generalize cnt (hots xs) = ct at *
          generalize wsum xs.length (hots xs) 0 = ws at *
          have h1 : (ct == ct) = true := by simp
          have h2 : (ws == ws) = true := by simp
          go_wp2
          go_big_quiet (fail)
          go_wp2
          go_ret
          exact ⟨rfl, qj.drewN _⟩
end Go.Proofs.Qxb6500363a
