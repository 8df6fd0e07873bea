/-
  THE LAW's SMALL FUNCTIONS, fifth part: OwedDft. (gen2keepE.py)
-/
import Derived.Test.Qxb6500362aKeepD
namespace Go.Proofs.Qxb6500362a
open Go.RowKit Go.Qx
set_option linter.unusedVariables false
set_option linter.unusedSimpArgs false

theorem eval_big (re im : Nat → Int) (dir : Int) (hd : dir = 0 ∨ dir = 1) (k : Nat) (hk : k < 4) : evalP re im (pxF k) (pyF k * (1 - 2 * dir)) = ((bigX re im dir k).1, (bigX re im dir k).2, 0) := by
  have hin : inP (pxF k) (pyF k * (1 - 2 * dir)) 32 = true := by
    rcases hd with rfl | rfl <;> rcases (by omega : k = 0 ∨ k = 1 ∨ k = 2 ∨ k = 3) with rfl | rfl | rfl | rfl <;> decide
  unfold evalP
  rw [if_pos hin]
  have h : horn re im (pxF k) (pyF k * (1 - 2 * dir)) 4 = bigX re im dir k := by
    rcases hd with rfl | rfl <;> rcases (by omega : k = 0 ∨ k = 1 ∨ k = 2 ∨ k = 3) with rfl | rfl | rfl | rfl <;>
      simp [horn, bigX, sumP, powP, cm, rootP, uR, uI, pxF, pyF] <;> omega
  rw [h]

theorem whole_of {n m : Int} : wholeP n m = true ↔ n.tmod 4 = 0 ∧ m.tmod 4 = 0 := by
  have h1 := Int.mul_tdiv_add_tmod n 4
  have h2 := Int.mul_tdiv_add_tmod m 4
  simp only [wholeP, decide_eq_true_eq]
  omega

theorem bigX_bound {re im : Nat → Int} (I : Inv re im) (dir : Int) (k : Nat) : (bigX re im dir k).1.natAbs ≤ 268435456 ∧ (bigX re im dir k).2.natAbs ≤ 268435456 := sum_bound I (isU_pow (isU_root dir) k) 4 (by omega)

theorem bad_one {re im : Nat → Int} (I : Inv re im) (k : Nat) : badX re im 1 k = if (bigX re im 1 k).1.tmod 4 = 0 ∧ (bigX re im 1 k).2.tmod 4 = 0 then 0 else 4 := by
  have hb := bigX_bound I 1 k
  unfold badX
  by_cases h : wholeP (bigX re im 1 k).1 (bigX re im 1 k).2 = true
  · have h2 := whole_of.1 h
    rw [if_neg (by simp [h]), if_pos h2]
    have h3 : inP (valX re im 1 k).1 (valX re im 1 k).2 67108864 = true := by
      obtain ⟨v1, v2⟩ := whole4 _ _ h
      simp only [valX, if_true, inP, decide_eq_true_eq]
      omega
    rw [if_neg (by simp [h3])]
  · have h2 : wholeP (bigX re im 1 k).1 (bigX re im 1 k).2 = false := by simpa using h
    rw [if_pos ⟨rfl, h2⟩, if_neg (fun h3 => h (whole_of.2 h3))]

theorem bad_zero (re im : Nat → Int) (k : Nat) : badX re im 0 k = if inP (bigX re im 0 k).1 (bigX re im 0 k).2 67108864 = true then 0 else 2 := by
  unfold badX
  rw [if_neg (fun h => by have := h.1; omega)]
  have ev : valX re im 0 k = bigX re im 0 k := by simp [valX]
  rw [ev]
  cases inP (bigX re im 0 k).1 (bigX re im 0 k).2 67108864 <;> rfl

set_option maxRecDepth 100000 in
set_option maxHeartbeats 4000000 in
theorem owedDft_any (w : World) (y u : Nat) (re im : Nat → Int) (R : Rep w y u re im) (I : Inv re im) (dir : Int) (hd : dir = 0 ∨ dir = 1) :
    Calls Try.prog 53 #[ptr y, .int .i64 dir] w fun e w' => e = .returned (.int .i64 (dftE re im dir)) ∧ Quiet w w' := by
  have eE : Hid (dftE re im dir = dftTo re im dir 4) := by show _ = _; simp [dftE]; omega
  have g2 : Hid (∀ (k : Nat) W, k < 4 → Quiet w W → Calls Try.prog 15 #[.pointer (some ⟨y, 0, none⟩), .agg #[.int .i64 12, .int .i64 (pxF k), .int .i64 (pyF k * (1 - 2 * dir)), .int .i64 0, .string ⟨#[]⟩, .string ⟨#[]⟩]] W fun e w' => e = .returned (.agg #[.int .i64 0, .int .i64 (bigX re im dir k).1, .int .i64 (bigX re im dir k).2, .string ⟨#[]⟩]) ∧ Quiet W w') := fun k W hk q => by
    have := do_eval_w w y u re im R I (pxF k) (pyF k * (1 - 2 * dir)) 0 ⟨#[]⟩ ⟨#[]⟩ W q
    rw [eval_big re im dir hd k hk] at this
    exact this
  have IH := hide I
  have hdH := hide hd
  have w1 : IntKind.i64.wrap (2 * dir) = 2 * dir := by rw [IntKind.wrap_i64]; omega
  have w2 : IntKind.i64.wrap (1 - 2 * dir) = 1 - 2 * dir := by rw [IntKind.wrap_i64]; omega
  have w3 : Hid (∀ k, k < 4 → IntKind.i64.wrap (pyF k * (1 - 2 * dir)) = pyF k * (1 - 2 * dir)) := by
    intro k hk
    rw [IntKind.wrap_i64]
    rcases hd with rfl | rfl <;> rcases (by omega : k = 0 ∨ k = 1 ∨ k = 2 ∨ k = 3) with rfl | rfl | rfl | rfl <;> decide
  clear R I hd
  have q0 : Quiet w ((w.alloc (.cells #[.int .i64 1, .int .i64 0, .int .i64 (-1), .int .i64 0] 3)).alloc (.cells #[.int .i64 0, .int .i64 (-1), .int .i64 0, .int .i64 1] 3)) := ((Chg.refl _ _).alloc _).alloc _
  have bp : Blk ((w.alloc (.cells #[.int .i64 1, .int .i64 0, .int .i64 (-1), .int .i64 0] 3)).alloc (.cells #[.int .i64 0, .int .i64 (-1), .int .i64 0, .int .i64 1] 3)) w.heap.size 3 (rowI pxF) := (Blk.new w 3 (rowI pxF)).alloc _
  have bq : Blk ((w.alloc (.cells #[.int .i64 1, .int .i64 0, .int .i64 (-1), .int .i64 0] 3)).alloc (.cells #[.int .i64 0, .int .i64 (-1), .int .i64 0, .int .i64 1] 3)) (w.heap.size + 1) 3 (rowI pyF) := Blk.at_new (by simp)
  have stH := hide (And.intro q0 (And.intro bp bq))
  clear q0 bp bq
  unfold ptr
  go_enter Try.func53, Try.ntmps53
  go_wp2
  go_loopw [7] (fun k wr => ∃ j : Nat, j ≤ 4 ∧ k = .int .i64 j ∧ dftTo re im dir j = 0 ∧ Quiet w wr ∧ Blk wr w.heap.size 3 (rowI pxF) ∧ Blk wr (w.heap.size + 1) 3 (rowI pyF)) (fun k _ => 5 - (intOf k).toNat)
  case atStart => exact ⟨0, by omega, rfl, rfl, unhide stH⟩
  case round =>
    clear stH
    obtain ⟨j, hj, rfl, hz, qr, bp, bq⟩ := hrel
    have zH := hide hz
    clear hz
    by_cases hlt : j < 4
    · have j1 : (j : Int) < 4 := by omega
      have j0 : (0 : Int) ≤ (j : Int) := by omega
      have h2 := unhide g2 j
      have cp := (bp.cell j).trans (rowI_get pxF j hlt)
      have cq := (bq.cell j).trans (rowI_get pyF j hlt)
      have w4 := unhide w3 j hlt
      have hb := bigX_bound (unhide IH) dir j
      have hfail : Hid (∀ E, badX re im dir j = E → E ≠ 0 → dftE re im dir = E) := by
        intro E h1 h2
        rw [unhide eE]; exact dft_fail (unhide zH) h1 h2 hlt
      have hnext : Hid (badX re im dir j = 0 → dftTo re im dir (j + 1) = 0) := fun h => dft_next (unhide zH) h
      have bad1 : Hid (dir = 1 → badX re im dir j = if (bigX re im dir j).1.tmod 4 = 0 ∧ (bigX re im dir j).2.tmod 4 = 0 then 0 else 4) := by
        intro h; rw [h]; exact bad_one (unhide IH) j
      have bad0 : Hid (dir = 0 → badX re im dir j = if inP (bigX re im dir j).1 (bigX re im dir j).2 67108864 = true then 0 else 2) := by
        intro h; rw [h]; exact bad_zero re im j
      generalize (bigX re im dir j).1 = X1 at *
      generalize (bigX re im dir j).2 = X2 at *
      have hf := hide (fun W => fits_any W X1 X2 67108864 (by omega))
      generalize hpq : pyF j * (1 - 2 * dir) = pq at *
      generalize pxF j = pj at *
      generalize hqj : pyF j = qj at *
      have hpqH : qj * (1 - 2 * dir) = pq := hpq
      clear hqj hpq
      have h2H := hide h2
      have sH := hide (And.intro qr (And.intro bp bq))
      have qa : Hid (Quiet w wr.drew) := (Quiet.trans qr ((Chg.refl _ _).drew))
      have qb : Hid (Quiet w ((wr.alloc (.cells #[.int .i64 0, .int .i64 0, .int .i64 0, .string ⟨#[]⟩] 35)).drew)) := Quiet.trans qr (((Chg.refl _ _).alloc _).drew)
      have lp := bp.lt
      have lq := bq.lt
      have nw1 := World.new_ne wr ⟨w.heap.size, j, none⟩ cp
      have nw2 := World.new_ne wr ⟨w.heap.size + 1, j, none⟩ cq
      clear h2 qr bp bq hb
      go_wp2
      go_region_held3 (fun W => W.cell? ⟨w.heap.size, j, none⟩ = some (.int .i64 pj) ∧ W.cell? ⟨w.heap.size + 1, j, none⟩ = some (.int .i64 qj)) (first | exact ⟨p0, p1⟩ | go_keep) (first | (go_at_call 15; (first | (with_reducible refine (unhide h2H _ hlt (unhide qa)).mono ?_) | (with_reducible refine (unhide h2H _ hlt (unhide qb)).mono ?_)); rintro e w5 ⟨rfl, q5⟩; (first | (have p0 := q5.cell cp; have p1 := q5.cell cq; have tag1 : True := trivial) | (have p0 := q5.cell (Chg.cell (Chg.drew (Chg.alloc (Chg.refl (fun _ => False) wr) (.cells #[.int .i64 0, .int .i64 0, .int .i64 0, .string ⟨#[]⟩] 35))) cp id); have p1 := q5.cell (Chg.cell (Chg.drew (Chg.alloc (Chg.refl (fun _ => False) wr) (.cells #[.int .i64 0, .int .i64 0, .int .i64 0, .string ⟨#[]⟩] 35))) cq id); have bz := q5.blk ((Blk.new wr 35 [.int .i64 0, .int .i64 0, .int .i64 0, .string ⟨#[]⟩]).drew); have zc := bz.cell; have zf := bz.frozen; have tag2 : True := trivial))))
      · clear tag1 p0 p1
        rename_i hHeld
        clear hHeld
        have qW : Quiet wr (w5.alloc (.cells #[.int .i64 0, .int .i64 X1, .int .i64 X2, .string ⟨#[]⟩] 35)) := Quiet.trans ((Chg.refl _ _).drew) (Quiet.trans q5 ((Chg.refl _ _).alloc _))
        have bX := Blk.new w5 35 [.int .i64 0, .int .i64 X1, .int .i64 X2, .string ⟨#[]⟩]
        clear q5 cp cq nw1 nw2
        have cB := bX.cell
        have qWH := hide qW
        clear bX qW
        generalize w5.alloc (.cells #[.int .i64 0, .int .i64 X1, .int .i64 X2, .string ⟨#[]⟩] 35) = W at *
        rcases unhide hdH with hd0 | hd0
        · have cz : (dir == 1) = false := by rw [hd0]; rfl
          have cz2 : ¬ dir = 1 := by omega
          have hb := unhide bad0 hd0
          cases hin : inP X1 X2 67108864 with
          | true =>
            have hnx := hide (unhide hnext (by rw [hb, if_pos hin]))
            have hf' := hide (unhide hf)
            simp only [hin] at hf'
            clear hb hd0
            go_wp2_with fail
            refine (unhide hf' _).mono ?_
            rintro e w6 ⟨rfl, rfl⟩
            go_wp2
            go_roundw
            case rel => exact ⟨j + 1, by omega, by go_num, unhide hnx, Quiet.trans (unhide sH).1 (unhide qWH), (unhide qWH).blk (unhide sH).2.1, (unhide qWH).blk (unhide sH).2.2⟩
            case measure => simp [intOf]; omega
          | false =>
            have hE := hide (unhide hfail 2 (by rw [hb, if_neg (by simp [hin])]) (by decide))
            have hf' := hide (unhide hf)
            simp only [hin] at hf'
            clear hb hd0
            go_wp2_with fail
            refine (unhide hf' _).mono ?_
            rintro e w6 ⟨rfl, rfl⟩
            go_wp2
            go_ret
            exact ⟨by rw [unhide hE]; rfl, Quiet.trans (unhide sH).1 (unhide qWH)⟩
        · have cz : (dir == 1) = true := by rw [hd0]; rfl
          have hb := unhide bad1 hd0
          by_cases g1 : X1.tmod 4 = 0
          · by_cases g2 : X2.tmod 4 = 0
            · have hnx := hide (unhide hnext (by rw [hb, if_pos ⟨g1, g2⟩]))
              clear hb
              go_wp2
              go_roundw
              case rel => exact ⟨j + 1, by omega, by go_num, unhide hnx, Quiet.trans (unhide sH).1 (unhide qWH), (unhide qWH).blk (unhide sH).2.1, (unhide qWH).blk (unhide sH).2.2⟩
              case measure => simp [intOf]; omega
            · have hE := hide (unhide hfail 4 (by rw [hb, if_neg (fun h => g2 h.2)]) (by decide))
              clear hb
              go_wp2
              go_ret
              exact ⟨by rw [unhide hE]; rfl, Quiet.trans (unhide sH).1 (unhide qWH)⟩
          · have hE := hide (unhide hfail 4 (by rw [hb, if_neg (fun h => g1 h.1)]) (by decide))
            clear hb
            go_wp2
            go_ret
            exact ⟨by rw [unhide hE]; rfl, Quiet.trans (unhide sH).1 (unhide qWH)⟩
      · clear tag2 p0 p1
        rename_i hHeld
        clear hHeld
        have qW : Quiet wr ((((w5.setCell ⟨wr.heap.size, 0, none⟩ (.int .i64 0)).setCell ⟨wr.heap.size, 1, none⟩ (.int .i64 X1)).setCell ⟨wr.heap.size, 2, none⟩ (.int .i64 X2)).setCell ⟨wr.heap.size, 3, none⟩ (.string ⟨#[]⟩)) := by
          have q6 : Quiet wr w5 := Quiet.trans (((Chg.refl _ _).alloc _).drew) q5
          exact (((Chg.setCell q6 (p := ⟨wr.heap.size, 0, none⟩) (.inr (Nat.le_refl _)) _).setCell (p := ⟨wr.heap.size, 1, none⟩) (.inr (Nat.le_refl _)) _).setCell (p := ⟨wr.heap.size, 2, none⟩) (.inr (Nat.le_refl _)) _).setCell (p := ⟨wr.heap.size, 3, none⟩) (.inr (Nat.le_refl _)) _
        have bX := (((bz.set 0 (.int .i64 0)).set 1 (.int .i64 X1)).set 2 (.int .i64 X2)).set 3 (.string ⟨#[]⟩)
        simp only [List.set_cons_zero, List.set_cons_succ] at bX
        clear q5 cp cq nw1 nw2 bz zc zf
        have cB := bX.cell
        have qWH := hide qW
        clear bX qW
        generalize (((w5.setCell ⟨wr.heap.size, 0, none⟩ (.int .i64 0)).setCell ⟨wr.heap.size, 1, none⟩ (.int .i64 X1)).setCell ⟨wr.heap.size, 2, none⟩ (.int .i64 X2)).setCell ⟨wr.heap.size, 3, none⟩ (.string ⟨#[]⟩) = W at *
        rcases unhide hdH with hd0 | hd0
        · have cz : (dir == 1) = false := by rw [hd0]; rfl
          have cz2 : ¬ dir = 1 := by omega
          have hb := unhide bad0 hd0
          cases hin : inP X1 X2 67108864 with
          | true =>
            have hnx := hide (unhide hnext (by rw [hb, if_pos hin]))
            have hf' := hide (unhide hf)
            simp only [hin] at hf'
            clear hb hd0
            go_wp2_with fail
            refine (unhide hf' _).mono ?_
            rintro e w6 ⟨rfl, rfl⟩
            go_wp2
            go_roundw
            case rel => exact ⟨j + 1, by omega, by go_num, unhide hnx, Quiet.trans (unhide sH).1 (unhide qWH), (unhide qWH).blk (unhide sH).2.1, (unhide qWH).blk (unhide sH).2.2⟩
            case measure => simp [intOf]; omega
          | false =>
            have hE := hide (unhide hfail 2 (by rw [hb, if_neg (by simp [hin])]) (by decide))
            have hf' := hide (unhide hf)
            simp only [hin] at hf'
            clear hb hd0
            go_wp2_with fail
            refine (unhide hf' _).mono ?_
            rintro e w6 ⟨rfl, rfl⟩
            go_wp2
            go_ret
            exact ⟨by rw [unhide hE]; rfl, Quiet.trans (unhide sH).1 (unhide qWH)⟩
        · have cz : (dir == 1) = true := by rw [hd0]; rfl
          have hb := unhide bad1 hd0
          by_cases g1 : X1.tmod 4 = 0
          · by_cases g2 : X2.tmod 4 = 0
            · have hnx := hide (unhide hnext (by rw [hb, if_pos ⟨g1, g2⟩]))
              clear hb
              go_wp2
              go_roundw
              case rel => exact ⟨j + 1, by omega, by go_num, unhide hnx, Quiet.trans (unhide sH).1 (unhide qWH), (unhide qWH).blk (unhide sH).2.1, (unhide qWH).blk (unhide sH).2.2⟩
              case measure => simp [intOf]; omega
            · have hE := hide (unhide hfail 4 (by rw [hb, if_neg (fun h => g2 h.2)]) (by decide))
              clear hb
              go_wp2
              go_ret
              exact ⟨by rw [unhide hE]; rfl, Quiet.trans (unhide sH).1 (unhide qWH)⟩
          · have hE := hide (unhide hfail 4 (by rw [hb, if_neg (fun h => g1 h.1)]) (by decide))
            clear hb
            go_wp2
            go_ret
            exact ⟨by rw [unhide hE]; rfl, Quiet.trans (unhide sH).1 (unhide qWH)⟩
    · have j1 : ¬ (j : Int) < 4 := by omega
      obtain rfl : j = 4 := by omega
      have hE : Hid (dftE re im dir = 0) := by show _ = _; rw [unhide eE]; exact unhide zH
      go_wp2
      go_ret
      exact ⟨by rw [unhide hE]; rfl, qr⟩
end Go.Proofs.Qxb6500362a
