/-
  THE ABSTRACT MESH: Unlink, Route.
-/
import Derived.Test.Qxb6500364aModel
namespace Go.Proofs.Qxb6500364a
open Go.RowKit Go.Qx
set_option linter.unusedVariables false
set_option linter.unusedSimpArgs false

theorem far_sv : (Value.string ⟨#[64, 64, 64, 64, 64]⟩) = sv (fun _ => 16) := by kernel_rfl

set_option maxHeartbeats 2000000 in
theorem munlink_any (w : World) (m p q : Nat) (C : Nat → Nat → Int) (H : Nat → Nat → Nat → Int) (R : RepM w m p q C H) (a b : Int) : Calls Try.prog 34 #[ptr m, .int .i64 a, .int .i64 b] w (repMPost w m p q (liveP C a b) (unC C a b) (unH C H a b)) := by
  have he := mlive_any w m p q C H R a b
  rcases live_cases C a b with ⟨i, j, rfl, rfl, hi, hj, hij, e0, hz, el⟩ | hne
  · rw [el] at he
    have e2 : Hid (unC C i j = lk C i j 0) := by show _ = _; simp [unC, el]
    have e3 : Hid (unH C H i j = lk H i j (fun _ => 16)) := by show _ = _; simp [unH, el]
    rw [unhide e2, unhide e3, el]
    have c0 := R.blk.cell 0
    have c1 := R.blk.cell 1
    simp at c0 c1
    have cc : w.cell? ⟨p, i * 5 + j, none⟩ = some (.int .i64 (C i j)) := (R.cb.cell _).trans (grid_get iv C i j hi hj)
    have cc2 : w.cell? ⟨p, j * 5 + i, none⟩ = some (.int .i64 (C j i)) := (R.cb.cell _).trans (grid_get iv C j i hj hi)
    have ch : w.cell? ⟨q, i * 5 + j, none⟩ = some (.string (ear (H i j))) := (R.hb.cell _).trans (grid_get sv H i j hi hj)
    have ch2 : w.cell? ⟨q, j * 5 + i, none⟩ = some (.string (ear (H j i))) := (R.hb.cell _).trans (grid_get sv H j i hj hi)
    have fc := R.cb.frozen (i * 5 + j)
    have fc2 := R.cb.frozen (j * 5 + i)
    have fh := R.hb.frozen (i * 5 + j)
    have fh2 := R.hb.frozen (j * 5 + i)
    have mp := R.mp
    have pm := Ne.symm mp
    have mq := R.mq
    have qm := Ne.symm mq
    have pq := R.pq
    have qp := Ne.symm pq
    have i0 : (0 : Int) ≤ (i : Int) := by omega
    have i1 : (i : Int) < 5 := by omega
    have j0 : (0 : Int) ≤ (j : Int) := by omega
    have j1 : (j : Int) < 5 := by omega
    have ix1 : (0 : Int) ≤ (i : Int) * 5 + (j : Int) := by omega
    have ix2 : (i : Int) * 5 + (j : Int) < 25 := by omega
    have wr1 : IntKind.i64.wrap ((i : Int) * 5) = (i : Int) * 5 := by rw [IntKind.wrap_i64]; omega
    have wr2 : IntKind.i64.wrap ((i : Int) * 5 + (j : Int)) = (i : Int) * 5 + (j : Int) := by rw [IntKind.wrap_i64]; omega
    have tn : ((i : Int) * 5 + (j : Int)).toNat = i * 5 + j := by omega
    have jx1 : (0 : Int) ≤ (j : Int) * 5 + (i : Int) := by omega
    have jx2 : (j : Int) * 5 + (i : Int) < 25 := by omega
    have wr3 : IntKind.i64.wrap ((j : Int) * 5) = (j : Int) * 5 := by rw [IntKind.wrap_i64]; omega
    have wr4 : IntKind.i64.wrap ((j : Int) * 5 + (i : Int)) = (j : Int) * 5 + (i : Int) := by rw [IntKind.wrap_i64]; omega
    have tn2 : ((j : Int) * 5 + (i : Int)).toNat = j * 5 + i := by omega
    have nij : i * 5 + j ≠ j * 5 + i := by omega
    have nji : j * 5 + i ≠ i * 5 + j := by omega
    have fin1 : Hid (Chg (ownM m p q) w ((w.setCell ⟨p, i * 5 + j, none⟩ (.int .i64 0)).setCell ⟨p, j * 5 + i, none⟩ (.int .i64 0)) ∧ RepM ((w.setCell ⟨p, i * 5 + j, none⟩ (.int .i64 0)).setCell ⟨p, j * 5 + i, none⟩ (.int .i64 0)) m p q (lk C i j 0) H) := by
      refine ⟨((Chg.refl (ownM m p q) w).setCell (p := ⟨p, i * 5 + j, none⟩) (.inl (.inr (.inl rfl))) _).setCell (p := ⟨p, j * 5 + i, none⟩) (.inl (.inr (.inl rfl))) _, (R.blk.set_other (a := ⟨p, i * 5 + j, none⟩) mp _).set_other (a := ⟨p, j * 5 + i, none⟩) mp _, ?_, (R.hb.set_other (a := ⟨p, i * 5 + j, none⟩) qp _).set_other (a := ⟨p, j * 5 + i, none⟩) qp _, R.mp, R.mq, R.pq⟩
      have h1 := (R.cb.set (i * 5 + j) (.int .i64 0)).set (j * 5 + i) (.int .i64 0)
      rw [grid_lk C i j hi hj hij 0] at h1
      exact h1
    have fin2 : Hid (∀ V, RepM V m p q (lk C i j 0) H → Chg (ownM m p q) V ((V.setCell ⟨q, i * 5 + j, none⟩ (.string ⟨#[64, 64, 64, 64, 64]⟩)).setCell ⟨q, j * 5 + i, none⟩ (.string ⟨#[64, 64, 64, 64, 64]⟩)) ∧ RepM ((V.setCell ⟨q, i * 5 + j, none⟩ (.string ⟨#[64, 64, 64, 64, 64]⟩)).setCell ⟨q, j * 5 + i, none⟩ (.string ⟨#[64, 64, 64, 64, 64]⟩)) m p q (lk C i j 0) (lk H i j (fun _ => 16))) := by
      intro V R
      refine ⟨((Chg.refl (ownM m p q) V).setCell (p := ⟨q, i * 5 + j, none⟩) (.inl (.inr (.inr rfl))) _).setCell (p := ⟨q, j * 5 + i, none⟩) (.inl (.inr (.inr rfl))) _, (R.blk.set_other (a := ⟨q, i * 5 + j, none⟩) mq _).set_other (a := ⟨q, j * 5 + i, none⟩) mq _, (R.cb.set_other (a := ⟨q, i * 5 + j, none⟩) pq _).set_other (a := ⟨q, j * 5 + i, none⟩) pq _, ?_, R.mp, R.mq, R.pq⟩
      have h1 := (R.hb.set (i * 5 + j) (sv (fun _ => 16))).set (j * 5 + i) (sv (fun _ => 16))
      rw [grid_lkH H i j hi hj hij (fun _ => 16)] at h1
      rw [far_sv]
      exact h1
    unfold repMPost ptr at *
    clear R e2 e3 e0 hz el
    go_enter Try.func34, Try.ntmps34
    go_wp2_with fail
    refine he.mono ?_
    rintro e w' ⟨rfl, rfl⟩
    go_wp2
    go_region_held3 (fun W => W.cell? ⟨m, 0, none⟩ = some (.slice (some ⟨p, 0, none⟩) 25 25)) (go_keep) (fail)
    rename_i hHeld
    clear hHeld
    obtain ⟨y1, y2⟩ := unhide fin1
    have y1' := y1.drew
    have y2' := y2.quiet ((Chg.refl _ _).drew)
    clear y1 y2 fin1 c0 c1 cc cc2 ch ch2 fc fc2 fh fh2
    generalize World.drew _ = W1 at *
    have c1 := y2'.blk.cell 1
    simp at c1
    have ch : W1.cell? ⟨q, i * 5 + j, none⟩ = some (.string (ear (H i j))) := (y2'.hb.cell _).trans (grid_get sv H i j hi hj)
    have ch2 : W1.cell? ⟨q, j * 5 + i, none⟩ = some (.string (ear (H j i))) := (y2'.hb.cell _).trans (grid_get sv H j i hj hi)
    have fh := y2'.hb.frozen (i * 5 + j)
    have fh2 := y2'.hb.frozen (j * 5 + i)
    have z := unhide fin2 W1 y2'
    have zH := hide (And.intro (y1'.trans z.1).drew (z.2.quiet ((Chg.refl _ _).drew)))
    clear z fin2 y1' y2'
    go_wp2
    go_region_held3 (fun W => W.cell? ⟨m, 1, none⟩ = some (.slice (some ⟨q, 0, none⟩) 25 25)) (go_keep) (fail)
    rename_i hHeld
    clear hHeld
    go_wp2
    go_ret
    exact ⟨rfl, (unhide zH).1, (unhide zH).2⟩
  · have e2 : Hid (unC C a b = C) := by show _ = _; simp [unC, hne]
    have e3 : Hid (unH C H a b = H) := by show _ = _; simp [unH, hne]
    rw [unhide e2, unhide e3]
    unfold repMPost ptr at *
    have z1 : (liveP C a b == 0) = false := by simpa using hne
    have RH := hide R
    clear e2 e3 hne R
    generalize liveP C a b = E at *
    go_enter Try.func34, Try.ntmps34
    go_wp2_with fail
    refine he.mono ?_
    rintro e w' ⟨rfl, rfl⟩
    go_wp2
    go_ret
    exact ⟨rfl, Chg.refl _ _, unhide RH⟩

theorem ear_size (h : Nat → Int) : (ear h).size = 5 := by unfold ear; rw [str_size, earTo_length]

theorem ear_at (h : Nat → Int) (j : Nat) (hj : j < 5) : (earTo h 5)[j]? = some (gl (h j)) := by
  have : j = 0 ∨ j = 1 ∨ j = 2 ∨ j = 3 ∨ j = 4 := by omega
  rcases this with rfl | rfl | rfl | rfl | rfl <;> rfl

theorem ear_index (h : Nat → Int) (j : Nat) (hj : j < 5) (h1 : 0 ≤ h j) (h2 : h j ≤ 16) (W : World) : (Instr.index 9 (.string (ear h)) (.int .i64 j)).run Try.prog W = .ok (.int .u8 (48 + h j)) W := by
  rw [run_index_string W 9 _ _ _ Try.underlying9, dif_pos ⟨by omega, by rw [ear_size]; omega⟩]
  have e : (ear h)[(j : Int).toNat]'(by rw [ear_size]; omega) = gl (h j) := by
    have h3 := ear_at h j hj
    have h4 : j < (earTo h 5).length := by rw [earTo_length]; exact hj
    rw [List.getElem?_eq_getElem h4] at h3
    have h5 := Option.some.inj h3
    rw [← h5]
    rfl
  rw [e, gl_toNat (h j) (by omega) h2]

set_option maxRecDepth 100000 in
set_option maxHeartbeats 2000000 in
theorem mroute_any (w : World) (m p q : Nat) (C : Nat → Nat → Int) (H : Nat → Nat → Nat → Int) (R : RepM w m p q C H) (I : Inv C H) (a d : Int) :
    Calls Try.prog 36 #[ptr m, .int .i64 a, .int .i64 d] w fun e w' => e = .returned (.tuple #[.int .i64 (routeP C H a d).1, .int .i64 (routeP C H a d).2.1, .int .i64 (routeP C H a d).2.2]) ∧ Quiet w w' := by
  have he := nodes_any w a d
  rcases nodes_cases a d with ⟨i, j, rfl, rfl, hi, hj, e0⟩ | e0
  · have hl : Hid (routeP C H i j = ((bestP i (C i) (H i) j).1, (bestP i (C i) (H i) j).2, 0)) := by show _ = _; simp [routeP, e0]
    rw [e0] at he
    rw [unhide hl]
    have i0 : (0 : Int) ≤ (i : Int) := by omega
    have i1 : (i : Int) < 5 := by omega
    have j0 : (0 : Int) ≤ (j : Int) := by omega
    have j1 : (j : Int) < 5 := by omega
    by_cases hij : i = j
    · subst hij
      have hb : Hid (bestP i (C i) (H i) i = (0, (i : Int))) := by show _ = _; simp [bestP]
      rw [unhide hb]
      have si : ((i : Int) == (i : Int)) = true := by simp
      clear hl e0 R hb
      unfold ptr
      go_enter Try.func36, Try.ntmps36
      go_wp2_with fail
      refine he.mono ?_
      rintro e w' ⟨rfl, rfl⟩
      go_wp2
      go_ret3
      exact ⟨rfl, Chg.refl _ _⟩
    · have hb : Hid (bestP i (C i) (H i) j = bestTo (C i) (fun b => H i b j) 5) := by show _ = _; simp [bestP, Ne.symm hij]
      rw [unhide hb]
      have si : ((i : Int) == (j : Int)) = false := by simp; omega
      clear hl e0 hb
      have RH := hide R
      have IH := hide I
      clear R I
      unfold ptr
      go_enter Try.func36, Try.ntmps36
      go_wp2_with fail
      refine he.mono ?_
      rintro e w' ⟨rfl, rfl⟩
      go_wp2
      go_loopw [9, 10, 11] (fun u v k wr => ∃ b : Nat, b ≤ 5 ∧ k = .int .i64 b ∧ u = .int .i64 (bestTo (C i) (fun b => H i b j) b).1 ∧ v = .int .i64 (bestTo (C i) (fun b => H i b j) b).2 ∧ Quiet w' wr) (fun _ _ k _ => 6 - (intOf k).toNat)
      case atStart => exact ⟨0, by omega, rfl, rfl, rfl, Chg.refl _ _⟩
      case round =>
        obtain ⟨b, hb, rfl, rfl, rfl, qq⟩ := hrel
        have R2 := (unhide RH).quiet qq
        by_cases hlt : b < 5
        · have b0 : (0 : Int) ≤ (b : Int) := by omega
          have b1 : (b : Int) < 5 := by omega
          have c0 := R2.blk.cell 0
          have c1 := R2.blk.cell 1
          simp at c0 c1
          have cc : wr.cell? ⟨p, i * 5 + b, none⟩ = some (.int .i64 (C i b)) := (R2.cb.cell _).trans (grid_get iv C i b hi hlt)
          have ch : wr.cell? ⟨q, i * 5 + b, none⟩ = some (.string (ear (H i b))) := (R2.hb.cell _).trans (grid_get sv H i b hi hlt)
          obtain ⟨o1, o2⟩ := (unhide IH).c i b hi hlt
          obtain ⟨o3, o4⟩ := (unhide IH).h i b j hi hlt hj
          have es := ear_size (H i b)
          have rg := bestTo_range (C i) (fun b => H i b j) (fun b hb => (unhide IH).c i b hi hb) (fun b hb => (unhide IH).h i b j hi hb hj) b (by omega)
          have hst : Hid (bestTo (C i) (fun b => H i b j) (b + 1) = if 0 < C i b then (min (bestTo (C i) (fun b => H i b j) b).1 (min (C i b + H i b j) 16), if min (C i b + H i b j) 16 < (bestTo (C i) (fun b => H i b j) b).1 then (b : Int) else (bestTo (C i) (fun b => H i b j) b).2) else bestTo (C i) (fun b => H i b j) b) := rfl
          generalize bestTo (C i) (fun b => H i b j) b = B at *
          obtain ⟨B1, B2⟩ := B
          simp only at hst rg
          obtain ⟨⟨r1, r2⟩, r3, r4⟩ := rg
          have qH := hide qq
          have ix1 : (0 : Int) ≤ (i : Int) * 5 + (b : Int) := by omega
          have ix2 : (i : Int) * 5 + (b : Int) < 25 := by omega
          have wr1 : IntKind.i64.wrap ((i : Int) * 5) = (i : Int) * 5 := by rw [IntKind.wrap_i64]; omega
          have wr2 : IntKind.i64.wrap ((i : Int) * 5 + (b : Int)) = (i : Int) * 5 + (b : Int) := by rw [IntKind.wrap_i64]; omega
          have tn : ((i : Int) * 5 + (b : Int)).toNat = i * 5 + b := by omega
          have hix := ear_index (H i b) j hj o3 o4
          generalize C i b = cb at *
          generalize H i b j = hv at *
          generalize ear (H i b) = er at *
          have w8 : IntKind.u8.wrap (48 + hv - 48) = hv := by rw [IntKind.wrap_u8]; omega
          have w9 : IntKind.i64.wrap hv = hv := by rw [IntKind.wrap_i64]; omega
          have w10 : IntKind.i64.wrap (cb + hv) = cb + hv := by rw [IntKind.wrap_i64]; omega
          clear R2 qq
          go_wp2
          go_region_held3 (fun W => W.cell? ⟨m, 0, none⟩ = some (.slice (some ⟨p, 0, none⟩) 25 25) ∧ W.cell? ⟨m, 1, none⟩ = some (.slice (some ⟨q, 0, none⟩) 25 25) ∧ W.cell? ⟨p, i * 5 + b, none⟩ = some (.int .i64 cb) ∧ W.cell? ⟨q, i * 5 + b, none⟩ = some (.string er)) (go_keep) (fail)
          rename_i hHeld
          clear hHeld hix
          have qD := hide (Chg.drew (unhide qH))
          have d0 := c0
          have d1 := cc
          by_cases hc : 0 < cb
          · have hc' : decide (0 < cb) = true := decide_eq_true hc
            by_cases ht : cb + hv < B1
            · go_wp2
              go_roundw
              case rel =>
                refine ⟨b + 1, by omega, by go_num, congrArg (Value.int .i64) ?_, congrArg (Value.int .i64) ?_, unhide qD⟩
                · rw [unhide hst, if_pos hc]; simp only; omega
                · rw [unhide hst, if_pos hc]; simp only; rw [if_pos (by omega)]
              case measure => simp [intOf]; omega
            · go_wp2
              go_roundw
              case rel =>
                refine ⟨b + 1, by omega, by go_num, congrArg (Value.int .i64) ?_, congrArg (Value.int .i64) ?_, unhide qD⟩
                · rw [unhide hst, if_pos hc]; simp only; omega
                · rw [unhide hst, if_pos hc]; simp only; rw [if_neg (by omega)]
              case measure => simp [intOf]; omega
          · have hc' : decide (0 < cb) = false := decide_eq_false hc
            go_wp2
            go_roundw
            case rel => exact ⟨b + 1, by omega, by go_num, by rw [unhide hst, if_neg hc], by rw [unhide hst, if_neg hc], unhide qD⟩
            case measure => simp [intOf]; omega
        · have b1 : ¬ (b : Int) < 5 := by omega
          obtain rfl : b = 5 := by omega
          have qH := hide qq
          clear R2 qq
          go_wp2
          go_ret3
          exact ⟨rfl, unhide qH⟩
  · have hl : Hid (routeP C H a d = (0, 0, 1)) := by show _ = _; simp [routeP, e0]
    rw [unhide hl]
    rw [e0] at he
    clear hl e0 R
    unfold ptr
    go_enter Try.func36, Try.ntmps36
    go_wp2_with fail
    refine he.mono ?_
    rintro e w' ⟨rfl, rfl⟩
    go_wp2
    go_ret3
    exact ⟨rfl, Chg.refl _ _⟩
end Go.Proofs.Qxb6500364a
