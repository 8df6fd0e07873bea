/-
  KEEPS: the walk of Keeps. (gen8kkeep.py)
-/
import Derived.Test.Qxb6500368aKStep
import Derived.Test.Qxb6500368aRefine
namespace Go.Proofs.Qxb6500368a
open Go.RowKit Go.Qx
set_option linter.unusedVariables false
set_option linter.unusedSimpArgs false

/-- The bench at x and its ghost at G. -/
structure Kp (W w : World) (x G : Nat) : Prop where
  chg : Chg (fun k => W.heap.size ≤ k) W w
  reps : ∃ v σ, RepS w x v σ ∧ St.Ok σ ∧ Blk w G 29 [.string (σ.R 0), .string (σ.R 1), .string (σ.R 2), .int .i64 (σ.wk : Int)] ∧ ¬ own x v G ∧ (∀ k, own x v k → W.heap.size ≤ k) ∧ W.heap.size ≤ G

theorem keep_do (w : World) (x v : Nat) (σ : St) (R : RepS w x v σ) (I : σ.Ok) (k a b c : Int) (s t : ByteArray) :
    Calls Try.prog 10 #[.pointer (some ⟨x, 0, none⟩), .agg #[.int .i64 k, .int .i64 a, .int .i64 b, .int .i64 c, .string s, .string t]] w fun e w1 => e = .returned (.agg #[.int .i64 (ansP σ ⟨k, a, b, c, s, t⟩).e, .int .i64 (ansP σ ⟨k, a, b, c, s, t⟩).n, .int .i64 (ansP σ ⟨k, a, b, c, s, t⟩).m, .string (ansP σ ⟨k, a, b, c, s, t⟩).s]) ∧ Chg (own x v) w w1 ∧ RepS w1 x v (nextP σ ⟨k, a, b, c, s, t⟩) :=
  do_any w x v σ R I ⟨k, a, b, c, s, t⟩

theorem keep_read (w : World) (x v : Nat) (σ : St) (R : RepS w x v σ) (I : σ.Ok) :
    Calls Try.prog 11 #[.pointer (some ⟨x, 0, none⟩)] w fun e w1 => e = .returned (.tuple #[.agg #[.string (σ.R 0), .string (σ.R 1), .string (σ.R 2), .int .i64 (σ.wk : Int)], .bool true]) ∧ Quiet w w1 := read_any w x v σ.c σ.n σ.wk R I

/-- A round of Keeps: what its three calls answer. -/
theorem keep_round {W w : World} {x G : Nat} (h : Kp W w x G) (ok oa ob oc : Int) (os ot : ByteArray) :
    ∃ (v : Nat) (ye yn ym hw gw : Int) (ys h0 h1 h2 g0 g1 g2 : ByteArray), Blk w G 29 [.string g0, .string g1, .string g2, .int .i64 gw] ∧
      (∀ W1, Quiet w W1 → Calls Try.prog 10 #[.pointer (some ⟨x, 0, none⟩), .agg #[.int .i64 ok, .int .i64 oa, .int .i64 ob, .int .i64 oc, .string os, .string ot]] W1 fun e w2 => e = .returned (.agg #[.int .i64 ye, .int .i64 yn, .int .i64 ym, .string ys]) ∧ Chg (own x v) W1 w2 ∧
        ∀ W3, Quiet w2 W3 → Calls Try.prog 11 #[.pointer (some ⟨x, 0, none⟩)] W3 fun e w4 => e = .returned (.tuple #[.agg #[.string h0, .string h1, .string h2, .int .i64 hw], .bool true]) ∧ Quiet W3 w4 ∧
          ∀ W5, Quiet w4 W5 → Calls Try.prog 12 #[.agg #[.string g0, .string g1, .string g2, .int .i64 gw], .agg #[.string h0, .string h1, .string h2, .int .i64 hw], .agg #[.int .i64 ok, .int .i64 oa, .int .i64 ob, .int .i64 oc, .string os, .string ot], .agg #[.int .i64 ye, .int .i64 yn, .int .i64 ym, .string ys]] W5 fun e w6 => e = .returned (.bool true) ∧ Quiet W5 w6 ∧
            Kp W ((((w6.setCell ⟨G, 0, none⟩ (.string h0)).setCell ⟨G, 1, none⟩ (.string h1)).setCell ⟨G, 2, none⟩ (.string h2)).setCell ⟨G, 3, none⟩ (.int .i64 hw)) x G) ∧
      (∀ k, own x v k → k < w.heap.size) ∧ ¬ own x v G ∧ ∀ k, own x v k → W.heap.size ≤ k := by
  obtain ⟨ch, v, σ, R, I, B, hG, hlow, hGl⟩ := h
  have hx := Rep.lts R
  refine ⟨v, (ansP σ ⟨ok, oa, ob, oc, os, ot⟩).e, (ansP σ ⟨ok, oa, ob, oc, os, ot⟩).n, (ansP σ ⟨ok, oa, ob, oc, os, ot⟩).m, ((nextP σ ⟨ok, oa, ob, oc, os, ot⟩).wk : Int), (σ.wk : Int), (ansP σ ⟨ok, oa, ob, oc, os, ot⟩).s, (nextP σ ⟨ok, oa, ob, oc, os, ot⟩).R 0, (nextP σ ⟨ok, oa, ob, oc, os, ot⟩).R 1, (nextP σ ⟨ok, oa, ob, oc, os, ot⟩).R 2, σ.R 0, σ.R 1, σ.R 2, B, ?_, hx, hG, hlow⟩
  intro W1 q1
  refine (keep_do W1 x v σ (Rep.quiet R q1) I ok oa ob oc os ot).mono ?_
  rintro e w2 ⟨h1, ch2, R2⟩
  refine ⟨h1, ch2, ?_⟩
  intro W3 q3
  have I2 := inv_next I ⟨ok, oa, ob, oc, os, ot⟩
  refine (keep_read W3 x v _ (Rep.quiet R2 q3) I2).mono ?_
  rintro e w4 ⟨h2, q4⟩
  refine ⟨h2, q4, ?_⟩
  intro W5 q5
  refine (kept_any W5 σ I ok oa ob oc os ot).mono ?_
  rintro e w6 ⟨h3, q6⟩
  refine ⟨h3, q6, ?_⟩
  have q26 : Quiet w2 w6 := ((q3.trans q4).trans q5).trans q6
  have B6 : Blk w6 G 29 [.string (σ.R 0), .string (σ.R 1), .string (σ.R 2), .int .i64 (σ.wk : Int)] := q26.blk (ch2.blk (q1.blk B) hG)
  have R6 := Rep.quiet R2 q26
  have c6 : Chg (fun k => W.heap.size ≤ k) W w6 := ((ch.trans (q1.chg _)).trans (ch2.mono (fun k _ hk => hlow k hk))).trans (q26.chg _)
  refine ⟨(((c6.setCell (p := ⟨G, 0, none⟩) (.inl hGl) _).setCell (p := ⟨G, 1, none⟩) (.inl hGl) _).setCell (p := ⟨G, 2, none⟩) (.inl hGl) _).setCell (p := ⟨G, 3, none⟩) (.inl hGl) _, v, nextP σ ⟨ok, oa, ob, oc, os, ot⟩, ?_, I2, (((B6.set 0 _).set 1 _).set 2 _).set 3 _, hG, hlow, hGl⟩
  have cS : Chg (fun k => k = G) w6 ((((w6.setCell ⟨G, 0, none⟩ (.string ((nextP σ ⟨ok, oa, ob, oc, os, ot⟩).R 0))).setCell ⟨G, 1, none⟩ (.string ((nextP σ ⟨ok, oa, ob, oc, os, ot⟩).R 1))).setCell ⟨G, 2, none⟩ (.string ((nextP σ ⟨ok, oa, ob, oc, os, ot⟩).R 2))).setCell ⟨G, 3, none⟩ (.int .i64 ((nextP σ ⟨ok, oa, ob, oc, os, ot⟩).wk : Int))) :=
    ((((Chg.refl (fun k => k = G) w6).setCell (p := ⟨G, 0, none⟩) (.inl rfl) _).setCell (p := ⟨G, 1, none⟩) (.inl rfl) _).setCell (p := ⟨G, 2, none⟩) (.inl rfl) _).setCell (p := ⟨G, 3, none⟩) (.inl rfl) _
  exact Rep.of_chg R6 cS (fun k hk ho => hG (by rw [← hk]; exact ho))

set_option maxHeartbeats 8000000 in
set_option maxRecDepth 100000 in
theorem keepsUpTo_any (w : World) (a : Option Addr) (len cap : Nat) (ops : List Opr) (ho : IsOps w a len cap ops) :
    Calls Try.prog 6 #[.slice a len cap] w fun e w' => e = .returned (.int .i64 (-1)) ∧ Below w.heap.size w w' := by
  have hlen := ho.small
  have hnew := new_any w
  unfold newPost at hnew
  go_enter Try.func6, Try.ntmps6
  go_wp2_with fail
  refine hnew.mono ?_
  clear hnew
  rintro e w1 ⟨x, v, rfl, q1, ho1, R1⟩
  have hk0 : Hid (Kp w (w1.alloc (.cells #[.string ⟨#[]⟩, .string ⟨#[]⟩, .string ⟨#[]⟩, .int .i64 0] 29)) x w1.heap.size) := by
    refine ⟨(q1.chg _).alloc _, v, St.first, Rep.quiet R1 ((Chg.refl _ _).alloc _), inv_first, Blk.new w1 29 [.string ⟨#[]⟩, .string ⟨#[]⟩, .string ⟨#[]⟩, .int .i64 0], ?_, fun k hk => ho1 k hk, q1.size⟩
    intro hh
    have := Rep.lts R1 _ hh
    omega
  clear q1 ho1 R1
  go_wp2
  generalize w1.alloc (.cells #[.string ⟨#[]⟩, .string ⟨#[]⟩, .string ⟨#[]⟩, .int .i64 0] 29) = W1 at *
  generalize w1.heap.size = G at *
  go_loopw [5] (fun i wr => ∃ j : Nat, j ≤ len ∧ i = .int .i64 j ∧ Kp w wr x G) (fun i _ => len - (intOf i).toNat)
  case atStart => exact ⟨0, Nat.zero_le _, rfl, unhide hk0⟩
  case round =>
    clear hk0
    obtain ⟨j, hj, rfl, hb⟩ := hrel
    have hbel : Below w.heap.size w wr := hb.chg.below _ (Nat.le_refl _) (fun _ h => h)
    have hbelH := hide hbel
    clear hbel
    by_cases hlt : j < len
    · by_cases hmax : (j : Int) < 4398046511104
      · have hjo : j < ops.length := by rw [ho.count]; exact hlt
        obtain ⟨sb, so, rfl, hsb, k0, k1, k2, k3, k4, k5⟩ := ho.cells j hjo
        generalize ops[j] = o at *
        obtain ⟨ok, oa, ob, oc, os, ot⟩ := o
        simp only at k0 k1 k2 k3 k4 k5
        have i1 : (0 : Int) ≤ (j : Int) := by omega
        have i2 : (j : Int) < (len : Int) := by omega
        have g1 : decide (j < len) = true := by simpa using hlt
        have hbl := unhide hbelH
        rw [← hbl.cell (p := ⟨sb, so + j * 6, none⟩) hsb] at k0
        rw [← hbl.cell (p := ⟨sb, so + j * 6 + 1, none⟩) hsb] at k1
        rw [← hbl.cell (p := ⟨sb, so + j * 6 + 2, none⟩) hsb] at k2
        rw [← hbl.cell (p := ⟨sb, so + j * 6 + 3, none⟩) hsb] at k3
        rw [← hbl.cell (p := ⟨sb, so + j * 6 + 4, none⟩) hsb] at k4
        rw [← hbl.cell (p := ⟨sb, so + j * 6 + 5, none⟩) hsb] at k5
        clear hbl
        have jH := hide (And.intro hlt hmax)
        obtain ⟨v, ye, yn, ym, hw, gw, ys, h0, h1, h2, gg0, gg1, gg2, BG, hcalls, hx, hnG, hlow⟩ := keep_round hb ok oa ob oc os ot
        have hxH := hide hx
        have hnGH := hide hnG
        have BGH := hide BG
        have bo := hide (Blk.new wr 31 [.int .i64 ok, .int .i64 oa, .int .i64 ob, .int .i64 oc, .string os, .string ot])
        have hdo := hide (hcalls (wr.alloc (.cells #[.int .i64 ok, .int .i64 oa, .int .i64 ob, .int .i64 oc, .string os, .string ot] 31)) ((Chg.refl _ _).alloc _))
        clear hcalls hx hnG hlow BG hb hj hjo
        go_wp2_with fail
        refine (unhide hdo).mono ?_
        clear hdo k0 k1 k2 k3 k4 k5
        rintro e w2 ⟨rfl, ch2, hr⟩
        have bo2 : Hid (Blk w2 wr.heap.size 31 [.int .i64 ok, .int .i64 oa, .int .i64 ob, .int .i64 oc, .string os, .string ot]) := ch2.blk (unhide bo) (fun hh => by have := unhide hxH _ hh; omega)
        have bG2 : Hid (Blk w2 G 29 [.string gg0, .string gg1, .string gg2, .int .i64 gw]) := ch2.blk ((unhide BGH).alloc _) (unhide hnGH)
        have ba := hide (Blk.new w2 34 [.int .i64 ye, .int .i64 yn, .int .i64 ym, .string ys])
        have hrd := hide (hr (w2.alloc (.cells #[.int .i64 ye, .int .i64 yn, .int .i64 ym, .string ys] 34)) ((Chg.refl _ _).alloc _))
        clear ch2 hr bo BGH
        go_wp2_with fail
        refine (unhide hrd).mono ?_
        clear hrd
        rintro e w4 ⟨rfl, q4, hkp⟩
        have hk1 := hide (hkp (w4.alloc (.cells #[.string h0, .string h1, .string h2, .int .i64 hw] 29)) ((Chg.refl _ _).alloc _))
        have q24 : Quiet w2 (w4.alloc (.cells #[.string h0, .string h1, .string h2, .int .i64 hw] 29)) := (Quiet.trans ((Chg.refl _ _).alloc _) q4).alloc _
        have bO := hide (q24.blk (unhide bo2))
        have bG := hide (q24.blk (unhide bG2))
        have bA := hide ((q4.blk (unhide ba)).alloc (.cells #[.string h0, .string h1, .string h2, .int .i64 hw] 29))
        have bH := hide (Blk.new w4 29 [.string h0, .string h1, .string h2, .int .i64 hw])
        clear hkp q4 q24 bo2 bG2 ba
        have cO0 := (unhide bO).cell 0
        have cO1 := (unhide bO).cell 1
        have cO2 := (unhide bO).cell 2
        have cO3 := (unhide bO).cell 3
        have cO4 := (unhide bO).cell 4
        have cO5 := (unhide bO).cell 5
        have cG0 := (unhide bG).cell 0
        have cG1 := (unhide bG).cell 1
        have cG2 := (unhide bG).cell 2
        have cG3 := (unhide bG).cell 3
        have cA0 := (unhide bA).cell 0
        have cA1 := (unhide bA).cell 1
        have cA2 := (unhide bA).cell 2
        have cA3 := (unhide bA).cell 3
        have cH0 := (unhide bH).cell 0
        have cH1 := (unhide bH).cell 1
        have cH2 := (unhide bH).cell 2
        have cH3 := (unhide bH).cell 3
        simp at cO0 cO1 cO2 cO3 cO4 cO5 cG0 cG1 cG2 cG3 cA0 cA1 cA2 cA3 cH0 cH1 cH2 cH3
        go_wp2_with fail
        refine (unhide hk1).mono ?_
        clear hk1
        rintro e w6 ⟨rfl, q6, hK⟩
        have bG6 := q6.blk (unhide bG)
        have bH6 := q6.blk (unhide bH)
        have KH := hide hK
        clear q6 hK bO bG bA bH cO0 cO1 cO2 cO3 cO4 cO5 cG0 cG1 cG2 cG3 cA0 cA1 cA2 cA3 cH0 cH1 cH2 cH3
        have dG0 := bG6.cell 0
        have dG1 := bG6.cell 1
        have dG2 := bG6.cell 2
        have dG3 := bG6.cell 3
        have dH0 := bH6.cell 0
        have dH1 := bH6.cell 1
        have dH2 := bH6.cell 2
        have dH3 := bH6.cell 3
        simp at dG0 dG1 dG2 dG3 dH0 dH1 dH2 dH3
        have fG := bG6.frozen
        clear bG6 bH6
        go_wp2
        go_roundw
        case rel => exact ⟨j + 1, (unhide jH).1, by go_num, unhide KH⟩
        case measure =>
          obtain ⟨z1, z2⟩ := unhide jH
          simp [intOf]; omega
      · have g1 : decide (j < len) = true := by simpa using hlt
        have g2 : ¬ (j : Int) < 4398046511104 := hmax
        have g3 : ¬ (len : Int) < 4398046511104 := by omega
        clear hb hmax
        go_wp2
        go_ret
        exact ⟨rfl, unhide hbelH⟩
    · have g1 : decide (j < len) = false := by simpa using hlt
      have g2 : ¬ (j : Int) < (len : Int) := by omega
      clear hb
      by_cases g3 : (len : Int) < 4398046511104
      · go_wp2
        go_ret
        exact ⟨rfl, unhide hbelH⟩
      · go_wp2
        go_ret
        exact ⟨rfl, unhide hbelH⟩

theorem keeps_any (w : World) (a : Option Addr) (len cap : Nat) (ops : List Opr) (ho : IsOps w a len cap ops) :
    Calls Try.prog 3 #[.slice a len cap] w fun e w' => e = .returned (.bool true) ∧ Below w.heap.size w w' := by
  go_enter Try.func3, Try.ntmps3
  go_wp2_with fail
  refine (keepsUpTo_any w a len cap ops ho).mono ?_
  rintro e w1 ⟨rfl, bel⟩
  go_wp2
  go_ret
  exact ⟨rfl, bel⟩
end Go.Proofs.Qxb6500368a
