/-
  Keeps: THE WALK. (gen2keep.py)
-/
import Derived.Test.Qxb6500362aKeepAny
import Derived.Test.Qxb6500362aFacts
import Derived.Test.Qxb6500362aRefine
namespace Go.Proofs.Qxb6500362a
open Go.RowKit Go.Qx
set_option linter.unusedSimpArgs false
set_option linter.unusedVariables false

/-- The real bench in memory, in new blocks alone. -/
structure KS (W w : World) (x : Nat) : Prop where
  chg : Chg (fun k => W.heap.size ≤ k) W w
  rep : ∃ v re im, Rep w x v re im ∧ Inv re im ∧ ∀ k, own x v k → W.heap.size ≤ k

theorem KS.new {W w w1 : World} {x v : Nat} (h0 : Chg (fun k => W.heap.size ≤ k) W w) (q1 : Quiet w w1) (ho1 : ∀ k, own x v k → w.heap.size ≤ k) (R1 : Rep w1 x v (fun _ => 0) (fun _ => 0)) : KS W w1 x :=
  ⟨h0.trans (q1.chg _), v, _, _, R1, inv_first, fun k hk => Nat.le_trans h0.size (ho1 k hk)⟩

/-- One step: the copy, the step, and what Kept says of it. -/
theorem ks_step {W w : World} {x : Nat} (h : KS W w x) (V : Nat) (hV : W.heap.size ≤ V) (hVw : V < w.heap.size) (hVx : ∀ v re im, Rep w x v re im → ¬ own x v V) (ok oa ob oc : Int) (os ot : ByteArray) (bo : Blk w V 28 [.int .i64 ok, .int .i64 oa, .int .i64 ob, .int .i64 oc, .string os, .string ot]) :
    Calls Try.prog 16 #[.pointer (some ⟨x, 0, none⟩)] w fun e w1 => ∃ c : Nat, e = .returned (.pointer (some ⟨c, 0, none⟩)) ∧ Blk w1 V 28 [.int .i64 ok, .int .i64 oa, .int .i64 ob, .int .i64 oc, .string os, .string ot] ∧
      ∃ ye yn ym ys, Calls Try.prog 15 #[.pointer (some ⟨x, 0, none⟩), .agg #[.int .i64 ok, .int .i64 oa, .int .i64 ob, .int .i64 oc, .string os, .string ot]] w1 fun e w2 => e = .returned (.agg #[.int .i64 ye, .int .i64 yn, .int .i64 ym, .string ys]) ∧ Blk w2 V 28 [.int .i64 ok, .int .i64 oa, .int .i64 ob, .int .i64 oc, .string os, .string ot] ∧
        Calls Try.prog 17 #[.pointer (some ⟨x, 0, none⟩), .pointer (some ⟨c, 0, none⟩), .agg #[.int .i64 ok, .int .i64 oa, .int .i64 ob, .int .i64 oc, .string os, .string ot], .agg #[.int .i64 ye, .int .i64 yn, .int .i64 ym, .string ys]] (w2.alloc (.cells #[.int .i64 ye, .int .i64 yn, .int .i64 ym, .string ys] 35)) fun e w3 => e = .returned (.bool true) ∧ KS W w3 x := by
  obtain ⟨h1, v, re, im, R, I, h2⟩ := h
  refine (copy_any w x v re im R I).mono ?_
  rintro e w1 ⟨c, cv, rfl, q1, hfr, Rc⟩
  have R1 := R.quiet q1
  refine ⟨c, rfl, q1.blk bo, (ansP re im ⟨ok, oa, ob, oc, os, ot⟩).e, (ansP re im ⟨ok, oa, ob, oc, os, ot⟩).n, (ansP re im ⟨ok, oa, ob, oc, os, ot⟩).m, (ansP re im ⟨ok, oa, ob, oc, os, ot⟩).s, ?_⟩
  refine Calls.mono (do_any w1 x v re im R1 I ⟨ok, oa, ob, oc, os, ot⟩) ?_
  rintro e w2 ⟨rfl, ch, R2⟩
  have hap : ∀ k, own x v k → ¬ own c cv k := fun k hk hc => by have := hfr k hc; have := R.lts k hk; omega
  have Rc2 := Rc.of_chg ch hap
  refine ⟨rfl, ch.blk (q1.blk bo) (hVx v re im R), ?_⟩
  have q3 : Quiet w2 (w2.alloc (.cells #[.int .i64 (ansP re im ⟨ok, oa, ob, oc, os, ot⟩).e, .int .i64 (ansP re im ⟨ok, oa, ob, oc, os, ot⟩).n, .int .i64 (ansP re im ⟨ok, oa, ob, oc, os, ot⟩).m, .string (ansP re im ⟨ok, oa, ob, oc, os, ot⟩).s] 35)) := (Chg.refl _ _).alloc _
  refine Calls.mono (kept_any _ x v c cv re im ok oa ob oc os ot (R2.quiet q3) (Rc2.quiet q3) I) ?_
  rintro e w3 ⟨rfl, q4⟩
  refine ⟨rfl, ((h1.trans (q1.chg _)).trans (ch.mono (fun k _ hk => h2 k hk))).trans ((q3.trans q4).chg _), v, _, _, (R2.quiet q3).quiet q4, inv_next I _, h2⟩

set_option maxHeartbeats 4000000 in
set_option maxRecDepth 100000 in
theorem keepsUpTo_any (w : World) (a : Option Addr) (len cap : Nat) (ops : List Opr) (ho : IsOps w a len cap ops) :
    Calls Try.prog 8 #[.slice a len cap] w fun e w' => e = .returned (.int .i64 (-1)) ∧ Below w.heap.size w w' := by
  have hlen := ho.small
  have hf := facts_any w
  go_enter Try.func8, Try.ntmps8
  go_wp2_with fail
  refine hf.mono ?_
  clear hf
  rintro e w0 ⟨rfl, bel0⟩
  have hnew := new_any w0
  unfold newPost at hnew
  have c0H : Hid (Chg (fun k => w.heap.size ≤ k) w w0) := Chg.of_below bel0 _
  clear bel0
  go_wp2_with fail
  refine hnew.mono ?_
  clear hnew
  rintro e w1 ⟨x, v, rfl, q1, ho1, R1⟩
  have hb3 := hide (KS.new (unhide c0H) q1 ho1 R1)
  clear q1 ho1 R1 c0H
  go_wp2
  go_loopw [3, 4] (fun ux i wr => ∃ (j x : Nat), j ≤ len ∧ ux = .pointer (some ⟨x, 0, none⟩) ∧ i = .int .i64 j ∧ KS w wr x) (fun _ i _ => len - (intOf i).toNat)
  case atStart => exact ⟨0, _, Nat.zero_le _, rfl, rfl, unhide hb3⟩
  case round =>
    clear hb3
    obtain ⟨j, x, hj, rfl, rfl, hb⟩ := hrel
    have hbel : Below w.heap.size w wr := hb.chg.below _ (Nat.le_refl _) (fun _ h => h)
    have hbelH := hide hbel
    clear hbel
    by_cases hlt : j < len
    · by_cases hmax : (j : Int) < 4398046511104
      · have hjo : j < ops.length := by rw [ho.count]; exact hlt
        obtain ⟨sb, so, rfl, hsb, k0, k1, k2, k3, k4, k5⟩ := ho.cells j hjo
        generalize ops[j] = o at *
        obtain ⟨ok, oa, ob, oc, os, ot⟩ := o
        simp only at k0 k1 k2 k3 k4 k5
        have i1 : (0 : Int) ≤ (j : Int) := by omega
        have i2 : (j : Int) < (len : Int) := by omega
        have g1 : decide (j < len) = true := by simpa using hlt
        have hbl := unhide hbelH
        rw [← hbl.cell (p := ⟨sb, so + j * 6, none⟩) hsb] at k0
        rw [← hbl.cell (p := ⟨sb, so + j * 6 + 1, none⟩) hsb] at k1
        rw [← hbl.cell (p := ⟨sb, so + j * 6 + 2, none⟩) hsb] at k2
        rw [← hbl.cell (p := ⟨sb, so + j * 6 + 3, none⟩) hsb] at k3
        rw [← hbl.cell (p := ⟨sb, so + j * 6 + 4, none⟩) hsb] at k4
        rw [← hbl.cell (p := ⟨sb, so + j * 6 + 5, none⟩) hsb] at k5
        clear hbl
        have hwr : w.heap.size ≤ wr.heap.size := hb.chg.size
        have jH := hide (And.intro hlt hmax)
        have hbH := hide hb
        clear hb
        by_cases hk1 : ok = 1
        · have b1 : (ok == 1) = true := by simpa using hk1
          have hnew := hide (new_any (wr.alloc (.cells #[.int .i64 ok, .int .i64 oa, .int .i64 ob, .int .i64 oc, .string os, .string ot] 28)))
          unfold newPost at hnew
          have boH := hide (Blk.new wr 28 [.int .i64 ok, .int .i64 oa, .int .i64 ob, .int .i64 oc, .string os, .string ot])
          have ckH : Hid (Chg (fun k => w.heap.size ≤ k) w (wr.alloc (.cells #[.int .i64 ok, .int .i64 oa, .int .i64 ob, .int .i64 oc, .string os, .string ot] 28))) := (unhide hbH).chg.alloc _
          clear hk1
          go_wp2_with fail
          refine (unhide hnew).mono ?_
          clear hnew
          rintro e w4 ⟨x, v, rfl, q1, ho1, R1⟩
          have ks4 := KS.new (unhide ckH) q1 ho1 R1
          have bo4 := q1.blk (unhide boH)
          have nV4 : ∀ v re im, Rep w4 x v re im → ¬ own x v wr.heap.size := by
            intro v' re' im' R' hk
            have ev : v' = v := by
              have e1 := R'.blk.eq R1.blk
              simp at e1
              exact e1
            subst ev
            have := ho1 _ hk
            simp at this
            omega
          have hst := ks_step ks4 wr.heap.size hwr bo4.lt nV4 ok oa ob oc os ot bo4
          have hstH := hide hst
          clear hst ks4 bo4 nV4 q1 ho1 R1 ckH boH k0 k1 k2 k3 k4 k5 b1 g1 i1 i2 hlt hmax hj hjo hbH
          go_wp2_with fail
          refine (unhide hstH).mono ?_
          clear hstH
          rintro e w5 ⟨c, rfl, bo5, ye, yn, ym, ys, hdo⟩
          have co := bo5.cell
          have hdoH := hide hdo
          clear hdo bo5
          go_wp2_with fail
          refine (unhide hdoH).mono ?_
          clear hdoH co
          rintro e w6 ⟨rfl, bo6, hke⟩
          have bo7 := bo6.alloc (.cells #[.int .i64 ye, .int .i64 yn, .int .i64 ym, .string ys] 35)
          have co := bo7.cell
          have bx := Blk.new w6 35 [.int .i64 ye, .int .i64 yn, .int .i64 ym, .string ys]
          have cx := bx.cell
          have hkeH := hide hke
          clear hke bo6 bo7 bx
          go_wp2_with fail
          refine (unhide hkeH).mono ?_
          clear hkeH co cx
          rintro e w8 ⟨rfl, ks8⟩
          have ksH := hide ks8
          clear ks8
          obtain ⟨hlt, hmax⟩ := unhide jH
          go_wp2
          go_roundw
          case rel => exact ⟨j + 1, _, by omega, rfl, by go_num, unhide ksH⟩
          case measure => simp [intOf]; omega
        · have b1 : (ok == 1) = false := by simpa using hk1
          have ks4 : KS w (wr.alloc (.cells #[.int .i64 ok, .int .i64 oa, .int .i64 ob, .int .i64 oc, .string os, .string ot] 28)) x := by
            obtain ⟨h1, v, re, im, R, I, h2⟩ := unhide hbH
            exact ⟨h1.alloc _, v, re, im, R.quiet ((Chg.refl _ _).alloc _), I, h2⟩
          have bo4 := Blk.new wr 28 [.int .i64 ok, .int .i64 oa, .int .i64 ob, .int .i64 oc, .string os, .string ot]
          have nV4 : ∀ v re im, Rep (wr.alloc (.cells #[.int .i64 ok, .int .i64 oa, .int .i64 ob, .int .i64 oc, .string os, .string ot] 28)) x v re im → ¬ own x v wr.heap.size := by
            intro v' re' im' R' hk
            obtain ⟨h1, v, re, im, R, I, h2⟩ := unhide hbH
            have ev : v' = v := by
              have e1 := R'.blk.eq (R.quiet ((Chg.refl _ _).alloc _)).blk
              simp at e1
              exact e1
            subst ev
            have := R.lts _ hk
            omega
          have hst := ks_step ks4 wr.heap.size hwr bo4.lt nV4 ok oa ob oc os ot bo4
          have hstH := hide hst
          clear hst ks4 bo4 nV4 hk1 hbH
          go_wp2_with fail
          refine (unhide hstH).mono ?_
          clear hstH
          rintro e w5 ⟨c, rfl, bo5, ye, yn, ym, ys, hdo⟩
          have co := bo5.cell
          have hdoH := hide hdo
          clear hdo bo5
          go_wp2_with fail
          refine (unhide hdoH).mono ?_
          clear hdoH co
          rintro e w6 ⟨rfl, bo6, hke⟩
          have bo7 := bo6.alloc (.cells #[.int .i64 ye, .int .i64 yn, .int .i64 ym, .string ys] 35)
          have co := bo7.cell
          have bx := Blk.new w6 35 [.int .i64 ye, .int .i64 yn, .int .i64 ym, .string ys]
          have cx := bx.cell
          have hkeH := hide hke
          clear hke bo6 bo7 bx
          go_wp2_with fail
          refine (unhide hkeH).mono ?_
          clear hkeH co cx
          rintro e w8 ⟨rfl, ks8⟩
          have ksH := hide ks8
          clear ks8
          obtain ⟨hlt, hmax⟩ := unhide jH
          go_wp2
          go_roundw
          case rel => exact ⟨j + 1, _, by omega, rfl, by go_num, unhide ksH⟩
          case measure => simp [intOf]; omega
      · have g1 : decide (j < len) = true := by simpa using hlt
        have g2 : ¬ (j : Int) < 4398046511104 := hmax
        clear hb hmax
        go_wp2
        go_ret
        exact ⟨rfl, unhide hbelH⟩
    · have g1 : decide (j < len) = false := by simpa using hlt
      have g2 : ¬ (j : Int) < (len : Int) := by omega
      clear hb
      go_wp2
      go_ret
      exact ⟨rfl, unhide hbelH⟩

theorem keeps_any (w : World) (a : Option Addr) (len cap : Nat) (ops : List Opr) (ho : IsOps w a len cap ops) :
    Calls Try.prog 3 #[.slice a len cap] w fun e w' => e = .returned (.bool true) ∧ Below w.heap.size w w' := by
  go_enter Try.func3, Try.ntmps3
  go_wp2_with fail
  refine (keepsUpTo_any w a len cap ops ho).mono ?_
  rintro e w1 ⟨rfl, bel⟩
  go_wp2
  go_ret
  exact ⟨rfl, bel⟩
end Go.Proofs.Qxb6500362a
