/-
  THE WALK OF Refines AND RefinesQuiet. (gen2walk.py)
-/
import Derived.Test.Qxb6500362aPlay
import Derived.Test.Qxb6500362aScript
import Derived.Deep.DeepCutAuto
namespace Go.Proofs.Qxb6500362a
open Go.RowKit Go.Qx
set_option linter.unusedSimpArgs false
set_option linter.unusedVariables false

/-- A script in memory: it is nil and empty, or its steps lie one behind the other. -/
structure IsOps (w : World) (a : Option Addr) (len cap : Nat) (ops : List Opr) : Prop where
  count : ops.length = len
  small : len ≤ 9223372036854775807
  cells : ∀ i (h : i < ops.length), ∃ b o, a = some ⟨b, o, none⟩ ∧ b < w.heap.size ∧
    w.cell? ⟨b, o + i * 6, none⟩ = some (.int .i64 ops[i].k) ∧ w.cell? ⟨b, o + i * 6 + 1, none⟩ = some (.int .i64 ops[i].a) ∧ w.cell? ⟨b, o + i * 6 + 2, none⟩ = some (.int .i64 ops[i].b) ∧
    w.cell? ⟨b, o + i * 6 + 3, none⟩ = some (.int .i64 ops[i].c) ∧ w.cell? ⟨b, o + i * 6 + 4, none⟩ = some (.string ops[i].s) ∧ w.cell? ⟨b, o + i * 6 + 5, none⟩ = some (.string ops[i].t)

set_option maxHeartbeats 4000000 in
set_option maxRecDepth 100000 in
theorem walk_any (w : World) (a : Option Addr) (len cap : Nat) (ops : List Opr) (quiet : Bool) (ho : IsOps w a len cap ops) :
    Calls Try.prog 18 #[.slice a len cap, .bool quiet] w fun e w' => (∃ n : Int, e = .returned (.tuple #[.int .i64 (-1), .int .i64 n])) ∧ Below w.heap.size w w' := by
  have hlen := ho.small
  have hnew := new_any w
  unfold newPost at hnew
  go_enter Try.func18, Try.ntmps18
  go_wp2_with fail
  refine hnew.mono ?_
  clear hnew
  rintro e w1 ⟨x, v, rfl, q1, ho1, R1⟩
  have hmn := mnew_any w1
  unfold newMPost at hmn
  go_wp2_with fail
  refine hmn.mono ?_
  clear hmn
  rintro e w2 ⟨m, p, q, rfl, q2, ho2, M2⟩
  have hb0H := hide (both_new (Chg.refl (fun k => w.heap.size ≤ k) w) q1 ho1 R1 q2 ho2 M2)
  clear q1 q2 R1 M2 ho1 ho2
  cases quiet with
  | true =>
    have hb3 := hb0H
    clear hb0H
    go_wp2
    go_loopw [6, 7, 8] (fun ux um i wr => ∃ (j x m : Nat) (S : Nat → Prop), j ≤ len ∧ ux = .pointer (some ⟨x, 0, none⟩) ∧ um = .pointer (some ⟨m, 0, none⟩) ∧ i = .int .i64 j ∧ Both w S wr x m) (fun _ _ i _ => len - (intOf i).toNat)
    case atStart => exact ⟨0, _, _, _, Nat.zero_le _, rfl, rfl, rfl, unhide hb3⟩
    case round =>
      clear hb3
      obtain ⟨j, x, m, S, hj, rfl, rfl, rfl, hb⟩ := hrel
      have hbel : Below w.heap.size w wr := hb.chg.below _ (Nat.le_refl _) (fun _ h => h)
      have hbelH := hide hbel
      clear hbel
      by_cases hlt : j < len
      · by_cases hmax : (j : Int) < 4398046511104
        · have hjo : j < ops.length := by rw [ho.count]; exact hlt
          obtain ⟨sb, so, rfl, hsb, k0, k1, k2, k3, k4, k5⟩ := ho.cells j hjo
          generalize ops[j] = o at *
          obtain ⟨ok, oa, ob, oc, os, ot⟩ := o
          simp only at k0 k1 k2 k3 k4 k5
          have i1 : (0 : Int) ≤ (j : Int) := by omega
          have i2 : (j : Int) < (len : Int) := by omega
          have g1 : decide (j < len) = true := by simpa using hlt
          have hbl := unhide hbelH
          rw [← hbl.cell (p := ⟨sb, so + j * 6, none⟩) hsb] at k0
          rw [← hbl.cell (p := ⟨sb, so + j * 6 + 1, none⟩) hsb] at k1
          rw [← hbl.cell (p := ⟨sb, so + j * 6 + 2, none⟩) hsb] at k2
          rw [← hbl.cell (p := ⟨sb, so + j * 6 + 3, none⟩) hsb] at k3
          rw [← hbl.cell (p := ⟨sb, so + j * 6 + 4, none⟩) hsb] at k4
          rw [← hbl.cell (p := ⟨sb, so + j * 6 + 5, none⟩) hsb] at k5
          clear hbl
          have hq0 : Quiet wr (wr.alloc (.cells #[.int .i64 ok, .int .i64 oa, .int .i64 ob, .int .i64 oc, .string os, .string ot] 28)) := (Chg.refl _ _).alloc _
          have hb4 := hb.quiet hq0
          have bo := Blk.new wr 28 [.int .i64 ok, .int .i64 oa, .int .i64 ob, .int .i64 oc, .string os, .string ot]
          clear hq0
          have jH := hide (And.intro hlt hmax)
          by_cases hk1 : ok = 1
          · have b1 : (ok == 1) = true := by simpa using hk1
            have hnew := hide (new_any (wr.alloc (.cells #[.int .i64 ok, .int .i64 oa, .int .i64 ob, .int .i64 oc, .string os, .string ot] 28)))
            unfold newPost at hnew
            have hb4H := hide hb4
            have boH := hide bo
            clear hk1 hb hb4 bo
            go_wp2_with fail
            refine (unhide hnew).mono ?_
            clear hnew
            rintro e w1 ⟨x, v, rfl, q1, ho1, R1⟩
            have hmn := hide (mnew_any w1)
            unfold newMPost at hmn
            have q1H := hide (And.intro q1 (And.intro ho1 R1))
            clear q1 ho1 R1
            go_wp2_with fail
            refine (unhide hmn).mono ?_
            clear hmn
            rintro e w4 ⟨m, p, q, rfl, q2, ho2, M2⟩
            obtain ⟨q1, ho1, R1⟩ := unhide q1H
            have hb4 := both_new (unhide hb4H).chg q1 ho1 R1 q2 ho2 M2
            have bo := (Quiet.trans q1 q2).blk (unhide boH)
            have nV4 : ¬ (fun k => (wr.alloc (.cells #[.int .i64 ok, .int .i64 oa, .int .i64 ob, .int .i64 oc, .string os, .string ot] 28)).heap.size ≤ k ∧ k < w4.heap.size) wr.heap.size := fun h => by have := h.1; simp at this; omega
            generalize (fun k => (wr.alloc (.cells #[.int .i64 ok, .int .i64 oa, .int .i64 ob, .int .i64 oc, .string os, .string ot] 28)).heap.size ≤ k ∧ k < w4.heap.size) = S at *
            clear q1 q2 ho1 ho2 R1 M2 hb4H boH q1H
            generalize hV4 : wr.heap.size = V4 at *
            have v4H := hide hV4
            clear hV4 i1 i2 g1 hmax hlt hj hjo k0 k1 k2 k3 k4 k5 b1
            have hbs := hb4
            have co0 := bo.cell 0
            have co1 := bo.cell 1
            have co2 := bo.cell 2
            have co3 := bo.cell 3
            have co4 := bo.cell 4
            have co5 := bo.cell 5
            simp at co0 co1 co2 co3 co4 co5
            have z4 := bo.lt
            obtain ⟨⟨ye, yn, ym, ys⟩, hdo⟩ := both_step hb4 ⟨ok, oa, ob, oc, os, ot⟩
            simp only at hdo
            have hdoH := hide hdo
            have wlt : Hid (w.heap.size ≤ w4.heap.size) := hb4.chg.size
            clear hdo hb4
            have hbsH := hide hbs
            clear hbs
            go_wp2_with fail
            refine (unhide hdoH).mono ?_
            clear hdoH co0 co1 co2 co3 co4 co5
            rintro e w5 ⟨rfl, hch5, hdom⟩
            have bo5 : Blk w5 V4 28 [.int .i64 ok, .int .i64 oa, .int .i64 ob, .int .i64 oc, .string os, .string ot] := hch5.blk bo nV4
            have hdm := hide (hdom ((w5.alloc (.cells #[.int .i64 ye, .int .i64 yn, .int .i64 ym, .string ys] 35)).drew) (((Chg.refl _ _).alloc _).drew))
            have bx := Blk.new w5 35 [.int .i64 ye, .int .i64 yn, .int .i64 ym, .string ys]
            have bo6 := bo5.alloc (.cells #[.int .i64 ye, .int .i64 yn, .int .i64 ym, .string ys] 35)
            have z5 := hch5.size
            have nV5 : ¬ S w5.heap.size := fun h => by have := ((unhide hbsH).rng _ h).2; omega
            have y5 := bo5.lt
            clear hdom bo5 hch5 bo
            go_wp2_with fail
            generalize hWW : w5.alloc (.cells #[.int .i64 ye, .int .i64 yn, .int .i64 ym, .string ys] 35) = W6 at *
            clear hWW
            generalize hV5 : w5.heap.size = V5 at *
            have vH := hide hV5
            clear hV5
            have o0 := bo6.cell 0
            have o1 := bo6.cell 1
            have o2 := bo6.cell 2
            have o3 := bo6.cell 3
            have o4 := bo6.cell 4
            have o5 := bo6.cell 5
            have x0 := bx.cell 0
            have x1 := bx.cell 1
            have x2 := bx.cell 2
            have x3 := bx.cell 3
            simp at o0 o1 o2 o3 o4 o5 x0 x1 x2 x3
            have hX : (ys.toList == ys.toList) = true := by simp
            have hdm' := unhide hdm
            clear hdm
            go_region_held3 (fun W => W.cell? ⟨V4, 0, none⟩ = some (.int .i64 ok) ∧ W.cell? ⟨V4, 1, none⟩ = some (.int .i64 oa) ∧ W.cell? ⟨V4, 2, none⟩ = some (.int .i64 ob) ∧ W.cell? ⟨V4, 3, none⟩ = some (.int .i64 oc) ∧ W.cell? ⟨V4, 4, none⟩ = some (.string os) ∧ W.cell? ⟨V4, 5, none⟩ = some (.string ot) ∧ W.cell? ⟨V5, 0, none⟩ = some (.int .i64 ye) ∧ W.cell? ⟨V5, 1, none⟩ = some (.int .i64 yn) ∧ W.cell? ⟨V5, 2, none⟩ = some (.int .i64 ym) ∧ W.cell? ⟨V5, 3, none⟩ = some (.string ys)) (first | exact ⟨p0, p1, p2, p3, p4, p5, q0, q1, q2, q3⟩ | go_keep) (first | (go_at_call 43; (with_reducible refine hdm'.mono ?_); rintro e w7 ⟨rfl, hch7, hb7⟩; have bo7 := hch7.blk bo6.drew (by exact nV4); have bx7 := hch7.blk bx.drew nV5; have p0 := bo7.cell 0; have p1 := bo7.cell 1; have p2 := bo7.cell 2; have p3 := bo7.cell 3; have p4 := bo7.cell 4; have p5 := bo7.cell 5; have q0 := bx7.cell 0; have q1 := bx7.cell 1; have q2 := bx7.cell 2; have q3 := bx7.cell 3; simp at p0 p1 p2 p3 p4 p5 q0 q1 q2 q3))
            rename_i hHeld
            clear hHeld
            have hb8 := hide hb7
            clear hb7 hch7 hdm' p0 p1 p2 p3 p4 p5 q0 q1 q2 q3 o0 o1 o2 o3 o4 o5 x0 x1 x2 x3 bo6 bx bo7 bx7 vH v4H
            obtain ⟨hlt, hmax⟩ := unhide jH
            go_wp2
            go_roundw
            case rel => exact ⟨j + 1, _, _, _, by omega, rfl, rfl, by go_num, unhide hb8⟩
            case measure => simp [intOf]; omega
          · have b1 : (ok == 1) = false := by simpa using hk1
            have hb0 := hb
            clear hk1 hb
            go_upto_if 38 with fail
            have nV4 : ¬ S wr.heap.size := fun h => Nat.lt_irrefl _ (hb0.rng _ h).2
            clear hb0
            generalize hW4 : wr.alloc (.cells #[.int .i64 ok, .int .i64 oa, .int .i64 ob, .int .i64 oc, .string os, .string ot] 28) = w4 at *
            generalize hV4 : wr.heap.size = V4 at *
            have v4H := hide hV4
            clear hW4 hV4 i1 i2 g1 hmax hlt hj hjo k0 k1 k2 k3 k4 k5 b1
            have hbs := hb4
            have co0 := bo.cell 0
            have co1 := bo.cell 1
            have co2 := bo.cell 2
            have co3 := bo.cell 3
            have co4 := bo.cell 4
            have co5 := bo.cell 5
            simp at co0 co1 co2 co3 co4 co5
            have z4 := bo.lt
            obtain ⟨⟨ye, yn, ym, ys⟩, hdo⟩ := both_step hb4 ⟨ok, oa, ob, oc, os, ot⟩
            simp only at hdo
            have hdoH := hide hdo
            have wlt : Hid (w.heap.size ≤ w4.heap.size) := hb4.chg.size
            clear hdo hb4
            have hbsH := hide hbs
            clear hbs
            go_wp2_with fail
            refine (unhide hdoH).mono ?_
            clear hdoH co0 co1 co2 co3 co4 co5
            rintro e w5 ⟨rfl, hch5, hdom⟩
            have bo5 : Blk w5 V4 28 [.int .i64 ok, .int .i64 oa, .int .i64 ob, .int .i64 oc, .string os, .string ot] := hch5.blk bo nV4
            have hdm := hide (hdom ((w5.alloc (.cells #[.int .i64 ye, .int .i64 yn, .int .i64 ym, .string ys] 35)).drew) (((Chg.refl _ _).alloc _).drew))
            have bx := Blk.new w5 35 [.int .i64 ye, .int .i64 yn, .int .i64 ym, .string ys]
            have bo6 := bo5.alloc (.cells #[.int .i64 ye, .int .i64 yn, .int .i64 ym, .string ys] 35)
            have z5 := hch5.size
            have nV5 : ¬ S w5.heap.size := fun h => by have := ((unhide hbsH).rng _ h).2; omega
            have y5 := bo5.lt
            clear hdom bo5 hch5 bo
            go_wp2_with fail
            generalize hWW : w5.alloc (.cells #[.int .i64 ye, .int .i64 yn, .int .i64 ym, .string ys] 35) = W6 at *
            clear hWW
            generalize hV5 : w5.heap.size = V5 at *
            have vH := hide hV5
            clear hV5
            have o0 := bo6.cell 0
            have o1 := bo6.cell 1
            have o2 := bo6.cell 2
            have o3 := bo6.cell 3
            have o4 := bo6.cell 4
            have o5 := bo6.cell 5
            have x0 := bx.cell 0
            have x1 := bx.cell 1
            have x2 := bx.cell 2
            have x3 := bx.cell 3
            simp at o0 o1 o2 o3 o4 o5 x0 x1 x2 x3
            have hX : (ys.toList == ys.toList) = true := by simp
            have hdm' := unhide hdm
            clear hdm
            go_region_held3 (fun W => W.cell? ⟨V4, 0, none⟩ = some (.int .i64 ok) ∧ W.cell? ⟨V4, 1, none⟩ = some (.int .i64 oa) ∧ W.cell? ⟨V4, 2, none⟩ = some (.int .i64 ob) ∧ W.cell? ⟨V4, 3, none⟩ = some (.int .i64 oc) ∧ W.cell? ⟨V4, 4, none⟩ = some (.string os) ∧ W.cell? ⟨V4, 5, none⟩ = some (.string ot) ∧ W.cell? ⟨V5, 0, none⟩ = some (.int .i64 ye) ∧ W.cell? ⟨V5, 1, none⟩ = some (.int .i64 yn) ∧ W.cell? ⟨V5, 2, none⟩ = some (.int .i64 ym) ∧ W.cell? ⟨V5, 3, none⟩ = some (.string ys)) (first | exact ⟨p0, p1, p2, p3, p4, p5, q0, q1, q2, q3⟩ | go_keep) (first | (go_at_call 43; (with_reducible refine hdm'.mono ?_); rintro e w7 ⟨rfl, hch7, hb7⟩; have bo7 := hch7.blk bo6.drew (by exact nV4); have bx7 := hch7.blk bx.drew nV5; have p0 := bo7.cell 0; have p1 := bo7.cell 1; have p2 := bo7.cell 2; have p3 := bo7.cell 3; have p4 := bo7.cell 4; have p5 := bo7.cell 5; have q0 := bx7.cell 0; have q1 := bx7.cell 1; have q2 := bx7.cell 2; have q3 := bx7.cell 3; simp at p0 p1 p2 p3 p4 p5 q0 q1 q2 q3))
            rename_i hHeld
            clear hHeld
            have hb8 := hide hb7
            clear hb7 hch7 hdm' p0 p1 p2 p3 p4 p5 q0 q1 q2 q3 o0 o1 o2 o3 o4 o5 x0 x1 x2 x3 bo6 bx bo7 bx7 vH v4H
            obtain ⟨hlt, hmax⟩ := unhide jH
            go_wp2
            go_roundw
            case rel => exact ⟨j + 1, _, _, _, by omega, rfl, rfl, by go_num, unhide hb8⟩
            case measure => simp [intOf]; omega
        · have g1 : decide (j < len) = true := by simpa using hlt
          have g2 : ¬ (j : Int) < 4398046511104 := hmax
          have g3 : ¬ (len : Int) < 4398046511104 := by omega
          clear hb hmax
          go_wp2
          go_ret2
          exact ⟨⟨_, rfl⟩, unhide hbelH⟩
      · have g1 : decide (j < len) = false := by simpa using hlt
        have g2 : ¬ (j : Int) < (len : Int) := by omega
        clear hb
        by_cases g3 : (len : Int) < 4398046511104
        · go_wp2
          go_ret2
          exact ⟨⟨_, rfl⟩, unhide hbelH⟩
        · go_wp2
          go_ret2
          exact ⟨⟨_, rfl⟩, unhide hbelH⟩
  | false =>
    go_wp2_with fail
    refine (both_seen (unhide hb0H)).mono ?_
    rintro e w3 ⟨rfl, q3⟩
    have hb3 := hide ((unhide hb0H).quiet q3)
    clear hb0H q3
    go_wp2
    go_loopw [6, 7, 8] (fun ux um i wr => ∃ (j x m : Nat) (S : Nat → Prop), j ≤ len ∧ ux = .pointer (some ⟨x, 0, none⟩) ∧ um = .pointer (some ⟨m, 0, none⟩) ∧ i = .int .i64 j ∧ Both w S wr x m) (fun _ _ i _ => len - (intOf i).toNat)
    case atStart => exact ⟨0, _, _, _, Nat.zero_le _, rfl, rfl, rfl, unhide hb3⟩
    case round =>
      clear hb3
      obtain ⟨j, x, m, S, hj, rfl, rfl, rfl, hb⟩ := hrel
      have hbel : Below w.heap.size w wr := hb.chg.below _ (Nat.le_refl _) (fun _ h => h)
      have hbelH := hide hbel
      clear hbel
      by_cases hlt : j < len
      · by_cases hmax : (j : Int) < 4398046511104
        · have hjo : j < ops.length := by rw [ho.count]; exact hlt
          obtain ⟨sb, so, rfl, hsb, k0, k1, k2, k3, k4, k5⟩ := ho.cells j hjo
          generalize ops[j] = o at *
          obtain ⟨ok, oa, ob, oc, os, ot⟩ := o
          simp only at k0 k1 k2 k3 k4 k5
          have i1 : (0 : Int) ≤ (j : Int) := by omega
          have i2 : (j : Int) < (len : Int) := by omega
          have g1 : decide (j < len) = true := by simpa using hlt
          have hbl := unhide hbelH
          rw [← hbl.cell (p := ⟨sb, so + j * 6, none⟩) hsb] at k0
          rw [← hbl.cell (p := ⟨sb, so + j * 6 + 1, none⟩) hsb] at k1
          rw [← hbl.cell (p := ⟨sb, so + j * 6 + 2, none⟩) hsb] at k2
          rw [← hbl.cell (p := ⟨sb, so + j * 6 + 3, none⟩) hsb] at k3
          rw [← hbl.cell (p := ⟨sb, so + j * 6 + 4, none⟩) hsb] at k4
          rw [← hbl.cell (p := ⟨sb, so + j * 6 + 5, none⟩) hsb] at k5
          clear hbl
          have hq0 : Quiet wr (wr.alloc (.cells #[.int .i64 ok, .int .i64 oa, .int .i64 ob, .int .i64 oc, .string os, .string ot] 28)) := (Chg.refl _ _).alloc _
          have hb4 := hb.quiet hq0
          have bo := Blk.new wr 28 [.int .i64 ok, .int .i64 oa, .int .i64 ob, .int .i64 oc, .string os, .string ot]
          clear hq0
          have jH := hide (And.intro hlt hmax)
          by_cases hk1 : ok = 1
          · have b1 : (ok == 1) = true := by simpa using hk1
            have hnew := hide (new_any (wr.alloc (.cells #[.int .i64 ok, .int .i64 oa, .int .i64 ob, .int .i64 oc, .string os, .string ot] 28)))
            unfold newPost at hnew
            have hb4H := hide hb4
            have boH := hide bo
            clear hk1 hb hb4 bo
            go_wp2_with fail
            refine (unhide hnew).mono ?_
            clear hnew
            rintro e w1 ⟨x, v, rfl, q1, ho1, R1⟩
            have hmn := hide (mnew_any w1)
            unfold newMPost at hmn
            have q1H := hide (And.intro q1 (And.intro ho1 R1))
            clear q1 ho1 R1
            go_wp2_with fail
            refine (unhide hmn).mono ?_
            clear hmn
            rintro e w4 ⟨m, p, q, rfl, q2, ho2, M2⟩
            obtain ⟨q1, ho1, R1⟩ := unhide q1H
            have hb4 := both_new (unhide hb4H).chg q1 ho1 R1 q2 ho2 M2
            have bo := (Quiet.trans q1 q2).blk (unhide boH)
            have nV4 : ¬ (fun k => (wr.alloc (.cells #[.int .i64 ok, .int .i64 oa, .int .i64 ob, .int .i64 oc, .string os, .string ot] 28)).heap.size ≤ k ∧ k < w4.heap.size) wr.heap.size := fun h => by have := h.1; simp at this; omega
            generalize (fun k => (wr.alloc (.cells #[.int .i64 ok, .int .i64 oa, .int .i64 ob, .int .i64 oc, .string os, .string ot] 28)).heap.size ≤ k ∧ k < w4.heap.size) = S at *
            clear q1 q2 ho1 ho2 R1 M2 hb4H boH q1H
            generalize hV4 : wr.heap.size = V4 at *
            have v4H := hide hV4
            clear hV4 i1 i2 g1 hmax hlt hj hjo k0 k1 k2 k3 k4 k5 b1
            have hbs := hb4
            have co0 := bo.cell 0
            have co1 := bo.cell 1
            have co2 := bo.cell 2
            have co3 := bo.cell 3
            have co4 := bo.cell 4
            have co5 := bo.cell 5
            simp at co0 co1 co2 co3 co4 co5
            have z4 := bo.lt
            obtain ⟨⟨ye, yn, ym, ys⟩, hdo⟩ := both_step hb4 ⟨ok, oa, ob, oc, os, ot⟩
            simp only at hdo
            have hdoH := hide hdo
            have wlt : Hid (w.heap.size ≤ w4.heap.size) := hb4.chg.size
            clear hdo hb4
            have hbsH := hide hbs
            clear hbs
            go_wp2_with fail
            refine (unhide hdoH).mono ?_
            clear hdoH co0 co1 co2 co3 co4 co5
            rintro e w5 ⟨rfl, hch5, hdom⟩
            have bo5 : Blk w5 V4 28 [.int .i64 ok, .int .i64 oa, .int .i64 ob, .int .i64 oc, .string os, .string ot] := hch5.blk bo nV4
            have hdm := hide (hdom ((w5.alloc (.cells #[.int .i64 ye, .int .i64 yn, .int .i64 ym, .string ys] 35)).drew) (((Chg.refl _ _).alloc _).drew))
            have bx := Blk.new w5 35 [.int .i64 ye, .int .i64 yn, .int .i64 ym, .string ys]
            have bo6 := bo5.alloc (.cells #[.int .i64 ye, .int .i64 yn, .int .i64 ym, .string ys] 35)
            have z5 := hch5.size
            have nV5 : ¬ S w5.heap.size := fun h => by have := ((unhide hbsH).rng _ h).2; omega
            have y5 := bo5.lt
            clear hdom bo5 hch5 bo
            go_wp2_with fail
            generalize hWW : w5.alloc (.cells #[.int .i64 ye, .int .i64 yn, .int .i64 ym, .string ys] 35) = W6 at *
            clear hWW
            generalize hV5 : w5.heap.size = V5 at *
            have vH := hide hV5
            clear hV5
            have o0 := bo6.cell 0
            have o1 := bo6.cell 1
            have o2 := bo6.cell 2
            have o3 := bo6.cell 3
            have o4 := bo6.cell 4
            have o5 := bo6.cell 5
            have x0 := bx.cell 0
            have x1 := bx.cell 1
            have x2 := bx.cell 2
            have x3 := bx.cell 3
            simp at o0 o1 o2 o3 o4 o5 x0 x1 x2 x3
            have hX : (ys.toList == ys.toList) = true := by simp
            have hdm' := unhide hdm
            clear hdm
            go_region_held3 (fun W => W.cell? ⟨V4, 0, none⟩ = some (.int .i64 ok) ∧ W.cell? ⟨V4, 1, none⟩ = some (.int .i64 oa) ∧ W.cell? ⟨V4, 2, none⟩ = some (.int .i64 ob) ∧ W.cell? ⟨V4, 3, none⟩ = some (.int .i64 oc) ∧ W.cell? ⟨V4, 4, none⟩ = some (.string os) ∧ W.cell? ⟨V4, 5, none⟩ = some (.string ot) ∧ W.cell? ⟨V5, 0, none⟩ = some (.int .i64 ye) ∧ W.cell? ⟨V5, 1, none⟩ = some (.int .i64 yn) ∧ W.cell? ⟨V5, 2, none⟩ = some (.int .i64 ym) ∧ W.cell? ⟨V5, 3, none⟩ = some (.string ys)) (first | exact ⟨p0, p1, p2, p3, p4, p5, q0, q1, q2, q3⟩ | go_keep) (first | (go_at_call 43; (with_reducible refine hdm'.mono ?_); rintro e w7 ⟨rfl, hch7, hb7⟩; have bo7 := hch7.blk bo6.drew (by exact nV4); have bx7 := hch7.blk bx.drew nV5; have p0 := bo7.cell 0; have p1 := bo7.cell 1; have p2 := bo7.cell 2; have p3 := bo7.cell 3; have p4 := bo7.cell 4; have p5 := bo7.cell 5; have q0 := bx7.cell 0; have q1 := bx7.cell 1; have q2 := bx7.cell 2; have q3 := bx7.cell 3; simp at p0 p1 p2 p3 p4 p5 q0 q1 q2 q3))
            rename_i hHeld
            clear hHeld
            have hb8 := hide hb7
            clear hb7 hch7 hdm' p0 p1 p2 p3 p4 p5 q0 q1 q2 q3 o0 o1 o2 o3 o4 o5 x0 x1 x2 x3 bo6 bx bo7 bx7 vH v4H
            go_wp2_with fail
            refine (both_seen (unhide hb8)).mono ?_
            rintro e w9 ⟨rfl, q9⟩
            have hb9 := hide ((unhide hb8).quiet q9)
            clear hb8 q9
            obtain ⟨hlt, hmax⟩ := unhide jH
            go_wp2
            go_roundw
            case rel => exact ⟨j + 1, _, _, _, by omega, rfl, rfl, by go_num, unhide hb9⟩
            case measure => simp [intOf]; omega
          · have b1 : (ok == 1) = false := by simpa using hk1
            have hb0 := hb
            clear hk1 hb
            go_upto_if 38 with fail
            have nV4 : ¬ S wr.heap.size := fun h => Nat.lt_irrefl _ (hb0.rng _ h).2
            clear hb0
            generalize hW4 : wr.alloc (.cells #[.int .i64 ok, .int .i64 oa, .int .i64 ob, .int .i64 oc, .string os, .string ot] 28) = w4 at *
            generalize hV4 : wr.heap.size = V4 at *
            have v4H := hide hV4
            clear hW4 hV4 i1 i2 g1 hmax hlt hj hjo k0 k1 k2 k3 k4 k5 b1
            have hbs := hb4
            have co0 := bo.cell 0
            have co1 := bo.cell 1
            have co2 := bo.cell 2
            have co3 := bo.cell 3
            have co4 := bo.cell 4
            have co5 := bo.cell 5
            simp at co0 co1 co2 co3 co4 co5
            have z4 := bo.lt
            obtain ⟨⟨ye, yn, ym, ys⟩, hdo⟩ := both_step hb4 ⟨ok, oa, ob, oc, os, ot⟩
            simp only at hdo
            have hdoH := hide hdo
            have wlt : Hid (w.heap.size ≤ w4.heap.size) := hb4.chg.size
            clear hdo hb4
            have hbsH := hide hbs
            clear hbs
            go_wp2_with fail
            refine (unhide hdoH).mono ?_
            clear hdoH co0 co1 co2 co3 co4 co5
            rintro e w5 ⟨rfl, hch5, hdom⟩
            have bo5 : Blk w5 V4 28 [.int .i64 ok, .int .i64 oa, .int .i64 ob, .int .i64 oc, .string os, .string ot] := hch5.blk bo nV4
            have hdm := hide (hdom ((w5.alloc (.cells #[.int .i64 ye, .int .i64 yn, .int .i64 ym, .string ys] 35)).drew) (((Chg.refl _ _).alloc _).drew))
            have bx := Blk.new w5 35 [.int .i64 ye, .int .i64 yn, .int .i64 ym, .string ys]
            have bo6 := bo5.alloc (.cells #[.int .i64 ye, .int .i64 yn, .int .i64 ym, .string ys] 35)
            have z5 := hch5.size
            have nV5 : ¬ S w5.heap.size := fun h => by have := ((unhide hbsH).rng _ h).2; omega
            have y5 := bo5.lt
            clear hdom bo5 hch5 bo
            go_wp2_with fail
            generalize hWW : w5.alloc (.cells #[.int .i64 ye, .int .i64 yn, .int .i64 ym, .string ys] 35) = W6 at *
            clear hWW
            generalize hV5 : w5.heap.size = V5 at *
            have vH := hide hV5
            clear hV5
            have o0 := bo6.cell 0
            have o1 := bo6.cell 1
            have o2 := bo6.cell 2
            have o3 := bo6.cell 3
            have o4 := bo6.cell 4
            have o5 := bo6.cell 5
            have x0 := bx.cell 0
            have x1 := bx.cell 1
            have x2 := bx.cell 2
            have x3 := bx.cell 3
            simp at o0 o1 o2 o3 o4 o5 x0 x1 x2 x3
            have hX : (ys.toList == ys.toList) = true := by simp
            have hdm' := unhide hdm
            clear hdm
            go_region_held3 (fun W => W.cell? ⟨V4, 0, none⟩ = some (.int .i64 ok) ∧ W.cell? ⟨V4, 1, none⟩ = some (.int .i64 oa) ∧ W.cell? ⟨V4, 2, none⟩ = some (.int .i64 ob) ∧ W.cell? ⟨V4, 3, none⟩ = some (.int .i64 oc) ∧ W.cell? ⟨V4, 4, none⟩ = some (.string os) ∧ W.cell? ⟨V4, 5, none⟩ = some (.string ot) ∧ W.cell? ⟨V5, 0, none⟩ = some (.int .i64 ye) ∧ W.cell? ⟨V5, 1, none⟩ = some (.int .i64 yn) ∧ W.cell? ⟨V5, 2, none⟩ = some (.int .i64 ym) ∧ W.cell? ⟨V5, 3, none⟩ = some (.string ys)) (first | exact ⟨p0, p1, p2, p3, p4, p5, q0, q1, q2, q3⟩ | go_keep) (first | (go_at_call 43; (with_reducible refine hdm'.mono ?_); rintro e w7 ⟨rfl, hch7, hb7⟩; have bo7 := hch7.blk bo6.drew (by exact nV4); have bx7 := hch7.blk bx.drew nV5; have p0 := bo7.cell 0; have p1 := bo7.cell 1; have p2 := bo7.cell 2; have p3 := bo7.cell 3; have p4 := bo7.cell 4; have p5 := bo7.cell 5; have q0 := bx7.cell 0; have q1 := bx7.cell 1; have q2 := bx7.cell 2; have q3 := bx7.cell 3; simp at p0 p1 p2 p3 p4 p5 q0 q1 q2 q3))
            rename_i hHeld
            clear hHeld
            have hb8 := hide hb7
            clear hb7 hch7 hdm' p0 p1 p2 p3 p4 p5 q0 q1 q2 q3 o0 o1 o2 o3 o4 o5 x0 x1 x2 x3 bo6 bx bo7 bx7 vH v4H
            go_wp2_with fail
            refine (both_seen (unhide hb8)).mono ?_
            rintro e w9 ⟨rfl, q9⟩
            have hb9 := hide ((unhide hb8).quiet q9)
            clear hb8 q9
            obtain ⟨hlt, hmax⟩ := unhide jH
            go_wp2
            go_roundw
            case rel => exact ⟨j + 1, _, _, _, by omega, rfl, rfl, by go_num, unhide hb9⟩
            case measure => simp [intOf]; omega
        · have g1 : decide (j < len) = true := by simpa using hlt
          have g2 : ¬ (j : Int) < 4398046511104 := hmax
          have g3 : ¬ (len : Int) < 4398046511104 := by omega
          clear hb hmax
          go_wp2
          go_ret2
          exact ⟨⟨_, rfl⟩, unhide hbelH⟩
      · have g1 : decide (j < len) = false := by simpa using hlt
        have g2 : ¬ (j : Int) < (len : Int) := by omega
        clear hb
        by_cases g3 : (len : Int) < 4398046511104
        · go_wp2
          go_ret2
          exact ⟨⟨_, rfl⟩, unhide hbelH⟩
        · go_wp2
          go_ret2
          exact ⟨⟨_, rfl⟩, unhide hbelH⟩
end Go.Proofs.Qxb6500362a
