/-
  THE WALK OF Refines AND RefinesQuiet. (gen4walk.py)
-/
import Derived.Test.Qxb6500364aPlay
import Derived.Test.Qxb6500364aScript
import Derived.Deep.DeepCutAuto
namespace Go.Proofs.Qxb6500364a
open Go.RowKit Go.Qx
set_option linter.unusedSimpArgs false
set_option linter.unusedVariables false

/-- A script in memory: it is nil and empty, or its steps lie one behind the other. -/
structure IsOps (w : World) (a : Option Addr) (len cap : Nat) (ops : List Opr) : Prop where
  count : ops.length = len
  small : len ≤ 9223372036854775807
  cells : ∀ i (h : i < ops.length), ∃ b o, a = some ⟨b, o, none⟩ ∧ b < w.heap.size ∧
    w.cell? ⟨b, o + i * 6, none⟩ = some (.int .i64 ops[i].k) ∧ w.cell? ⟨b, o + i * 6 + 1, none⟩ = some (.int .i64 ops[i].a) ∧ w.cell? ⟨b, o + i * 6 + 2, none⟩ = some (.int .i64 ops[i].b) ∧
    w.cell? ⟨b, o + i * 6 + 3, none⟩ = some (.int .i64 ops[i].c) ∧ w.cell? ⟨b, o + i * 6 + 4, none⟩ = some (.string ops[i].s) ∧ w.cell? ⟨b, o + i * 6 + 5, none⟩ = some (.string ops[i].t)

set_option maxHeartbeats 4000000 in
set_option maxRecDepth 100000 in
theorem walk_any (w : World) (a : Option Addr) (len cap : Nat) (ops : List Opr) (quiet : Bool) (ho : IsOps w a len cap ops) :
    Calls Try.prog 8 #[.slice a len cap, .bool quiet] w fun e w' => e = .returned (.int .i64 (-1)) ∧ Below w.heap.size w w' := by
  have hlen := ho.small
  have hnew := new_any w
  unfold newPost ptr at hnew
  go_enter Try.func8, Try.ntmps8
  go_wp2_with fail
  refine hnew.mono ?_
  clear hnew
  rintro e w1 ⟨x, r, n, rfl, q1, ho1, R1⟩
  have hmn := mnew_any w1
  unfold newMPost ptr at hmn
  go_wp2_with fail
  refine hmn.mono ?_
  clear hmn
  rintro e w2 ⟨m, p, q, rfl, q2, ho2, M2⟩
  have hb0 : Both w w2.heap.size w2 x m := by
    have R2 := R1.quiet q2
    have hz := q1.size
    refine ⟨(q1.trans q2).chg _, r, n, p, q, _, _, R2, M2, inv_first, ?_, ?_, ?_⟩
    · intro k hk hm
      have h1 := R1.lts k hk
      have h2 := ho2 k hm
      omega
    · intro k hk
      exact ⟨ho1 k hk, R2.lts k hk⟩
    · intro k hk
      exact ⟨Nat.le_trans hz (ho2 k hk), M2.lts k hk⟩
  have hb0H := hide hb0
  clear hb0 q1 q2 R1 M2 ho1 ho2
  cases quiet with
  | true =>
    have hb3 := hb0H
    clear hb0H
    go_wp2
    go_loopw [7] (fun i wr => ∃ j : Nat, j ≤ len ∧ i = .int .i64 j ∧ Both w wr.heap.size wr x m) (fun i _ => len - (intOf i).toNat)
    case atStart => exact ⟨0, Nat.zero_le _, rfl, unhide hb3⟩
    case round =>
      obtain ⟨i, hi, rfl, hb⟩ := hrel
      clear hb3
      have hbel : Below w.heap.size w wr := hb.chg.below _ (Nat.le_refl _) (fun _ h => h)
      have hbelH := hide hbel
      clear hbel
      by_cases hlt : i < len
      · by_cases hmax : (i : Int) < 4398046511104
        · have hjo : i < ops.length := by rw [ho.count]; exact hlt
          obtain ⟨sb, so, rfl, hsb, hcells⟩ := ho.cells i hjo
          generalize ops[i] = o at *
          obtain ⟨ok, oa, ob, oc, os, ot⟩ := o
          simp only at hcells
          have i1 : (0 : Int) ≤ (i : Int) := by omega
          have i2 : (i : Int) < (len : Int) := by omega
          have g1 : decide (i < len) = true := by simpa using hlt
          have iH := hide (And.intro hlt hmax)
          have hcH := hide hcells
          have hbH := hide hb
          clear hcells hb hbelH
          go_wp2
          clear g1 hmax hlt hi hjo
          go_loopw [8] (fun k w2 => ∃ j : Nat, j ≤ 25 ∧ k = .int .i64 j ∧ Both w w2.heap.size w2 x m) (fun k _ => 26 - (intOf k).toNat)
          case atStart => exact ⟨0, by omega, rfl, unhide hbH⟩
          case round =>
            obtain ⟨j, hj, rfl, hb⟩ := hrel
            clear hbH
            have hbel : Below w.heap.size w wr := hb.chg.below _ (Nat.le_refl _) (fun _ h => h)
            obtain ⟨k0, k1, k2, k3, k4, k5⟩ := unhide hcH
            rw [← hbel.cell (p := ⟨sb, so + i * 6, none⟩) hsb] at k0
            rw [← hbel.cell (p := ⟨sb, so + i * 6 + 1, none⟩) hsb] at k1
            rw [← hbel.cell (p := ⟨sb, so + i * 6 + 2, none⟩) hsb] at k2
            rw [← hbel.cell (p := ⟨sb, so + i * 6 + 3, none⟩) hsb] at k3
            rw [← hbel.cell (p := ⟨sb, so + i * 6 + 4, none⟩) hsb] at k4
            rw [← hbel.cell (p := ⟨sb, so + i * 6 + 5, none⟩) hsb] at k5
            have hbelH := hide hbel
            have hbH := hide hb
            clear hbel hb
            by_cases hj0 : j = 0
            · have c1 : ((j : Int) == 0) = true := by simp; omega
              have jH : Hid (j < 25) := by show j < 25; omega
              clear hj0
              go_upto_if 44 with fail
              clear c1
              have hpart := hide (part_any wr ⟨ok, oa, ob, oc, os, ot⟩ j hj)
              go_wp2_with fail
              refine (unhide hpart).mono ?_
              clear hpart k0 k1 k2 k3 k4 k5
              rintro e w4 ⟨rfl, q4⟩
              generalize partP ⟨ok, oa, ob, oc, os, ot⟩ j = o at *
              obtain ⟨xk, xa, xb, xc, xs, xt⟩ := o
              simp only
              have hb4 := ((unhide hbH).quiet (Quiet.trans q4 ((Chg.refl _ _).alloc (.cells #[.int .i64 xk, .int .i64 xa, .int .i64 xb, .int .i64 xc, .string xs, .string xt] 32)))).self
              have hbz := (unhide hbH).quiet (Quiet.trans q4 ((Chg.refl _ _).alloc (.cells #[.int .i64 xk, .int .i64 xa, .int .i64 xb, .int .i64 xc, .string xs, .string xt] 32)))
              have bo := Blk.new w4 32 [.int .i64 xk, .int .i64 xa, .int .i64 xb, .int .i64 xc, .string xs, .string xt]
              have z0 := q4.size
              have z4 := bo.lt
              obtain ⟨⟨ye, yn, ym, ys⟩, hdo⟩ := both_step hbz ⟨xk, xa, xb, xc, xs, xt⟩
              simp only at hdo
              have hdoH := hide hdo
              clear hdo hb4 hbz hbH q4
              go_wp2_with fail
              refine (unhide hdoH).mono ?_
              clear hdoH
              rintro e w5 ⟨rfl, hch5, hdom⟩
              have bo5 := hch5.blk bo (by omega)
              have hdm := hide (hdom ((w5.alloc (.cells #[.int .i64 ye, .int .i64 yn, .int .i64 ym, .string ys] 36)).drew) (((Chg.refl _ _).alloc _).drew))
              have bx := Blk.new w5 36 [.int .i64 ye, .int .i64 yn, .int .i64 ym, .string ys]
              have bo6 := bo5.alloc (.cells #[.int .i64 ye, .int .i64 yn, .int .i64 ym, .string ys] 36)
              have z5 := hch5.size
              clear hdom bo5 hch5 bo
              go_wp2_with fail
              generalize hWW : w5.alloc (.cells #[.int .i64 ye, .int .i64 yn, .int .i64 ym, .string ys] 36) = W6 at *
              clear hWW
              generalize hV5 : w5.heap.size = V5 at *
              generalize hV4 : w4.heap.size = V4 at *
              have vH := hide (And.intro hV5 hV4)
              clear hV5 hV4
              have o0 := bo6.cell 0
              have o1 := bo6.cell 1
              have o2 := bo6.cell 2
              have o3 := bo6.cell 3
              have o4 := bo6.cell 4
              have o5 := bo6.cell 5
              have x0 := bx.cell 0
              have x1 := bx.cell 1
              have x2 := bx.cell 2
              have x3 := bx.cell 3
              simp at o0 o1 o2 o3 o4 o5 x0 x1 x2 x3
              have hX : (ys.toList == ys.toList) = true := by simp
              have hdm' := unhide hdm
              clear hdm
              go_region_held3 (fun W => W.cell? ⟨V4, 0, none⟩ = some (.int .i64 xk) ∧ W.cell? ⟨V4, 1, none⟩ = some (.int .i64 xa) ∧ W.cell? ⟨V4, 2, none⟩ = some (.int .i64 xb) ∧ W.cell? ⟨V4, 3, none⟩ = some (.int .i64 xc) ∧ W.cell? ⟨V4, 4, none⟩ = some (.string xs) ∧ W.cell? ⟨V4, 5, none⟩ = some (.string xt) ∧ W.cell? ⟨V5, 0, none⟩ = some (.int .i64 ye) ∧ W.cell? ⟨V5, 1, none⟩ = some (.int .i64 yn) ∧ W.cell? ⟨V5, 2, none⟩ = some (.int .i64 ym) ∧ W.cell? ⟨V5, 3, none⟩ = some (.string ys)) (first | exact ⟨p0, p1, p2, p3, p4, p5, q0, q1, q2, q3⟩ | go_keep) (first | (go_at_call 21; (with_reducible refine hdm'.mono ?_); rintro e w7 ⟨rfl, hch7, hb7⟩; have bo7 := hch7.blk bo6.drew (by omega); have bx7 := hch7.blk bx.drew (by omega); have p0 := bo7.cell 0; have p1 := bo7.cell 1; have p2 := bo7.cell 2; have p3 := bo7.cell 3; have p4 := bo7.cell 4; have p5 := bo7.cell 5; have q0 := bx7.cell 0; have q1 := bx7.cell 1; have q2 := bx7.cell 2; have q3 := bx7.cell 3; simp at p0 p1 p2 p3 p4 p5 q0 q1 q2 q3))
              rename_i hHeld
              clear hHeld
              have hb8 := hide hb7
              clear hb7 hch7 hdm' p0 p1 p2 p3 p4 p5 q0 q1 q2 q3 o0 o1 o2 o3 o4 o5 x0 x1 x2 x3 bo6 bx bo7 bx7 vH
              go_wp2
              go_roundw
              case rel => exact ⟨j + 1, by have := unhide jH; omega, by go_num, (unhide hb8).self⟩
              case measure => have := unhide jH; simp [intOf]; omega
            · have c1 : ((j : Int) == 0) = false := by simp; omega
              by_cases h7 : ok = 7
              · have c2 : (ok == 7) = true := by simpa using h7
                by_cases h25 : j < 25
                · have c3 : (j : Int) < 25 := by omega
                  have c4 : decide ((j : Int) < 25) = true := decide_eq_true c3
                  have jH := hide h25
                  clear hj0 h7 h25
                  go_upto_if 44 with fail
                  clear c1 c2 c3 c4
                  have hpart := hide (part_any wr ⟨ok, oa, ob, oc, os, ot⟩ j hj)
                  go_wp2_with fail
                  refine (unhide hpart).mono ?_
                  clear hpart k0 k1 k2 k3 k4 k5
                  rintro e w4 ⟨rfl, q4⟩
                  generalize partP ⟨ok, oa, ob, oc, os, ot⟩ j = o at *
                  obtain ⟨xk, xa, xb, xc, xs, xt⟩ := o
                  simp only
                  have hb4 := ((unhide hbH).quiet (Quiet.trans q4 ((Chg.refl _ _).alloc (.cells #[.int .i64 xk, .int .i64 xa, .int .i64 xb, .int .i64 xc, .string xs, .string xt] 32)))).self
                  have hbz := (unhide hbH).quiet (Quiet.trans q4 ((Chg.refl _ _).alloc (.cells #[.int .i64 xk, .int .i64 xa, .int .i64 xb, .int .i64 xc, .string xs, .string xt] 32)))
                  have bo := Blk.new w4 32 [.int .i64 xk, .int .i64 xa, .int .i64 xb, .int .i64 xc, .string xs, .string xt]
                  have z0 := q4.size
                  have z4 := bo.lt
                  obtain ⟨⟨ye, yn, ym, ys⟩, hdo⟩ := both_step hbz ⟨xk, xa, xb, xc, xs, xt⟩
                  simp only at hdo
                  have hdoH := hide hdo
                  clear hdo hb4 hbz hbH q4
                  go_wp2_with fail
                  refine (unhide hdoH).mono ?_
                  clear hdoH
                  rintro e w5 ⟨rfl, hch5, hdom⟩
                  have bo5 := hch5.blk bo (by omega)
                  have hdm := hide (hdom ((w5.alloc (.cells #[.int .i64 ye, .int .i64 yn, .int .i64 ym, .string ys] 36)).drew) (((Chg.refl _ _).alloc _).drew))
                  have bx := Blk.new w5 36 [.int .i64 ye, .int .i64 yn, .int .i64 ym, .string ys]
                  have bo6 := bo5.alloc (.cells #[.int .i64 ye, .int .i64 yn, .int .i64 ym, .string ys] 36)
                  have z5 := hch5.size
                  clear hdom bo5 hch5 bo
                  go_wp2_with fail
                  generalize hWW : w5.alloc (.cells #[.int .i64 ye, .int .i64 yn, .int .i64 ym, .string ys] 36) = W6 at *
                  clear hWW
                  generalize hV5 : w5.heap.size = V5 at *
                  generalize hV4 : w4.heap.size = V4 at *
                  have vH := hide (And.intro hV5 hV4)
                  clear hV5 hV4
                  have o0 := bo6.cell 0
                  have o1 := bo6.cell 1
                  have o2 := bo6.cell 2
                  have o3 := bo6.cell 3
                  have o4 := bo6.cell 4
                  have o5 := bo6.cell 5
                  have x0 := bx.cell 0
                  have x1 := bx.cell 1
                  have x2 := bx.cell 2
                  have x3 := bx.cell 3
                  simp at o0 o1 o2 o3 o4 o5 x0 x1 x2 x3
                  have hX : (ys.toList == ys.toList) = true := by simp
                  have hdm' := unhide hdm
                  clear hdm
                  go_region_held3 (fun W => W.cell? ⟨V4, 0, none⟩ = some (.int .i64 xk) ∧ W.cell? ⟨V4, 1, none⟩ = some (.int .i64 xa) ∧ W.cell? ⟨V4, 2, none⟩ = some (.int .i64 xb) ∧ W.cell? ⟨V4, 3, none⟩ = some (.int .i64 xc) ∧ W.cell? ⟨V4, 4, none⟩ = some (.string xs) ∧ W.cell? ⟨V4, 5, none⟩ = some (.string xt) ∧ W.cell? ⟨V5, 0, none⟩ = some (.int .i64 ye) ∧ W.cell? ⟨V5, 1, none⟩ = some (.int .i64 yn) ∧ W.cell? ⟨V5, 2, none⟩ = some (.int .i64 ym) ∧ W.cell? ⟨V5, 3, none⟩ = some (.string ys)) (first | exact ⟨p0, p1, p2, p3, p4, p5, q0, q1, q2, q3⟩ | go_keep) (first | (go_at_call 21; (with_reducible refine hdm'.mono ?_); rintro e w7 ⟨rfl, hch7, hb7⟩; have bo7 := hch7.blk bo6.drew (by omega); have bx7 := hch7.blk bx.drew (by omega); have p0 := bo7.cell 0; have p1 := bo7.cell 1; have p2 := bo7.cell 2; have p3 := bo7.cell 3; have p4 := bo7.cell 4; have p5 := bo7.cell 5; have q0 := bx7.cell 0; have q1 := bx7.cell 1; have q2 := bx7.cell 2; have q3 := bx7.cell 3; simp at p0 p1 p2 p3 p4 p5 q0 q1 q2 q3))
                  rename_i hHeld
                  clear hHeld
                  have hb8 := hide hb7
                  clear hb7 hch7 hdm' p0 p1 p2 p3 p4 p5 q0 q1 q2 q3 o0 o1 o2 o3 o4 o5 x0 x1 x2 x3 bo6 bx bo7 bx7 vH
                  go_wp2
                  go_roundw
                  case rel => exact ⟨j + 1, by have := unhide jH; omega, by go_num, (unhide hb8).self⟩
                  case measure => have := unhide jH; simp [intOf]; omega
                · have c3 : ¬ (j : Int) < 25 := by omega
                  have c4 : decide ((j : Int) < 25) = false := decide_eq_false c3
                  clear hj0 h7 h25
                  go_wp2
                  obtain ⟨hlt, hmax⟩ := unhide iH
                  go_roundw
                  case rel => exact ⟨i + 1, by omega, by go_num, unhide hbH⟩
                  case measure => simp [intOf]; omega
              · have c2 : (ok == 7) = false := by simpa using h7
                clear hj0 h7
                go_wp2
                obtain ⟨hlt, hmax⟩ := unhide iH
                go_roundw
                case rel => exact ⟨i + 1, by omega, by go_num, unhide hbH⟩
                case measure => simp [intOf]; omega
        · have g1 : decide (i < len) = true := by simpa using hlt
          have g2 : ¬ (i : Int) < 4398046511104 := hmax
          have g3 : ¬ (len : Int) < 4398046511104 := by omega
          clear hb hmax
          go_wp2
          go_ret
          exact ⟨rfl, unhide hbelH⟩
      · have g1 : decide (i < len) = false := by simpa using hlt
        have g2 : ¬ (i : Int) < (len : Int) := by omega
        clear hb
        by_cases g3 : (len : Int) < 4398046511104
        · go_wp2
          go_ret
          exact ⟨rfl, unhide hbelH⟩
        · go_wp2
          go_ret
          exact ⟨rfl, unhide hbelH⟩
  | false =>
    go_wp2_with fail
    refine (both_seen (unhide hb0H)).mono ?_
    rintro e w3 ⟨rfl, q3⟩
    have hb3 := hide (((unhide hb0H).quiet q3).self)
    clear hb0H q3
    go_wp2
    go_loopw [7] (fun i wr => ∃ j : Nat, j ≤ len ∧ i = .int .i64 j ∧ Both w wr.heap.size wr x m) (fun i _ => len - (intOf i).toNat)
    case atStart => exact ⟨0, Nat.zero_le _, rfl, unhide hb3⟩
    case round =>
      obtain ⟨i, hi, rfl, hb⟩ := hrel
      clear hb3
      have hbel : Below w.heap.size w wr := hb.chg.below _ (Nat.le_refl _) (fun _ h => h)
      have hbelH := hide hbel
      clear hbel
      by_cases hlt : i < len
      · by_cases hmax : (i : Int) < 4398046511104
        · have hjo : i < ops.length := by rw [ho.count]; exact hlt
          obtain ⟨sb, so, rfl, hsb, hcells⟩ := ho.cells i hjo
          generalize ops[i] = o at *
          obtain ⟨ok, oa, ob, oc, os, ot⟩ := o
          simp only at hcells
          have i1 : (0 : Int) ≤ (i : Int) := by omega
          have i2 : (i : Int) < (len : Int) := by omega
          have g1 : decide (i < len) = true := by simpa using hlt
          have iH := hide (And.intro hlt hmax)
          have hcH := hide hcells
          have hbH := hide hb
          clear hcells hb hbelH
          go_wp2
          clear g1 hmax hlt hi hjo
          go_loopw [8] (fun k w2 => ∃ j : Nat, j ≤ 25 ∧ k = .int .i64 j ∧ Both w w2.heap.size w2 x m) (fun k _ => 26 - (intOf k).toNat)
          case atStart => exact ⟨0, by omega, rfl, unhide hbH⟩
          case round =>
            obtain ⟨j, hj, rfl, hb⟩ := hrel
            clear hbH
            have hbel : Below w.heap.size w wr := hb.chg.below _ (Nat.le_refl _) (fun _ h => h)
            obtain ⟨k0, k1, k2, k3, k4, k5⟩ := unhide hcH
            rw [← hbel.cell (p := ⟨sb, so + i * 6, none⟩) hsb] at k0
            rw [← hbel.cell (p := ⟨sb, so + i * 6 + 1, none⟩) hsb] at k1
            rw [← hbel.cell (p := ⟨sb, so + i * 6 + 2, none⟩) hsb] at k2
            rw [← hbel.cell (p := ⟨sb, so + i * 6 + 3, none⟩) hsb] at k3
            rw [← hbel.cell (p := ⟨sb, so + i * 6 + 4, none⟩) hsb] at k4
            rw [← hbel.cell (p := ⟨sb, so + i * 6 + 5, none⟩) hsb] at k5
            have hbelH := hide hbel
            have hbH := hide hb
            clear hbel hb
            by_cases hj0 : j = 0
            · have c1 : ((j : Int) == 0) = true := by simp; omega
              have jH : Hid (j < 25) := by show j < 25; omega
              clear hj0
              go_upto_if 44 with fail
              clear c1
              have hpart := hide (part_any wr ⟨ok, oa, ob, oc, os, ot⟩ j hj)
              go_wp2_with fail
              refine (unhide hpart).mono ?_
              clear hpart k0 k1 k2 k3 k4 k5
              rintro e w4 ⟨rfl, q4⟩
              generalize partP ⟨ok, oa, ob, oc, os, ot⟩ j = o at *
              obtain ⟨xk, xa, xb, xc, xs, xt⟩ := o
              simp only
              have hb4 := ((unhide hbH).quiet (Quiet.trans q4 ((Chg.refl _ _).alloc (.cells #[.int .i64 xk, .int .i64 xa, .int .i64 xb, .int .i64 xc, .string xs, .string xt] 32)))).self
              have hbz := (unhide hbH).quiet (Quiet.trans q4 ((Chg.refl _ _).alloc (.cells #[.int .i64 xk, .int .i64 xa, .int .i64 xb, .int .i64 xc, .string xs, .string xt] 32)))
              have bo := Blk.new w4 32 [.int .i64 xk, .int .i64 xa, .int .i64 xb, .int .i64 xc, .string xs, .string xt]
              have z0 := q4.size
              have z4 := bo.lt
              obtain ⟨⟨ye, yn, ym, ys⟩, hdo⟩ := both_step hbz ⟨xk, xa, xb, xc, xs, xt⟩
              simp only at hdo
              have hdoH := hide hdo
              clear hdo hb4 hbz hbH q4
              go_wp2_with fail
              refine (unhide hdoH).mono ?_
              clear hdoH
              rintro e w5 ⟨rfl, hch5, hdom⟩
              have bo5 := hch5.blk bo (by omega)
              have hdm := hide (hdom ((w5.alloc (.cells #[.int .i64 ye, .int .i64 yn, .int .i64 ym, .string ys] 36)).drew) (((Chg.refl _ _).alloc _).drew))
              have bx := Blk.new w5 36 [.int .i64 ye, .int .i64 yn, .int .i64 ym, .string ys]
              have bo6 := bo5.alloc (.cells #[.int .i64 ye, .int .i64 yn, .int .i64 ym, .string ys] 36)
              have z5 := hch5.size
              clear hdom bo5 hch5 bo
              go_wp2_with fail
              generalize hWW : w5.alloc (.cells #[.int .i64 ye, .int .i64 yn, .int .i64 ym, .string ys] 36) = W6 at *
              clear hWW
              generalize hV5 : w5.heap.size = V5 at *
              generalize hV4 : w4.heap.size = V4 at *
              have vH := hide (And.intro hV5 hV4)
              clear hV5 hV4
              have o0 := bo6.cell 0
              have o1 := bo6.cell 1
              have o2 := bo6.cell 2
              have o3 := bo6.cell 3
              have o4 := bo6.cell 4
              have o5 := bo6.cell 5
              have x0 := bx.cell 0
              have x1 := bx.cell 1
              have x2 := bx.cell 2
              have x3 := bx.cell 3
              simp at o0 o1 o2 o3 o4 o5 x0 x1 x2 x3
              have hX : (ys.toList == ys.toList) = true := by simp
              have hdm' := unhide hdm
              clear hdm
              go_region_held3 (fun W => W.cell? ⟨V4, 0, none⟩ = some (.int .i64 xk) ∧ W.cell? ⟨V4, 1, none⟩ = some (.int .i64 xa) ∧ W.cell? ⟨V4, 2, none⟩ = some (.int .i64 xb) ∧ W.cell? ⟨V4, 3, none⟩ = some (.int .i64 xc) ∧ W.cell? ⟨V4, 4, none⟩ = some (.string xs) ∧ W.cell? ⟨V4, 5, none⟩ = some (.string xt) ∧ W.cell? ⟨V5, 0, none⟩ = some (.int .i64 ye) ∧ W.cell? ⟨V5, 1, none⟩ = some (.int .i64 yn) ∧ W.cell? ⟨V5, 2, none⟩ = some (.int .i64 ym) ∧ W.cell? ⟨V5, 3, none⟩ = some (.string ys)) (first | exact ⟨p0, p1, p2, p3, p4, p5, q0, q1, q2, q3⟩ | go_keep) (first | (go_at_call 21; (with_reducible refine hdm'.mono ?_); rintro e w7 ⟨rfl, hch7, hb7⟩; have bo7 := hch7.blk bo6.drew (by omega); have bx7 := hch7.blk bx.drew (by omega); have p0 := bo7.cell 0; have p1 := bo7.cell 1; have p2 := bo7.cell 2; have p3 := bo7.cell 3; have p4 := bo7.cell 4; have p5 := bo7.cell 5; have q0 := bx7.cell 0; have q1 := bx7.cell 1; have q2 := bx7.cell 2; have q3 := bx7.cell 3; simp at p0 p1 p2 p3 p4 p5 q0 q1 q2 q3))
              rename_i hHeld
              clear hHeld
              have hb8 := hide hb7
              clear hb7 hch7 hdm' p0 p1 p2 p3 p4 p5 q0 q1 q2 q3 o0 o1 o2 o3 o4 o5 x0 x1 x2 x3 bo6 bx bo7 bx7 vH
              go_wp2_with fail
              refine (both_seen (unhide hb8)).mono ?_
              rintro e w9 ⟨rfl, q9⟩
              have hb9 := hide ((unhide hb8).quiet q9).self
              clear hb8 q9
              go_wp2
              go_roundw
              case rel => exact ⟨j + 1, by have := unhide jH; omega, by go_num, unhide hb9⟩
              case measure => have := unhide jH; simp [intOf]; omega
            · have c1 : ((j : Int) == 0) = false := by simp; omega
              by_cases h7 : ok = 7
              · have c2 : (ok == 7) = true := by simpa using h7
                by_cases h25 : j < 25
                · have c3 : (j : Int) < 25 := by omega
                  have c4 : decide ((j : Int) < 25) = true := decide_eq_true c3
                  have jH := hide h25
                  clear hj0 h7 h25
                  go_upto_if 44 with fail
                  clear c1 c2 c3 c4
                  have hpart := hide (part_any wr ⟨ok, oa, ob, oc, os, ot⟩ j hj)
                  go_wp2_with fail
                  refine (unhide hpart).mono ?_
                  clear hpart k0 k1 k2 k3 k4 k5
                  rintro e w4 ⟨rfl, q4⟩
                  generalize partP ⟨ok, oa, ob, oc, os, ot⟩ j = o at *
                  obtain ⟨xk, xa, xb, xc, xs, xt⟩ := o
                  simp only
                  have hb4 := ((unhide hbH).quiet (Quiet.trans q4 ((Chg.refl _ _).alloc (.cells #[.int .i64 xk, .int .i64 xa, .int .i64 xb, .int .i64 xc, .string xs, .string xt] 32)))).self
                  have hbz := (unhide hbH).quiet (Quiet.trans q4 ((Chg.refl _ _).alloc (.cells #[.int .i64 xk, .int .i64 xa, .int .i64 xb, .int .i64 xc, .string xs, .string xt] 32)))
                  have bo := Blk.new w4 32 [.int .i64 xk, .int .i64 xa, .int .i64 xb, .int .i64 xc, .string xs, .string xt]
                  have z0 := q4.size
                  have z4 := bo.lt
                  obtain ⟨⟨ye, yn, ym, ys⟩, hdo⟩ := both_step hbz ⟨xk, xa, xb, xc, xs, xt⟩
                  simp only at hdo
                  have hdoH := hide hdo
                  clear hdo hb4 hbz hbH q4
                  go_wp2_with fail
                  refine (unhide hdoH).mono ?_
                  clear hdoH
                  rintro e w5 ⟨rfl, hch5, hdom⟩
                  have bo5 := hch5.blk bo (by omega)
                  have hdm := hide (hdom ((w5.alloc (.cells #[.int .i64 ye, .int .i64 yn, .int .i64 ym, .string ys] 36)).drew) (((Chg.refl _ _).alloc _).drew))
                  have bx := Blk.new w5 36 [.int .i64 ye, .int .i64 yn, .int .i64 ym, .string ys]
                  have bo6 := bo5.alloc (.cells #[.int .i64 ye, .int .i64 yn, .int .i64 ym, .string ys] 36)
                  have z5 := hch5.size
                  clear hdom bo5 hch5 bo
                  go_wp2_with fail
                  generalize hWW : w5.alloc (.cells #[.int .i64 ye, .int .i64 yn, .int .i64 ym, .string ys] 36) = W6 at *
                  clear hWW
                  generalize hV5 : w5.heap.size = V5 at *
                  generalize hV4 : w4.heap.size = V4 at *
                  have vH := hide (And.intro hV5 hV4)
                  clear hV5 hV4
                  have o0 := bo6.cell 0
                  have o1 := bo6.cell 1
                  have o2 := bo6.cell 2
                  have o3 := bo6.cell 3
                  have o4 := bo6.cell 4
                  have o5 := bo6.cell 5
                  have x0 := bx.cell 0
                  have x1 := bx.cell 1
                  have x2 := bx.cell 2
                  have x3 := bx.cell 3
                  simp at o0 o1 o2 o3 o4 o5 x0 x1 x2 x3
                  have hX : (ys.toList == ys.toList) = true := by simp
                  have hdm' := unhide hdm
                  clear hdm
                  go_region_held3 (fun W => W.cell? ⟨V4, 0, none⟩ = some (.int .i64 xk) ∧ W.cell? ⟨V4, 1, none⟩ = some (.int .i64 xa) ∧ W.cell? ⟨V4, 2, none⟩ = some (.int .i64 xb) ∧ W.cell? ⟨V4, 3, none⟩ = some (.int .i64 xc) ∧ W.cell? ⟨V4, 4, none⟩ = some (.string xs) ∧ W.cell? ⟨V4, 5, none⟩ = some (.string xt) ∧ W.cell? ⟨V5, 0, none⟩ = some (.int .i64 ye) ∧ W.cell? ⟨V5, 1, none⟩ = some (.int .i64 yn) ∧ W.cell? ⟨V5, 2, none⟩ = some (.int .i64 ym) ∧ W.cell? ⟨V5, 3, none⟩ = some (.string ys)) (first | exact ⟨p0, p1, p2, p3, p4, p5, q0, q1, q2, q3⟩ | go_keep) (first | (go_at_call 21; (with_reducible refine hdm'.mono ?_); rintro e w7 ⟨rfl, hch7, hb7⟩; have bo7 := hch7.blk bo6.drew (by omega); have bx7 := hch7.blk bx.drew (by omega); have p0 := bo7.cell 0; have p1 := bo7.cell 1; have p2 := bo7.cell 2; have p3 := bo7.cell 3; have p4 := bo7.cell 4; have p5 := bo7.cell 5; have q0 := bx7.cell 0; have q1 := bx7.cell 1; have q2 := bx7.cell 2; have q3 := bx7.cell 3; simp at p0 p1 p2 p3 p4 p5 q0 q1 q2 q3))
                  rename_i hHeld
                  clear hHeld
                  have hb8 := hide hb7
                  clear hb7 hch7 hdm' p0 p1 p2 p3 p4 p5 q0 q1 q2 q3 o0 o1 o2 o3 o4 o5 x0 x1 x2 x3 bo6 bx bo7 bx7 vH
                  go_wp2_with fail
                  refine (both_seen (unhide hb8)).mono ?_
                  rintro e w9 ⟨rfl, q9⟩
                  have hb9 := hide ((unhide hb8).quiet q9).self
                  clear hb8 q9
                  go_wp2
                  go_roundw
                  case rel => exact ⟨j + 1, by have := unhide jH; omega, by go_num, unhide hb9⟩
                  case measure => have := unhide jH; simp [intOf]; omega
                · have c3 : ¬ (j : Int) < 25 := by omega
                  have c4 : decide ((j : Int) < 25) = false := decide_eq_false c3
                  clear hj0 h7 h25
                  go_wp2
                  obtain ⟨hlt, hmax⟩ := unhide iH
                  go_roundw
                  case rel => exact ⟨i + 1, by omega, by go_num, unhide hbH⟩
                  case measure => simp [intOf]; omega
              · have c2 : (ok == 7) = false := by simpa using h7
                clear hj0 h7
                go_wp2
                obtain ⟨hlt, hmax⟩ := unhide iH
                go_roundw
                case rel => exact ⟨i + 1, by omega, by go_num, unhide hbH⟩
                case measure => simp [intOf]; omega
        · have g1 : decide (i < len) = true := by simpa using hlt
          have g2 : ¬ (i : Int) < 4398046511104 := hmax
          have g3 : ¬ (len : Int) < 4398046511104 := by omega
          clear hb hmax
          go_wp2
          go_ret
          exact ⟨rfl, unhide hbelH⟩
      · have g1 : decide (i < len) = false := by simpa using hlt
        have g2 : ¬ (i : Int) < (len : Int) := by omega
        clear hb
        by_cases g3 : (len : Int) < 4398046511104
        · go_wp2
          go_ret
          exact ⟨rfl, unhide hbelH⟩
        · go_wp2
          go_ret
          exact ⟨rfl, unhide hbelH⟩
end Go.Proofs.Qxb6500364a
