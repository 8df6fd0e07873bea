/-
  THE WALK OF Refines AND RefinesQuiet. (gen65walk.py)
-/
import Derived.Test.Qxb6500365aPlay
import Derived.Test.Qxb6500365aScript
namespace Go.Proofs.Qxb6500365a
open Go.RowKit Go.Qx
set_option linter.unusedSimpArgs false
set_option linter.unusedVariables false

/-- A script in memory: it is nil and empty, or its steps lie one behind the other. -/
structure IsOps (w : World) (a : Option Addr) (len cap : Nat) (ops : List Opr) : Prop where
  count : ops.length = len
  small : len ≤ 9223372036854775807
  cells : ∀ i (h : i < ops.length), ∃ b o, a = some ⟨b, o, none⟩ ∧ b < w.heap.size ∧
    w.cell? ⟨b, o + i * 6, none⟩ = some (.int .i64 ops[i].k) ∧ w.cell? ⟨b, o + i * 6 + 1, none⟩ = some (.int .i64 ops[i].a) ∧ w.cell? ⟨b, o + i * 6 + 2, none⟩ = some (.int .i64 ops[i].b) ∧
    w.cell? ⟨b, o + i * 6 + 3, none⟩ = some (.int .i64 ops[i].c) ∧ w.cell? ⟨b, o + i * 6 + 4, none⟩ = some (.string ops[i].s) ∧ w.cell? ⟨b, o + i * 6 + 5, none⟩ = some (.string ops[i].t)

set_option maxHeartbeats 4000000 in
set_option maxRecDepth 100000 in
theorem walk_any (w : World) (a : Option Addr) (len cap : Nat) (ops : List Opr) (quiet : Bool) (ho : IsOps w a len cap ops) :
    Calls Try.prog 11 #[.slice a len cap, .bool quiet] w fun e w' => (∃ n : Int, e = .returned (.tuple #[.int .i64 (-1), .int .i64 n])) ∧ Below w.heap.size w w' := by
  have hlen := ho.small
  have hnew := new_any w
  go_enter Try.func11, Try.ntmps11
  go_wp2_with fail
  refine hnew.mono ?_
  clear hnew
  rintro e w1 ⟨x, rfl, q1, ho1, R1⟩
  have hmn := mnew_any w1
  go_wp2_with fail
  refine hmn.mono ?_
  clear hmn
  rintro e w2 ⟨m, rfl, q2, ho2, M2⟩
  have hb3 := hide (both_new q1 ho1 R1 q2 ho2 M2)
  clear q1 q2 R1 M2 ho1 ho2
  cases quiet with
  | true =>
    go_wp2
    go_loopw [8] (fun i wr => ∃ (j : Nat) (S : Nat → Prop), j ≤ len ∧ i = .int .i64 j ∧ Both w S wr x m) (fun i _ => len - (intOf i).toNat)
    case atStart => exact ⟨0, _, Nat.zero_le _, rfl, unhide hb3⟩
    case round =>
      clear hb3
      obtain ⟨j, S, hj, rfl, hb⟩ := hrel
      have hbel : Below w.heap.size w wr := hb.chg.below _ (Nat.le_refl _) (fun _ h => h)
      have hbelH := hide hbel
      clear hbel
      by_cases hlt : j < len
      · by_cases hmax : (j : Int) < 4398046511104
        · have hjo : j < ops.length := by rw [ho.count]; exact hlt
          obtain ⟨sb, so, rfl, hsb, k0, k1, k2, k3, k4, k5⟩ := ho.cells j hjo
          generalize ops[j] = o at *
          obtain ⟨ok, oa, ob, oc, os, ot⟩ := o
          simp only at k0 k1 k2 k3 k4 k5
          have i1 : (0 : Int) ≤ (j : Int) := by omega
          have i2 : (j : Int) < (len : Int) := by omega
          have g1 : decide (j < len) = true := by simpa using hlt
          have hbl := unhide hbelH
          rw [← hbl.cell (p := ⟨sb, so + j * 6, none⟩) hsb] at k0
          rw [← hbl.cell (p := ⟨sb, so + j * 6 + 1, none⟩) hsb] at k1
          rw [← hbl.cell (p := ⟨sb, so + j * 6 + 2, none⟩) hsb] at k2
          rw [← hbl.cell (p := ⟨sb, so + j * 6 + 3, none⟩) hsb] at k3
          rw [← hbl.cell (p := ⟨sb, so + j * 6 + 4, none⟩) hsb] at k4
          rw [← hbl.cell (p := ⟨sb, so + j * 6 + 5, none⟩) hsb] at k5
          have nS : ¬ S sb := fun h => by have := (hb.rng _ h).1; omega
          clear hbl
          have jH := hide (And.intro hlt hmax)
          have hbsH := hide hb
          obtain ⟨⟨ye, yn, ym, ys⟩, hdo⟩ := both_step hb ⟨ok, oa, ob, oc, os, ot⟩
          simp only at hdo
          have hdoH := hide hdo
          clear hdo hb hj hjo
          go_wp2_with fail
          refine (unhide hdoH).mono ?_
          clear hdoH
          rintro e w5 ⟨rfl, hch5, hdom⟩
          have l0 := Quiet.cell (w' := w5.alloc (.cells #[.int .i64 ye, .int .i64 yn, .int .i64 ym, .string ys] 42)) ((Chg.refl _ _).alloc _) (hch5.cell k0 nS)
          have l1 := Quiet.cell (w' := w5.alloc (.cells #[.int .i64 ye, .int .i64 yn, .int .i64 ym, .string ys] 42)) ((Chg.refl _ _).alloc _) (hch5.cell k1 nS)
          have l2 := Quiet.cell (w' := w5.alloc (.cells #[.int .i64 ye, .int .i64 yn, .int .i64 ym, .string ys] 42)) ((Chg.refl _ _).alloc _) (hch5.cell k2 nS)
          have l3 := Quiet.cell (w' := w5.alloc (.cells #[.int .i64 ye, .int .i64 yn, .int .i64 ym, .string ys] 42)) ((Chg.refl _ _).alloc _) (hch5.cell k3 nS)
          have l4 := Quiet.cell (w' := w5.alloc (.cells #[.int .i64 ye, .int .i64 yn, .int .i64 ym, .string ys] 42)) ((Chg.refl _ _).alloc _) (hch5.cell k4 nS)
          have l5 := Quiet.cell (w' := w5.alloc (.cells #[.int .i64 ye, .int .i64 yn, .int .i64 ym, .string ys] 42)) ((Chg.refl _ _).alloc _) (hch5.cell k5 nS)
          have nV5 : ¬ S w5.heap.size := fun h => by have := ((unhide hbsH).rng _ h).2; have := hch5.size; omega
          have hdm := hide (hdom (w5.alloc (.cells #[.int .i64 ye, .int .i64 yn, .int .i64 ym, .string ys] 42)) ((Chg.refl _ _).alloc _))
          have bx := Blk.new w5 42 [.int .i64 ye, .int .i64 yn, .int .i64 ym, .string ys]
          have hX : (ys.toList == ys.toList) = true := by simp
          clear k0 k1 k2 k3 k4 k5 hch5 hdom
          go_wp2_with fail
          refine (unhide hdm).mono ?_
          clear hdm l0 l1 l2 l3 l4 l5
          rintro e w7 ⟨rfl, hch7, hb7⟩
          have bx7 := hch7.blk bx nV5
          have x0 := (bx7.alloc (.cells #[.int .i64 ye, .int .i64 yn, .int .i64 ym, .string ys] 42)).cell 0
          have x1 := (bx7.alloc (.cells #[.int .i64 ye, .int .i64 yn, .int .i64 ym, .string ys] 42)).cell 1
          have x2 := (bx7.alloc (.cells #[.int .i64 ye, .int .i64 yn, .int .i64 ym, .string ys] 42)).cell 2
          have x3 := (bx7.alloc (.cells #[.int .i64 ye, .int .i64 yn, .int .i64 ym, .string ys] 42)).cell 3
          simp at x0 x1 x2 x3
          have hb8 := hide (hb7.quiet ((Chg.refl _ _).alloc (.cells #[.int .i64 ye, .int .i64 yn, .int .i64 ym, .string ys] 42)))
          have x7 := bx7.lt
          clear bx bx7 hch7 hb7 nV5 nS
          have hseenH := hide (both_seen (unhide hb8))
          clear hseenH
          go_wp2
          go_roundw
          case rel => exact ⟨j + 1, _, (unhide jH).1, by go_num, unhide hb8⟩
          case measure =>
            obtain ⟨h1, h2⟩ := unhide jH
            simp [intOf]; omega
        · have g1 : decide (j < len) = true := by simpa using hlt
          have g2 : ¬ (j : Int) < 4398046511104 := hmax
          have g3 : ¬ (len : Int) < 4398046511104 := by omega
          clear hb hmax
          go_wp2
          go_ret2
          exact ⟨⟨_, rfl⟩, unhide hbelH⟩
      · have g1 : decide (j < len) = false := by simpa using hlt
        have g2 : ¬ (j : Int) < (len : Int) := by omega
        clear hb
        by_cases g3 : (len : Int) < 4398046511104
        · go_wp2
          go_ret2
          exact ⟨⟨_, rfl⟩, unhide hbelH⟩
        · go_wp2
          go_ret2
          exact ⟨⟨_, rfl⟩, unhide hbelH⟩
  | false =>
    have hse := hide (both_seen (unhide hb3))
    go_wp2_with fail
    refine (unhide hse).mono ?_
    clear hse
    rintro e v0 ⟨rfl, q0⟩
    have hb4 := hide ((unhide hb3).quiet q0)
    clear q0 hb3
    go_wp2
    go_loopw [8] (fun i wr => ∃ (j : Nat) (S : Nat → Prop), j ≤ len ∧ i = .int .i64 j ∧ Both w S wr x m) (fun i _ => len - (intOf i).toNat)
    case atStart => exact ⟨0, _, Nat.zero_le _, rfl, unhide hb4⟩
    case round =>
      clear hb4
      obtain ⟨j, S, hj, rfl, hb⟩ := hrel
      have hbel : Below w.heap.size w wr := hb.chg.below _ (Nat.le_refl _) (fun _ h => h)
      have hbelH := hide hbel
      clear hbel
      by_cases hlt : j < len
      · by_cases hmax : (j : Int) < 4398046511104
        · have hjo : j < ops.length := by rw [ho.count]; exact hlt
          obtain ⟨sb, so, rfl, hsb, k0, k1, k2, k3, k4, k5⟩ := ho.cells j hjo
          generalize ops[j] = o at *
          obtain ⟨ok, oa, ob, oc, os, ot⟩ := o
          simp only at k0 k1 k2 k3 k4 k5
          have i1 : (0 : Int) ≤ (j : Int) := by omega
          have i2 : (j : Int) < (len : Int) := by omega
          have g1 : decide (j < len) = true := by simpa using hlt
          have hbl := unhide hbelH
          rw [← hbl.cell (p := ⟨sb, so + j * 6, none⟩) hsb] at k0
          rw [← hbl.cell (p := ⟨sb, so + j * 6 + 1, none⟩) hsb] at k1
          rw [← hbl.cell (p := ⟨sb, so + j * 6 + 2, none⟩) hsb] at k2
          rw [← hbl.cell (p := ⟨sb, so + j * 6 + 3, none⟩) hsb] at k3
          rw [← hbl.cell (p := ⟨sb, so + j * 6 + 4, none⟩) hsb] at k4
          rw [← hbl.cell (p := ⟨sb, so + j * 6 + 5, none⟩) hsb] at k5
          have nS : ¬ S sb := fun h => by have := (hb.rng _ h).1; omega
          clear hbl
          have jH := hide (And.intro hlt hmax)
          have hbsH := hide hb
          obtain ⟨⟨ye, yn, ym, ys⟩, hdo⟩ := both_step hb ⟨ok, oa, ob, oc, os, ot⟩
          simp only at hdo
          have hdoH := hide hdo
          clear hdo hb hj hjo
          go_wp2_with fail
          refine (unhide hdoH).mono ?_
          clear hdoH
          rintro e w5 ⟨rfl, hch5, hdom⟩
          have l0 := Quiet.cell (w' := w5.alloc (.cells #[.int .i64 ye, .int .i64 yn, .int .i64 ym, .string ys] 42)) ((Chg.refl _ _).alloc _) (hch5.cell k0 nS)
          have l1 := Quiet.cell (w' := w5.alloc (.cells #[.int .i64 ye, .int .i64 yn, .int .i64 ym, .string ys] 42)) ((Chg.refl _ _).alloc _) (hch5.cell k1 nS)
          have l2 := Quiet.cell (w' := w5.alloc (.cells #[.int .i64 ye, .int .i64 yn, .int .i64 ym, .string ys] 42)) ((Chg.refl _ _).alloc _) (hch5.cell k2 nS)
          have l3 := Quiet.cell (w' := w5.alloc (.cells #[.int .i64 ye, .int .i64 yn, .int .i64 ym, .string ys] 42)) ((Chg.refl _ _).alloc _) (hch5.cell k3 nS)
          have l4 := Quiet.cell (w' := w5.alloc (.cells #[.int .i64 ye, .int .i64 yn, .int .i64 ym, .string ys] 42)) ((Chg.refl _ _).alloc _) (hch5.cell k4 nS)
          have l5 := Quiet.cell (w' := w5.alloc (.cells #[.int .i64 ye, .int .i64 yn, .int .i64 ym, .string ys] 42)) ((Chg.refl _ _).alloc _) (hch5.cell k5 nS)
          have nV5 : ¬ S w5.heap.size := fun h => by have := ((unhide hbsH).rng _ h).2; have := hch5.size; omega
          have hdm := hide (hdom (w5.alloc (.cells #[.int .i64 ye, .int .i64 yn, .int .i64 ym, .string ys] 42)) ((Chg.refl _ _).alloc _))
          have bx := Blk.new w5 42 [.int .i64 ye, .int .i64 yn, .int .i64 ym, .string ys]
          have hX : (ys.toList == ys.toList) = true := by simp
          clear k0 k1 k2 k3 k4 k5 hch5 hdom
          go_wp2_with fail
          refine (unhide hdm).mono ?_
          clear hdm l0 l1 l2 l3 l4 l5
          rintro e w7 ⟨rfl, hch7, hb7⟩
          have bx7 := hch7.blk bx nV5
          have x0 := (bx7.alloc (.cells #[.int .i64 ye, .int .i64 yn, .int .i64 ym, .string ys] 42)).cell 0
          have x1 := (bx7.alloc (.cells #[.int .i64 ye, .int .i64 yn, .int .i64 ym, .string ys] 42)).cell 1
          have x2 := (bx7.alloc (.cells #[.int .i64 ye, .int .i64 yn, .int .i64 ym, .string ys] 42)).cell 2
          have x3 := (bx7.alloc (.cells #[.int .i64 ye, .int .i64 yn, .int .i64 ym, .string ys] 42)).cell 3
          simp at x0 x1 x2 x3
          have hb8 := hide (hb7.quiet ((Chg.refl _ _).alloc (.cells #[.int .i64 ye, .int .i64 yn, .int .i64 ym, .string ys] 42)))
          have x7 := bx7.lt
          clear bx bx7 hch7 hb7 nV5 nS
          have hseenH := hide (both_seen (unhide hb8))
          go_wp2_with fail
          refine (unhide hseenH).mono ?_
          clear hseenH
          rintro e v1 ⟨rfl, qc⟩
          have hb9 := hide ((unhide hb8).quiet qc)
          clear qc hb8
          go_wp2
          go_roundw
          case rel => exact ⟨j + 1, _, (unhide jH).1, by go_num, unhide hb9⟩
          case measure =>
            obtain ⟨h1, h2⟩ := unhide jH
            simp [intOf]; omega
        · have g1 : decide (j < len) = true := by simpa using hlt
          have g2 : ¬ (j : Int) < 4398046511104 := hmax
          have g3 : ¬ (len : Int) < 4398046511104 := by omega
          clear hb hmax
          go_wp2
          go_ret2
          exact ⟨⟨_, rfl⟩, unhide hbelH⟩
      · have g1 : decide (j < len) = false := by simpa using hlt
        have g2 : ¬ (j : Int) < (len : Int) := by omega
        clear hb
        by_cases g3 : (len : Int) < 4398046511104
        · go_wp2
          go_ret2
          exact ⟨⟨_, rfl⟩, unhide hbelH⟩
        · go_wp2
          go_ret2
          exact ⟨⟨_, rfl⟩, unhide hbelH⟩
end Go.Proofs.Qxb6500365a
