/-
  THE WALK OF Refines AND RefinesQuiet. (gen70walk.py)
-/
import Derived.Test.Qxb6500370aPlay
import Derived.Test.Qxb6500370aScript
namespace Go.Proofs.Qxb6500370a
open Go.RowKit Go.Qx
set_option linter.unusedSimpArgs false
set_option linter.unusedVariables false

/-- A script in memory: it is nil and empty, or its steps lie one behind the other. -/
structure IsOps (w : World) (a : Option Addr) (len cap : Nat) (ops : List Opr) : Prop where
  count : ops.length = len
  small : len ≤ 9223372036854775807
  strs : ∀ i (h : i < ops.length), ops[i].s.size ≤ maxLen
  cells : ∀ i (h : i < ops.length), ∃ b o, a = some ⟨b, o, none⟩ ∧ b < w.heap.size ∧
    w.cell? ⟨b, o + i * 6, none⟩ = some (.int .i64 ops[i].k) ∧ w.cell? ⟨b, o + i * 6 + 1, none⟩ = some (.int .i64 ops[i].a) ∧ w.cell? ⟨b, o + i * 6 + 2, none⟩ = some (.int .i64 ops[i].b) ∧
    w.cell? ⟨b, o + i * 6 + 3, none⟩ = some (.int .i64 ops[i].c) ∧ w.cell? ⟨b, o + i * 6 + 4, none⟩ = some (.string ops[i].s) ∧ w.cell? ⟨b, o + i * 6 + 5, none⟩ = some (.string ops[i].t)

set_option maxHeartbeats 4000000 in
set_option maxRecDepth 100000 in
theorem seen_any (W w : World) (S : Nat → Prop) (x m : Nat) (σ : St) (hb : Both W S w x m σ) : Calls Try.prog 31 #[.pointer (some ⟨x, 0, none⟩), .pointer (some ⟨m, 0, none⟩)] w fun e w' => e = .returned (.bool true) ∧ Both W S w' x m σ := by
  have I := hb.ok
  obtain ⟨O, OM, R, M, _, _, _⟩ := hb.reps
  have h1 : Hid (Calls Try.prog 23 #[.pointer (some ⟨x, 0, none⟩)] w fun e w' => e = .returned (.string (str (showP σ))) ∧ Quiet w w') := by
    obtain ⟨vb, vt, vs, L, R1, _⟩ := R
    exact show_any w x vb vt vs L σ I R1
  have h2 : Hid (∀ w1, Quiet w w1 → Calls Try.prog 42 #[.pointer (some ⟨m, 0, none⟩)] w1 fun e w' => e = .returned (.string (str (showP σ))) ∧ Quiet w1 w') := by
    show ∀ w1, _
    intro w1 q
    obtain ⟨vb, vt, R1, _⟩ := M.quiet q
    exact mshow_any w1 m vb vt σ I R1
  have h3 : Hid (∀ w1, Quiet w w1 → Calls Try.prog 24 #[.pointer (some ⟨x, 0, none⟩)] w1 fun e w' => e = .returned (.bool true) ∧ Quiet w1 w') := by
    show ∀ w1, _
    intro w1 q
    obtain ⟨vb, vt, vs, L, R1, _⟩ := R.quiet q
    exact check_any w1 x vb vt vs L σ I R1
  have hbH := hide hb
  clear hb R M I
  have hX : ((str (showP σ)).toList == (str (showP σ)).toList) = true := by simp
  generalize str (showP σ) = ss at *
  go_enter Try.func31, Try.ntmps31
  go_wp2_with fail
  refine (unhide h1).mono ?_
  clear h1
  rintro e w1 ⟨rfl, q1⟩
  have h2' := hide (unhide h2 w1 q1)
  clear h2
  have Q1 := hide q1
  clear q1
  go_wp2_with fail
  refine (unhide h2').mono ?_
  clear h2'
  rintro e w2 ⟨rfl, q2⟩
  have Q2 := hide (Quiet.trans (unhide Q1) q2)
  have h3' := hide (unhide h3 w2 (unhide Q2))
  clear h3 q2 Q1
  go_wp2_with fail
  refine (unhide h3').mono ?_
  clear h3'
  rintro e w3 ⟨rfl, q3⟩
  have hb3 := hide ((unhide hbH).quiet (Quiet.trans (unhide Q2) q3))
  clear q3 Q2 hbH
  go_wp2
  go_ret
  exact ⟨rfl, unhide hb3⟩

set_option maxHeartbeats 4000000 in
set_option maxRecDepth 100000 in
theorem walk_any (w : World) (a : Option Addr) (len cap : Nat) (ops : List Opr) (quiet : Bool) (ho : IsOps w a len cap ops) :
    Calls Try.prog 17 #[.slice a len cap, .bool quiet] w fun e w' => (∃ n : Int, e = .returned (.tuple #[.int .i64 (-1), .int .i64 n])) ∧ Below w.heap.size w w' := by
  have hlen := ho.small
  have hnew := new_rep w
  unfold ptr at hnew
  go_enter Try.func17, Try.ntmps17
  go_wp2_with fail
  refine hnew.mono ?_
  clear hnew
  rintro e w1 ⟨x, O, rfl, R1, q1, ho1⟩
  have hmn := mnew_rep w1
  unfold ptr at hmn
  go_wp2_with fail
  refine hmn.mono ?_
  clear hmn
  rintro e w2 ⟨m, OM, rfl, M2, q2, ho2⟩
  have hb3 := both_new (Chg.refl (fun k => w.heap.size ≤ k) w) R1 q1 ho1 M2 q2 ho2
  clear q1 q2 R1 M2 ho1 ho2
  have hb4 : Hid (∃ S σ, Both w S w2 x m σ) := ⟨_, _, hb3⟩
  have hlk := hide (seen_any w w2 _ x m _ hb3)
  clear hb3
  cases quiet with
  | true =>
    clear hlk
    go_wp2
    go_loopw [8] (fun i wr => ∃ (j : Nat) (S : Nat → Prop) (σ : St), j ≤ len ∧ i = .int .i64 j ∧ Both w S wr x m σ) (fun i _ => len - (intOf i).toNat)
    case atStart =>
      obtain ⟨S, σ, hb⟩ := unhide hb4
      exact ⟨0, S, σ, Nat.zero_le _, rfl, hb⟩
    case round =>
      clear hb4
      obtain ⟨j, S, σ, hj, rfl, hb⟩ := hrel
      have hbel : Below w.heap.size w wr := hb.chg.below _ (Nat.le_refl _) (fun _ h => h)
      have hbelH := hide hbel
      clear hbel
      by_cases hlt : j < len
      · by_cases hmax : (j : Int) < 4398046511104
        · have hjo : j < ops.length := by rw [ho.count]; exact hlt
          obtain ⟨sb, so, rfl, hsb, k0, k1, k2, k3, k4, k5⟩ := ho.cells j hjo
          have hst := ho.strs j hjo
          generalize ops[j] = o at *
          obtain ⟨ok, oa, ob, oc, os, ot⟩ := o
          simp only at k0 k1 k2 k3 k4 k5 hst
          have i1 : (0 : Int) ≤ (j : Int) := by omega
          have i2 : (j : Int) < (len : Int) := by omega
          have g1 : decide (j < len) = true := by simpa using hlt
          have hbl := unhide hbelH
          rw [← hbl.cell (p := ⟨sb, so + j * 6, none⟩) hsb] at k0
          rw [← hbl.cell (p := ⟨sb, so + j * 6 + 1, none⟩) hsb] at k1
          rw [← hbl.cell (p := ⟨sb, so + j * 6 + 2, none⟩) hsb] at k2
          rw [← hbl.cell (p := ⟨sb, so + j * 6 + 3, none⟩) hsb] at k3
          rw [← hbl.cell (p := ⟨sb, so + j * 6 + 4, none⟩) hsb] at k4
          rw [← hbl.cell (p := ⟨sb, so + j * 6 + 5, none⟩) hsb] at k5
          clear hbl
          have jH := hide (And.intro hlt hmax)
          have hb0 := hb.quiet (w' := wr.alloc (.cells #[.int .i64 ok, .int .i64 oa, .int .i64 ob, .int .i64 oc, .string os, .string ot] 37)) ((Chg.refl _ _).alloc _)
          obtain ⟨⟨ye, yn, ys⟩, hdo⟩ := both_step hb0 ⟨ok, oa, ob, oc, os, ot⟩ hst
          simp only at hdo
          have hdoH := hide hdo
          have bo := Blk.new wr 37 [.int .i64 ok, .int .i64 oa, .int .i64 ob, .int .i64 oc, .string os, .string ot]
          have nS : ¬ S wr.heap.size := fun h => by have := (hb.rng _ h).2; omega
          have rgH := hide hb.rng
          clear hdo hb hj hjo hb0 hst
          go_wp2_with fail
          refine (unhide hdoH).mono ?_
          clear hdoH k0 k1 k2 k3 k4 k5
          rintro e w5 ⟨rfl, hch5, hdom⟩
          have bo6 := (hch5.blk bo nS).alloc (.cells #[.int .i64 ye, .int .i64 yn, .string ys] 39)
          have bx := Blk.new w5 39 [.int .i64 ye, .int .i64 yn, .string ys]
          have hdm := hide (hdom ((w5.alloc (.cells #[.int .i64 ye, .int .i64 yn, .string ys] 39)).drew) (((Chg.refl _ _).alloc _).drew))
          have z5 := hch5.size
          have nV5 : ¬ S w5.heap.size := fun h => by
            have h1 := (unhide rgH _ h).2
            have h2 : wr.heap.size ≤ w5.heap.size := by have h3 := hch5.size; simp at h3; omega
            omega
          have hX : (ys.toList == ys.toList) = true := by simp
          clear hdom hch5 bo
          go_wp2_with fail
          generalize hWW : w5.alloc (.cells #[.int .i64 ye, .int .i64 yn, .string ys] 39) = W6 at *
          clear hWW
          generalize hV5 : w5.heap.size = V5 at *
          generalize hV4 : wr.heap.size = V4 at *
          have vH := hide (And.intro hV5 hV4)
          clear hV5 hV4 z5
          have o0 : W6.cell? ⟨V4, 0, none⟩ = some (.int .i64 ok) := bo6.cell 0
          have o1 : W6.cell? ⟨V4, 1, none⟩ = some (.int .i64 oa) := bo6.cell 1
          have o2 : W6.cell? ⟨V4, 2, none⟩ = some (.int .i64 ob) := bo6.cell 2
          have o3 : W6.cell? ⟨V4, 3, none⟩ = some (.int .i64 oc) := bo6.cell 3
          have o4 : W6.cell? ⟨V4, 4, none⟩ = some (.string os) := bo6.cell 4
          have o5 : W6.cell? ⟨V4, 5, none⟩ = some (.string ot) := bo6.cell 5
          have x0 : W6.cell? ⟨V5, 0, none⟩ = some (.int .i64 ye) := bx.cell 0
          have x1 : W6.cell? ⟨V5, 1, none⟩ = some (.int .i64 yn) := bx.cell 1
          have x2 : W6.cell? ⟨V5, 2, none⟩ = some (.string ys) := bx.cell 2
          have hdm' := unhide hdm
          clear hdm
          go_region_held3 (fun W => W.cell? ⟨V4, 0, none⟩ = some (.int .i64 ok) ∧ W.cell? ⟨V4, 1, none⟩ = some (.int .i64 oa) ∧ W.cell? ⟨V4, 2, none⟩ = some (.int .i64 ob) ∧ W.cell? ⟨V4, 3, none⟩ = some (.int .i64 oc) ∧ W.cell? ⟨V4, 4, none⟩ = some (.string os) ∧ W.cell? ⟨V4, 5, none⟩ = some (.string ot) ∧ W.cell? ⟨V5, 0, none⟩ = some (.int .i64 ye) ∧ W.cell? ⟨V5, 1, none⟩ = some (.int .i64 yn) ∧ W.cell? ⟨V5, 2, none⟩ = some (.string ys)) (first | exact ⟨p0, p1, p2, p3, p4, p5, q0, q1, q2⟩ | go_keep) (first | (go_at_call 32; (with_reducible refine hdm'.mono ?_); rintro e w7 ⟨rfl, hch7, S7, hb7⟩; have bo7 := hch7.blk bo6.drew nS; have bx7 := hch7.blk bx.drew nV5; have p0 : w7.cell? ⟨V4, 0, none⟩ = some (.int .i64 ok) := bo7.cell 0; have p1 : w7.cell? ⟨V4, 1, none⟩ = some (.int .i64 oa) := bo7.cell 1; have p2 : w7.cell? ⟨V4, 2, none⟩ = some (.int .i64 ob) := bo7.cell 2; have p3 : w7.cell? ⟨V4, 3, none⟩ = some (.int .i64 oc) := bo7.cell 3; have p4 : w7.cell? ⟨V4, 4, none⟩ = some (.string os) := bo7.cell 4; have p5 : w7.cell? ⟨V4, 5, none⟩ = some (.string ot) := bo7.cell 5; have q0 : w7.cell? ⟨V5, 0, none⟩ = some (.int .i64 ye) := bx7.cell 0; have q1 : w7.cell? ⟨V5, 1, none⟩ = some (.int .i64 yn) := bx7.cell 1; have q2 : w7.cell? ⟨V5, 2, none⟩ = some (.string ys) := bx7.cell 2))
          rename_i hHeld
          clear hHeld
          have hb8 := hide hb7
          clear hb7 hch7 hdm' p0 p1 p2 p3 p4 p5 q0 q1 q2 o0 o1 o2 o3 o4 o5 x0 x1 x2 bo6 bx bo7 bx7 vH
          go_wp2
          go_roundw
          case rel => exact ⟨j + 1, _, _, (unhide jH).1, by go_num, unhide hb8⟩
          case measure =>
            obtain ⟨h1, h2⟩ := unhide jH
            simp [intOf]; omega
        · have g1 : decide (j < len) = true := by simpa using hlt
          have g2 : ¬ (j : Int) < 4398046511104 := hmax
          have g3 : ¬ (len : Int) < 4398046511104 := by omega
          clear hb hmax
          go_wp2
          go_ret2
          exact ⟨⟨_, rfl⟩, unhide hbelH⟩
      · have g1 : decide (j < len) = false := by simpa using hlt
        have g2 : ¬ (j : Int) < (len : Int) := by omega
        clear hb
        by_cases g3 : (len : Int) < 4398046511104
        · go_wp2
          go_ret2
          exact ⟨⟨_, rfl⟩, unhide hbelH⟩
        · go_wp2
          go_ret2
          exact ⟨⟨_, rfl⟩, unhide hbelH⟩
  | false =>
    clear hb4
    go_wp2_with fail
    refine (unhide hlk).mono ?_
    clear hlk
    rintro e w3 ⟨rfl, hb3⟩
    have hb4 : Hid (∃ S σ, Both w S w3 x m σ) := ⟨_, _, hb3⟩
    clear hb3
    go_wp2
    go_loopw [8] (fun i wr => ∃ (j : Nat) (S : Nat → Prop) (σ : St), j ≤ len ∧ i = .int .i64 j ∧ Both w S wr x m σ) (fun i _ => len - (intOf i).toNat)
    case atStart =>
      obtain ⟨S, σ, hb⟩ := unhide hb4
      exact ⟨0, S, σ, Nat.zero_le _, rfl, hb⟩
    case round =>
      clear hb4
      obtain ⟨j, S, σ, hj, rfl, hb⟩ := hrel
      have hbel : Below w.heap.size w wr := hb.chg.below _ (Nat.le_refl _) (fun _ h => h)
      have hbelH := hide hbel
      clear hbel
      by_cases hlt : j < len
      · by_cases hmax : (j : Int) < 4398046511104
        · have hjo : j < ops.length := by rw [ho.count]; exact hlt
          obtain ⟨sb, so, rfl, hsb, k0, k1, k2, k3, k4, k5⟩ := ho.cells j hjo
          have hst := ho.strs j hjo
          generalize ops[j] = o at *
          obtain ⟨ok, oa, ob, oc, os, ot⟩ := o
          simp only at k0 k1 k2 k3 k4 k5 hst
          have i1 : (0 : Int) ≤ (j : Int) := by omega
          have i2 : (j : Int) < (len : Int) := by omega
          have g1 : decide (j < len) = true := by simpa using hlt
          have hbl := unhide hbelH
          rw [← hbl.cell (p := ⟨sb, so + j * 6, none⟩) hsb] at k0
          rw [← hbl.cell (p := ⟨sb, so + j * 6 + 1, none⟩) hsb] at k1
          rw [← hbl.cell (p := ⟨sb, so + j * 6 + 2, none⟩) hsb] at k2
          rw [← hbl.cell (p := ⟨sb, so + j * 6 + 3, none⟩) hsb] at k3
          rw [← hbl.cell (p := ⟨sb, so + j * 6 + 4, none⟩) hsb] at k4
          rw [← hbl.cell (p := ⟨sb, so + j * 6 + 5, none⟩) hsb] at k5
          clear hbl
          have jH := hide (And.intro hlt hmax)
          have hb0 := hb.quiet (w' := wr.alloc (.cells #[.int .i64 ok, .int .i64 oa, .int .i64 ob, .int .i64 oc, .string os, .string ot] 37)) ((Chg.refl _ _).alloc _)
          obtain ⟨⟨ye, yn, ys⟩, hdo⟩ := both_step hb0 ⟨ok, oa, ob, oc, os, ot⟩ hst
          simp only at hdo
          have hdoH := hide hdo
          have bo := Blk.new wr 37 [.int .i64 ok, .int .i64 oa, .int .i64 ob, .int .i64 oc, .string os, .string ot]
          have nS : ¬ S wr.heap.size := fun h => by have := (hb.rng _ h).2; omega
          have rgH := hide hb.rng
          clear hdo hb hj hjo hb0 hst
          go_wp2_with fail
          refine (unhide hdoH).mono ?_
          clear hdoH k0 k1 k2 k3 k4 k5
          rintro e w5 ⟨rfl, hch5, hdom⟩
          have bo6 := (hch5.blk bo nS).alloc (.cells #[.int .i64 ye, .int .i64 yn, .string ys] 39)
          have bx := Blk.new w5 39 [.int .i64 ye, .int .i64 yn, .string ys]
          have hdm := hide (hdom ((w5.alloc (.cells #[.int .i64 ye, .int .i64 yn, .string ys] 39)).drew) (((Chg.refl _ _).alloc _).drew))
          have z5 := hch5.size
          have nV5 : ¬ S w5.heap.size := fun h => by
            have h1 := (unhide rgH _ h).2
            have h2 : wr.heap.size ≤ w5.heap.size := by have h3 := hch5.size; simp at h3; omega
            omega
          have hX : (ys.toList == ys.toList) = true := by simp
          clear hdom hch5 bo
          go_wp2_with fail
          generalize hWW : w5.alloc (.cells #[.int .i64 ye, .int .i64 yn, .string ys] 39) = W6 at *
          clear hWW
          generalize hV5 : w5.heap.size = V5 at *
          generalize hV4 : wr.heap.size = V4 at *
          have vH := hide (And.intro hV5 hV4)
          clear hV5 hV4 z5
          have o0 : W6.cell? ⟨V4, 0, none⟩ = some (.int .i64 ok) := bo6.cell 0
          have o1 : W6.cell? ⟨V4, 1, none⟩ = some (.int .i64 oa) := bo6.cell 1
          have o2 : W6.cell? ⟨V4, 2, none⟩ = some (.int .i64 ob) := bo6.cell 2
          have o3 : W6.cell? ⟨V4, 3, none⟩ = some (.int .i64 oc) := bo6.cell 3
          have o4 : W6.cell? ⟨V4, 4, none⟩ = some (.string os) := bo6.cell 4
          have o5 : W6.cell? ⟨V4, 5, none⟩ = some (.string ot) := bo6.cell 5
          have x0 : W6.cell? ⟨V5, 0, none⟩ = some (.int .i64 ye) := bx.cell 0
          have x1 : W6.cell? ⟨V5, 1, none⟩ = some (.int .i64 yn) := bx.cell 1
          have x2 : W6.cell? ⟨V5, 2, none⟩ = some (.string ys) := bx.cell 2
          have hdm' := unhide hdm
          clear hdm
          go_region_held3 (fun W => W.cell? ⟨V4, 0, none⟩ = some (.int .i64 ok) ∧ W.cell? ⟨V4, 1, none⟩ = some (.int .i64 oa) ∧ W.cell? ⟨V4, 2, none⟩ = some (.int .i64 ob) ∧ W.cell? ⟨V4, 3, none⟩ = some (.int .i64 oc) ∧ W.cell? ⟨V4, 4, none⟩ = some (.string os) ∧ W.cell? ⟨V4, 5, none⟩ = some (.string ot) ∧ W.cell? ⟨V5, 0, none⟩ = some (.int .i64 ye) ∧ W.cell? ⟨V5, 1, none⟩ = some (.int .i64 yn) ∧ W.cell? ⟨V5, 2, none⟩ = some (.string ys)) (first | exact ⟨p0, p1, p2, p3, p4, p5, q0, q1, q2⟩ | go_keep) (first | (go_at_call 32; (with_reducible refine hdm'.mono ?_); rintro e w7 ⟨rfl, hch7, S7, hb7⟩; have bo7 := hch7.blk bo6.drew nS; have bx7 := hch7.blk bx.drew nV5; have p0 : w7.cell? ⟨V4, 0, none⟩ = some (.int .i64 ok) := bo7.cell 0; have p1 : w7.cell? ⟨V4, 1, none⟩ = some (.int .i64 oa) := bo7.cell 1; have p2 : w7.cell? ⟨V4, 2, none⟩ = some (.int .i64 ob) := bo7.cell 2; have p3 : w7.cell? ⟨V4, 3, none⟩ = some (.int .i64 oc) := bo7.cell 3; have p4 : w7.cell? ⟨V4, 4, none⟩ = some (.string os) := bo7.cell 4; have p5 : w7.cell? ⟨V4, 5, none⟩ = some (.string ot) := bo7.cell 5; have q0 : w7.cell? ⟨V5, 0, none⟩ = some (.int .i64 ye) := bx7.cell 0; have q1 : w7.cell? ⟨V5, 1, none⟩ = some (.int .i64 yn) := bx7.cell 1; have q2 : w7.cell? ⟨V5, 2, none⟩ = some (.string ys) := bx7.cell 2))
          rename_i hHeld
          clear hHeld
          have hb8 := hide hb7
          clear hb7 hch7 hdm' p0 p1 p2 p3 p4 p5 q0 q1 q2 o0 o1 o2 o3 o4 o5 x0 x1 x2 bo6 bx bo7 bx7 vH
          have hlk := hide (seen_any w _ _ x m _ (unhide hb8))
          clear hb8
          go_wp2_with fail
          refine (unhide hlk).mono ?_
          clear hlk
          rintro e w9 ⟨rfl, hb9⟩
          have hb9H := hide hb9
          clear hb9
          go_wp2
          go_roundw
          case rel => exact ⟨j + 1, _, _, (unhide jH).1, by go_num, unhide hb9H⟩
          case measure =>
            obtain ⟨h1, h2⟩ := unhide jH
            simp [intOf]; omega
        · have g1 : decide (j < len) = true := by simpa using hlt
          have g2 : ¬ (j : Int) < 4398046511104 := hmax
          have g3 : ¬ (len : Int) < 4398046511104 := by omega
          clear hb hmax
          go_wp2
          go_ret2
          exact ⟨⟨_, rfl⟩, unhide hbelH⟩
      · have g1 : decide (j < len) = false := by simpa using hlt
        have g2 : ¬ (j : Int) < (len : Int) := by omega
        clear hb
        by_cases g3 : (len : Int) < 4398046511104
        · go_wp2
          go_ret2
          exact ⟨⟨_, rfl⟩, unhide hbelH⟩
        · go_wp2
          go_ret2
          exact ⟨⟨_, rfl⟩, unhide hbelH⟩
end Go.Proofs.Qxb6500370a
