/-
  THE WALK OF Refines AND RefinesQuiet. (gen6walk.py)
-/
import Derived.Test.Qxb6500366aPlay
import Derived.Test.Qxb6500366aScript
namespace Go.Proofs.Qxb6500366a
open Go.RowKit Go.Qx
set_option linter.unusedSimpArgs false
set_option linter.unusedVariables false

theorem next_look {σ : St} {k va vb : Int} (h : 6 ≤ k) : nextP σ ⟨k, va, vb, 0, ⟨#[]⟩, ⟨#[]⟩⟩ = σ := by
  unfold nextP
  simp only
  rw [if_neg (by omega), if_neg (by omega), if_neg (by omega), if_neg (by omega), if_neg (by omega)]

def lookPost (W : World) (x m : Nat) (σ : St) (e : Ending) (w' : World) : Prop := e = .returned (.bool true) ∧ ∃ S, Both W S w' x m σ

set_option maxHeartbeats 4000000 in
set_option maxRecDepth 100000 in
theorem look_any (W w : World) (S : Nat → Prop) (x m : Nat) (σ : St) (hb : Both W S w x m σ) : Calls Try.prog 41 #[.pointer (some ⟨x, 0, none⟩), .pointer (some ⟨m, 0, none⟩)] w (lookPost W x m σ) := by
  obtain ⟨tb, mb, rb, R, M, _, _, _⟩ := hb.reps
  have h0 : σ.tr.length - 1 < σ.tr.length := by have := hb.ok.one; omega
  have hat := hide (atM_any w m rb σ.tr σ.d M hb.ok.one)
  have hbH := hide hb
  unfold ptr at hat
  generalize σ.tr[σ.tr.length - 1].1 = va at *
  generalize σ.tr[σ.tr.length - 1].2 = vb at *
  clear R M hb h0
  go_enter Try.func41, Try.ntmps41
  go_wp2_with fail
  refine (unhide hat).mono ?_
  clear hat
  rintro e w1 ⟨rfl, q1⟩
  have hb1 := hide ((unhide hbH).quiet q1)
  clear q1 hbH
  go_wp2
  go_loopw [7] (fun z wr => ∃ k : Nat, 6 ≤ k ∧ k ≤ 15 ∧ z = .int .i64 (k : Int) ∧ ∃ S, Both W S wr x m σ) (fun z _ => 16 - (intOf z).toNat)
  case atStart => exact ⟨6, by omega, by omega, rfl, _, unhide hb1⟩
  case round =>
    clear hb1
    obtain ⟨k, hk6, hk15, rfl, S, hb⟩ := hrel
    by_cases hlt : k ≤ 14
    · have g1 : (k : Int) ≤ 14 := by omega
      have hb0 := hb.quiet (w' := wr.alloc (.cells #[.int .i64 (k : Int), .int .i64 va, .int .i64 vb, .int .i64 0, .string ⟨#[]⟩, .string ⟨#[]⟩] 39)) ((Chg.refl _ _).alloc _)
      obtain ⟨⟨ye, yn, ym, ys⟩, hdo⟩ := both_step hb0 ⟨k, va, vb, 0, ⟨#[]⟩, ⟨#[]⟩⟩
      rw [next_look (by omega : (6 : Int) ≤ (k : Int))] at hdo
      simp only at hdo
      have hdoH := hide hdo
      have bo := Blk.new wr 39 [.int .i64 (k : Int), .int .i64 va, .int .i64 vb, .int .i64 0, .string ⟨#[]⟩, .string ⟨#[]⟩]
      have nS : ¬ S wr.heap.size := fun h => by have := (hb.rng _ h).2; omega
      have rgH := hide hb0.rng
      have kH := hide (⟨hk6, hlt⟩ : _ ∧ _)
      clear hdo hb hb0 hk6 hk15 hlt
      have wk : wrap64 ((k : Int) + 1) = (k : Int) + 1 := by have := (unhide kH).2; unfold wrap64; omega
      go_wp2_with fail
      refine (unhide hdoH).mono ?_
      clear hdoH
      rintro e w5 ⟨rfl, hch5, hdom⟩
      have bo5 := (hch5.blk bo nS).alloc (.cells #[.int .i64 ye, .int .i64 yn, .int .i64 ym, .string ys] 36)
      have l0 := bo5.cell 0
      have l1 := bo5.cell 1
      have l2 := bo5.cell 2
      have l3 := bo5.cell 3
      have l4 := bo5.cell 4
      have l5 := bo5.cell 5
      simp at l0 l1 l2 l3 l4 l5
      have nV5 : ¬ S w5.heap.size := fun h => by have := (unhide rgH _ h).2; have := hch5.size; omega
      have hdm := hide (hdom (w5.alloc (.cells #[.int .i64 ye, .int .i64 yn, .int .i64 ym, .string ys] 36)) ((Chg.refl _ _).alloc _))
      have bx := Blk.new w5 36 [.int .i64 ye, .int .i64 yn, .int .i64 ym, .string ys]
      have hX : (ys.toList == ys.toList) = true := by simp
      clear hch5 hdom bo bo5
      go_wp2_with fail
      refine (unhide hdm).mono ?_
      clear hdm l0 l1 l2 l3 l4 l5
      rintro e w7 ⟨rfl, hch7, S7, hb7⟩
      have bx7 := hch7.blk bx nV5
      have x0 := (bx7.alloc (.cells #[.int .i64 ye, .int .i64 yn, .int .i64 ym, .string ys] 36)).cell 0
      have x1 := (bx7.alloc (.cells #[.int .i64 ye, .int .i64 yn, .int .i64 ym, .string ys] 36)).cell 1
      have x2 := (bx7.alloc (.cells #[.int .i64 ye, .int .i64 yn, .int .i64 ym, .string ys] 36)).cell 2
      have x3 := (bx7.alloc (.cells #[.int .i64 ye, .int .i64 yn, .int .i64 ym, .string ys] 36)).cell 3
      simp at x0 x1 x2 x3
      have hb8 := hide (hb7.quiet ((Chg.refl _ _).alloc (.cells #[.int .i64 ye, .int .i64 yn, .int .i64 ym, .string ys] 36)))
      have x7 := bx7.lt
      clear bx bx7 hch7 hb7 nV5 nS
      go_wp2
      go_roundw
      case rel => exact ⟨k + 1, by have := (unhide kH).1; omega, by have := (unhide kH).2; omega, by simp; try exact wk, _, unhide hb8⟩
      case measure =>
        obtain ⟨h1, h2⟩ := unhide kH
        first
          | (show 16 - ((k : Int) + 1).toNat < 16 - (k : Int).toNat; omega)
          | (rw [wk]; show 16 - ((k : Int) + 1).toNat < 16 - (k : Int).toNat; omega)
    · have g1 : ¬ (k : Int) ≤ 14 := by omega
      have hbH : Hid (lookPost W x m σ (.returned (.bool true)) wr) := ⟨rfl, S, hb⟩
      clear hb hlt hk6 hk15
      go_wp2
      go_ret
      exact unhide hbH

/-- A script in memory: it is nil and empty, or its steps lie one behind the other. -/
structure IsOps (w : World) (a : Option Addr) (len cap : Nat) (ops : List Opr) : Prop where
  count : ops.length = len
  small : len ≤ 9223372036854775807
  cells : ∀ i (h : i < ops.length), ∃ b o, a = some ⟨b, o, none⟩ ∧ b < w.heap.size ∧
    w.cell? ⟨b, o + i * 6, none⟩ = some (.int .i64 ops[i].k) ∧ w.cell? ⟨b, o + i * 6 + 1, none⟩ = some (.int .i64 ops[i].a) ∧ w.cell? ⟨b, o + i * 6 + 2, none⟩ = some (.int .i64 ops[i].b) ∧
    w.cell? ⟨b, o + i * 6 + 3, none⟩ = some (.int .i64 ops[i].c) ∧ w.cell? ⟨b, o + i * 6 + 4, none⟩ = some (.string ops[i].s) ∧ w.cell? ⟨b, o + i * 6 + 5, none⟩ = some (.string ops[i].t)

set_option maxHeartbeats 4000000 in
set_option maxRecDepth 100000 in
theorem walk_any (w : World) (a : Option Addr) (len cap : Nat) (ops : List Opr) (quiet : Bool) (ho : IsOps w a len cap ops) :
    Calls Try.prog 15 #[.slice a len cap, .bool quiet] w fun e w' => (∃ n : Int, e = .returned (.tuple #[.int .i64 (-1), .int .i64 n])) ∧ Below w.heap.size w w' := by
  have hlen := ho.small
  have hnew := new_any w
  unfold newPost at hnew
  go_enter Try.func15, Try.ntmps15
  go_wp2_with fail
  refine hnew.mono ?_
  clear hnew
  rintro e w1 ⟨x, tb, mb, rfl, q1, ho1, R1⟩
  have hmn := newM_any w1
  unfold newMPost at hmn
  go_wp2_with fail
  refine hmn.mono ?_
  clear hmn
  rintro e w2 ⟨m, rb, rfl, q2, ho2, M2⟩
  have hb3 := both_new (Chg.refl (fun k => w.heap.size ≤ k) w) q1 ho1 R1 q2 ho2 M2
  clear q1 q2 R1 M2 ho1 ho2
  have hb4 : Hid (∃ S σ, Both w S w2 x m σ) := ⟨_, _, hb3⟩
  have hlk := hide (look_any w w2 _ x m _ hb3)
  unfold lookPost at hlk
  clear hb3
  cases quiet with
  | true =>
    clear hlk
    go_wp2
    go_loopw [8] (fun i wr => ∃ (j : Nat) (S : Nat → Prop) (σ : St), j ≤ len ∧ i = .int .i64 j ∧ Both w S wr x m σ) (fun i _ => len - (intOf i).toNat)
    case atStart =>
      obtain ⟨S, σ, hb⟩ := unhide hb4
      exact ⟨0, S, σ, Nat.zero_le _, rfl, hb⟩
    case round =>
      clear hb4
      obtain ⟨j, S, σ, hj, rfl, hb⟩ := hrel
      have hbel : Below w.heap.size w wr := hb.chg.below _ (Nat.le_refl _) (fun _ h => h)
      have hbelH := hide hbel
      clear hbel
      by_cases hlt : j < len
      · by_cases hmax : (j : Int) < 4398046511104
        · have hjo : j < ops.length := by rw [ho.count]; exact hlt
          obtain ⟨sb, so, rfl, hsb, k0, k1, k2, k3, k4, k5⟩ := ho.cells j hjo
          generalize ops[j] = o at *
          obtain ⟨ok, oa, ob, oc, os, ot⟩ := o
          simp only at k0 k1 k2 k3 k4 k5
          have i1 : (0 : Int) ≤ (j : Int) := by omega
          have i2 : (j : Int) < (len : Int) := by omega
          have g1 : decide (j < len) = true := by simpa using hlt
          have hbl := unhide hbelH
          rw [← hbl.cell (p := ⟨sb, so + j * 6, none⟩) hsb] at k0
          rw [← hbl.cell (p := ⟨sb, so + j * 6 + 1, none⟩) hsb] at k1
          rw [← hbl.cell (p := ⟨sb, so + j * 6 + 2, none⟩) hsb] at k2
          rw [← hbl.cell (p := ⟨sb, so + j * 6 + 3, none⟩) hsb] at k3
          rw [← hbl.cell (p := ⟨sb, so + j * 6 + 4, none⟩) hsb] at k4
          rw [← hbl.cell (p := ⟨sb, so + j * 6 + 5, none⟩) hsb] at k5
          have nS : ¬ S sb := fun h => by have := (hb.rng _ h).1; omega
          clear hbl
          have jH := hide (And.intro hlt hmax)
          have rgH := hide hb.rng
          obtain ⟨⟨ye, yn, ym, ys⟩, hdo⟩ := both_step hb ⟨ok, oa, ob, oc, os, ot⟩
          simp only at hdo
          have hdoH := hide hdo
          clear hdo hb hj hjo
          go_wp2_with fail
          refine (unhide hdoH).mono ?_
          clear hdoH
          rintro e w5 ⟨rfl, hch5, hdom⟩
          have l0 := Quiet.cell (w' := w5.alloc (.cells #[.int .i64 ye, .int .i64 yn, .int .i64 ym, .string ys] 36)) ((Chg.refl _ _).alloc _) (hch5.cell k0 nS)
          have l1 := Quiet.cell (w' := w5.alloc (.cells #[.int .i64 ye, .int .i64 yn, .int .i64 ym, .string ys] 36)) ((Chg.refl _ _).alloc _) (hch5.cell k1 nS)
          have l2 := Quiet.cell (w' := w5.alloc (.cells #[.int .i64 ye, .int .i64 yn, .int .i64 ym, .string ys] 36)) ((Chg.refl _ _).alloc _) (hch5.cell k2 nS)
          have l3 := Quiet.cell (w' := w5.alloc (.cells #[.int .i64 ye, .int .i64 yn, .int .i64 ym, .string ys] 36)) ((Chg.refl _ _).alloc _) (hch5.cell k3 nS)
          have l4 := Quiet.cell (w' := w5.alloc (.cells #[.int .i64 ye, .int .i64 yn, .int .i64 ym, .string ys] 36)) ((Chg.refl _ _).alloc _) (hch5.cell k4 nS)
          have l5 := Quiet.cell (w' := w5.alloc (.cells #[.int .i64 ye, .int .i64 yn, .int .i64 ym, .string ys] 36)) ((Chg.refl _ _).alloc _) (hch5.cell k5 nS)
          have nV5 : ¬ S w5.heap.size := fun h => by have := (unhide rgH _ h).2; have := hch5.size; omega
          have hdm := hide (hdom (w5.alloc (.cells #[.int .i64 ye, .int .i64 yn, .int .i64 ym, .string ys] 36)) ((Chg.refl _ _).alloc _))
          have bx := Blk.new w5 36 [.int .i64 ye, .int .i64 yn, .int .i64 ym, .string ys]
          have hX : (ys.toList == ys.toList) = true := by simp
          clear k0 k1 k2 k3 k4 k5 hch5 hdom
          go_wp2_with fail
          refine (unhide hdm).mono ?_
          clear hdm l0 l1 l2 l3 l4 l5
          rintro e w7 ⟨rfl, hch7, S7, hb7⟩
          have bx7 := hch7.blk bx nV5
          have x0 := (bx7.alloc (.cells #[.int .i64 ye, .int .i64 yn, .int .i64 ym, .string ys] 36)).cell 0
          have x1 := (bx7.alloc (.cells #[.int .i64 ye, .int .i64 yn, .int .i64 ym, .string ys] 36)).cell 1
          have x2 := (bx7.alloc (.cells #[.int .i64 ye, .int .i64 yn, .int .i64 ym, .string ys] 36)).cell 2
          have x3 := (bx7.alloc (.cells #[.int .i64 ye, .int .i64 yn, .int .i64 ym, .string ys] 36)).cell 3
          simp at x0 x1 x2 x3
          have hb8 := hide (hb7.quiet ((Chg.refl _ _).alloc (.cells #[.int .i64 ye, .int .i64 yn, .int .i64 ym, .string ys] 36)))
          have x7 := bx7.lt
          clear bx bx7 hch7 hb7 nV5 nS
          go_wp2
          go_roundw
          case rel => exact ⟨j + 1, _, _, (unhide jH).1, by go_num, unhide hb8⟩
          case measure =>
            obtain ⟨h1, h2⟩ := unhide jH
            simp [intOf]; omega
        · have g1 : decide (j < len) = true := by simpa using hlt
          have g2 : ¬ (j : Int) < 4398046511104 := hmax
          have g3 : ¬ (len : Int) < 4398046511104 := by omega
          clear hb hmax
          go_wp2
          go_ret2
          exact ⟨⟨_, rfl⟩, unhide hbelH⟩
      · have g1 : decide (j < len) = false := by simpa using hlt
        have g2 : ¬ (j : Int) < (len : Int) := by omega
        clear hb
        by_cases g3 : (len : Int) < 4398046511104
        · go_wp2
          go_ret2
          exact ⟨⟨_, rfl⟩, unhide hbelH⟩
        · go_wp2
          go_ret2
          exact ⟨⟨_, rfl⟩, unhide hbelH⟩
  | false =>
    clear hb4
    go_wp2_with fail
    refine (unhide hlk).mono ?_
    clear hlk
    rintro e w3 ⟨rfl, S3, hb3⟩
    have hb4 : Hid (∃ S σ, Both w S w3 x m σ) := ⟨_, _, hb3⟩
    clear hb3
    go_wp2
    go_loopw [8] (fun i wr => ∃ (j : Nat) (S : Nat → Prop) (σ : St), j ≤ len ∧ i = .int .i64 j ∧ Both w S wr x m σ) (fun i _ => len - (intOf i).toNat)
    case atStart =>
      obtain ⟨S, σ, hb⟩ := unhide hb4
      exact ⟨0, S, σ, Nat.zero_le _, rfl, hb⟩
    case round =>
      clear hb4
      obtain ⟨j, S, σ, hj, rfl, hb⟩ := hrel
      have hbel : Below w.heap.size w wr := hb.chg.below _ (Nat.le_refl _) (fun _ h => h)
      have hbelH := hide hbel
      clear hbel
      by_cases hlt : j < len
      · by_cases hmax : (j : Int) < 4398046511104
        · have hjo : j < ops.length := by rw [ho.count]; exact hlt
          obtain ⟨sb, so, rfl, hsb, k0, k1, k2, k3, k4, k5⟩ := ho.cells j hjo
          generalize ops[j] = o at *
          obtain ⟨ok, oa, ob, oc, os, ot⟩ := o
          simp only at k0 k1 k2 k3 k4 k5
          have i1 : (0 : Int) ≤ (j : Int) := by omega
          have i2 : (j : Int) < (len : Int) := by omega
          have g1 : decide (j < len) = true := by simpa using hlt
          have hbl := unhide hbelH
          rw [← hbl.cell (p := ⟨sb, so + j * 6, none⟩) hsb] at k0
          rw [← hbl.cell (p := ⟨sb, so + j * 6 + 1, none⟩) hsb] at k1
          rw [← hbl.cell (p := ⟨sb, so + j * 6 + 2, none⟩) hsb] at k2
          rw [← hbl.cell (p := ⟨sb, so + j * 6 + 3, none⟩) hsb] at k3
          rw [← hbl.cell (p := ⟨sb, so + j * 6 + 4, none⟩) hsb] at k4
          rw [← hbl.cell (p := ⟨sb, so + j * 6 + 5, none⟩) hsb] at k5
          have nS : ¬ S sb := fun h => by have := (hb.rng _ h).1; omega
          clear hbl
          have jH := hide (And.intro hlt hmax)
          have rgH := hide hb.rng
          obtain ⟨⟨ye, yn, ym, ys⟩, hdo⟩ := both_step hb ⟨ok, oa, ob, oc, os, ot⟩
          simp only at hdo
          have hdoH := hide hdo
          clear hdo hb hj hjo
          go_wp2_with fail
          refine (unhide hdoH).mono ?_
          clear hdoH
          rintro e w5 ⟨rfl, hch5, hdom⟩
          have l0 := Quiet.cell (w' := w5.alloc (.cells #[.int .i64 ye, .int .i64 yn, .int .i64 ym, .string ys] 36)) ((Chg.refl _ _).alloc _) (hch5.cell k0 nS)
          have l1 := Quiet.cell (w' := w5.alloc (.cells #[.int .i64 ye, .int .i64 yn, .int .i64 ym, .string ys] 36)) ((Chg.refl _ _).alloc _) (hch5.cell k1 nS)
          have l2 := Quiet.cell (w' := w5.alloc (.cells #[.int .i64 ye, .int .i64 yn, .int .i64 ym, .string ys] 36)) ((Chg.refl _ _).alloc _) (hch5.cell k2 nS)
          have l3 := Quiet.cell (w' := w5.alloc (.cells #[.int .i64 ye, .int .i64 yn, .int .i64 ym, .string ys] 36)) ((Chg.refl _ _).alloc _) (hch5.cell k3 nS)
          have l4 := Quiet.cell (w' := w5.alloc (.cells #[.int .i64 ye, .int .i64 yn, .int .i64 ym, .string ys] 36)) ((Chg.refl _ _).alloc _) (hch5.cell k4 nS)
          have l5 := Quiet.cell (w' := w5.alloc (.cells #[.int .i64 ye, .int .i64 yn, .int .i64 ym, .string ys] 36)) ((Chg.refl _ _).alloc _) (hch5.cell k5 nS)
          have nV5 : ¬ S w5.heap.size := fun h => by have := (unhide rgH _ h).2; have := hch5.size; omega
          have hdm := hide (hdom (w5.alloc (.cells #[.int .i64 ye, .int .i64 yn, .int .i64 ym, .string ys] 36)) ((Chg.refl _ _).alloc _))
          have bx := Blk.new w5 36 [.int .i64 ye, .int .i64 yn, .int .i64 ym, .string ys]
          have hX : (ys.toList == ys.toList) = true := by simp
          clear k0 k1 k2 k3 k4 k5 hch5 hdom
          go_wp2_with fail
          refine (unhide hdm).mono ?_
          clear hdm l0 l1 l2 l3 l4 l5
          rintro e w7 ⟨rfl, hch7, S7, hb7⟩
          have bx7 := hch7.blk bx nV5
          have x0 := (bx7.alloc (.cells #[.int .i64 ye, .int .i64 yn, .int .i64 ym, .string ys] 36)).cell 0
          have x1 := (bx7.alloc (.cells #[.int .i64 ye, .int .i64 yn, .int .i64 ym, .string ys] 36)).cell 1
          have x2 := (bx7.alloc (.cells #[.int .i64 ye, .int .i64 yn, .int .i64 ym, .string ys] 36)).cell 2
          have x3 := (bx7.alloc (.cells #[.int .i64 ye, .int .i64 yn, .int .i64 ym, .string ys] 36)).cell 3
          simp at x0 x1 x2 x3
          have hb8 := hide (hb7.quiet ((Chg.refl _ _).alloc (.cells #[.int .i64 ye, .int .i64 yn, .int .i64 ym, .string ys] 36)))
          have x7 := bx7.lt
          clear bx bx7 hch7 hb7 nV5 nS
          have hlk := hide (look_any w _ _ x m _ (unhide hb8))
          unfold lookPost at hlk
          clear hb8
          go_wp2_with fail
          refine (unhide hlk).mono ?_
          clear hlk x0 x1 x2 x3
          rintro e w9 ⟨rfl, S9, hb9⟩
          have hb9H := hide hb9
          clear hb9
          go_wp2
          go_roundw
          case rel => exact ⟨j + 1, _, _, (unhide jH).1, by go_num, unhide hb9H⟩
          case measure =>
            obtain ⟨h1, h2⟩ := unhide jH
            simp [intOf]; omega
        · have g1 : decide (j < len) = true := by simpa using hlt
          have g2 : ¬ (j : Int) < 4398046511104 := hmax
          have g3 : ¬ (len : Int) < 4398046511104 := by omega
          clear hb hmax
          go_wp2
          go_ret2
          exact ⟨⟨_, rfl⟩, unhide hbelH⟩
      · have g1 : decide (j < len) = false := by simpa using hlt
        have g2 : ¬ (j : Int) < (len : Int) := by omega
        clear hb
        by_cases g3 : (len : Int) < 4398046511104
        · go_wp2
          go_ret2
          exact ⟨⟨_, rfl⟩, unhide hbelH⟩
        · go_wp2
          go_ret2
          exact ⟨⟨_, rfl⟩, unhide hbelH⟩
end Go.Proofs.Qxb6500366a
