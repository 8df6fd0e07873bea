/-
  KEEPS: step, its kinds that read: none, Seen, Reach, Turn. (gen6kt.py)
-/
import Derived.Test.Qxb6500366aKg
namespace Go.Proofs.Qxb6500366a
open Go.RowKit Go.Qx
set_option linter.unusedVariables false
set_option linter.unusedSimpArgs false

def stepPost (w : World) (g gx gy : Nat) (tr : List Pt) (d : Pt) (e : Ending) (w' : World) : Prop := e = .returned (.bool true) ∧ Chg (ownG g gx gy) w w' ∧ RepG w' g gx gy tr d

set_option maxRecDepth 100000 in
set_option maxHeartbeats 8000000 in
theorem step_none (w : World) (x tb mb g gx gy : Nat) (tr : List Pt) (d : Pt) (k E N M : Int) (R : ByteArray) (a b c : Int) (s t : ByteArray) (G : RepG w g gx gy tr d) (I : Inv tr d) (h1 : (k == 1) = false) (h4 : (k == 4) = false) (h5 : (k == 5) = false) (h3 : (k == 3) = false) (h2 : (k == 2) = false) (h8 : (k == 8) = false) (h10 : (k == 10) = false) :
    Calls Try.prog 14 #[ptr x, ptr g, opv k a b c s t, ansv E N M R] w (stepPost w g gx gy tr d) := by
  have hq0 : Hid (Quiet w ((w.alloc (.cells #[.int .i64 k, .int .i64 a, .int .i64 b, .int .i64 c, .string s, .string t] 39)).alloc (.cells #[.int .i64 E, .int .i64 N, .int .i64 M, .string R] 36))) := Chg.alloc (Chg.alloc (Chg.refl (fun _ => False) w) _) _
  have bo : Hid (Blk ((w.alloc (.cells #[.int .i64 k, .int .i64 a, .int .i64 b, .int .i64 c, .string s, .string t] 39)).alloc (.cells #[.int .i64 E, .int .i64 N, .int .i64 M, .string R] 36)) w.heap.size 39 [.int .i64 k, .int .i64 a, .int .i64 b, .int .i64 c, .string s, .string t]) := (Blk.new w 39 [.int .i64 k, .int .i64 a, .int .i64 b, .int .i64 c, .string s, .string t]).alloc _
  have ba : Hid (Blk ((w.alloc (.cells #[.int .i64 k, .int .i64 a, .int .i64 b, .int .i64 c, .string s, .string t] 39)).alloc (.cells #[.int .i64 E, .int .i64 N, .int .i64 M, .string R] 36)) (w.heap.size + 1) 36 [.int .i64 E, .int .i64 N, .int .i64 M, .string R]) := by
    have h := Blk.new (w.alloc (.cells #[.int .i64 k, .int .i64 a, .int .i64 b, .int .i64 c, .string s, .string t] 39)) 36 [.int .i64 E, .int .i64 N, .int .i64 M, .string R]
    rw [show (w.alloc (.cells #[.int .i64 k, .int .i64 a, .int .i64 b, .int .i64 c, .string s, .string t] 39)).heap.size = w.heap.size + 1 by simp] at h
    exact h
  obtain ⟨W0, hW0⟩ : ∃ W, ((w.alloc (.cells #[.int .i64 k, .int .i64 a, .int .i64 b, .int .i64 c, .string s, .string t] 39)).alloc (.cells #[.int .i64 E, .int .i64 N, .int .i64 M, .string R] 36)) = W := ⟨_, rfl⟩
  rw [hW0] at hq0 bo ba
  have G0 := G.quiet (unhide hq0)
  obtain ⟨hm, hml⟩ := modP_spec a
  have hmb : -4 < a.tmod 4 ∧ a.tmod 4 < 4 := by
    have h1 := Int.lt_tmod_of_pos a (show (0 : Int) < 4 by decide)
    have h2 := Int.tmod_lt_of_pos a (show (0 : Int) < 4 by decide)
    omega
  have um1 : wrap64 (a.tmod 4 + 4) = a.tmod 4 + 4 := by unfold wrap64; omega
  have um2 : wrap64 (a.tmod 4) = a.tmod 4 := by unfold wrap64; omega
  have um3 : wrap64 ((modP a : Nat) : Int) = ((modP a : Nat) : Int) := wrap_small _ (by omega)
  have o0 := (unhide bo).cell 0
  have o1 := (unhide bo).cell 1
  have o2 := (unhide bo).cell 2
  have a0 := (unhide ba).cell 0
  have a1 := (unhide ba).cell 1
  simp at o0 o1 o2 a0 a1
  obtain ⟨g0, g1, g2, g3⟩ := G0.cells
  clear hmb
  have fin : Hid (stepPost w g gx gy tr d (.returned (.bool true)) W0) := ⟨rfl, Quiet.chg (unhide hq0) _, G0⟩
  clear G0 G I
  unfold ptr opv ansv ansC
  go_enter Try.func14, Try.ntmps14
  go_wp2
  go_ret
  exact unhide fin

set_option maxRecDepth 100000 in
set_option maxHeartbeats 8000000 in
theorem step_seen (w : World) (x tb mb g gx gy : Nat) (tr : List Pt) (d : Pt) (E N M : Int) (R : ByteArray) (a b c : Int) (s t : ByteArray) (G : RepG w g gx gy tr d) (I : Inv tr d) (hN : N = amongP tr (a, b) tr.length) :
    Calls Try.prog 14 #[ptr x, ptr g, opv 8 a b c s t, ansv E N M R] w (stepPost w g gx gy tr d) := by
  have hq0 : Hid (Quiet w ((w.alloc (.cells #[.int .i64 8, .int .i64 a, .int .i64 b, .int .i64 c, .string s, .string t] 39)).alloc (.cells #[.int .i64 E, .int .i64 N, .int .i64 M, .string R] 36))) := Chg.alloc (Chg.alloc (Chg.refl (fun _ => False) w) _) _
  have bo : Hid (Blk ((w.alloc (.cells #[.int .i64 8, .int .i64 a, .int .i64 b, .int .i64 c, .string s, .string t] 39)).alloc (.cells #[.int .i64 E, .int .i64 N, .int .i64 M, .string R] 36)) w.heap.size 39 [.int .i64 8, .int .i64 a, .int .i64 b, .int .i64 c, .string s, .string t]) := (Blk.new w 39 [.int .i64 8, .int .i64 a, .int .i64 b, .int .i64 c, .string s, .string t]).alloc _
  have ba : Hid (Blk ((w.alloc (.cells #[.int .i64 8, .int .i64 a, .int .i64 b, .int .i64 c, .string s, .string t] 39)).alloc (.cells #[.int .i64 E, .int .i64 N, .int .i64 M, .string R] 36)) (w.heap.size + 1) 36 [.int .i64 E, .int .i64 N, .int .i64 M, .string R]) := by
    have h := Blk.new (w.alloc (.cells #[.int .i64 8, .int .i64 a, .int .i64 b, .int .i64 c, .string s, .string t] 39)) 36 [.int .i64 E, .int .i64 N, .int .i64 M, .string R]
    rw [show (w.alloc (.cells #[.int .i64 8, .int .i64 a, .int .i64 b, .int .i64 c, .string s, .string t] 39)).heap.size = w.heap.size + 1 by simp] at h
    exact h
  obtain ⟨W0, hW0⟩ : ∃ W, ((w.alloc (.cells #[.int .i64 8, .int .i64 a, .int .i64 b, .int .i64 c, .string s, .string t] 39)).alloc (.cells #[.int .i64 E, .int .i64 N, .int .i64 M, .string R] 36)) = W := ⟨_, rfl⟩
  rw [hW0] at hq0 bo ba
  have G0 := G.quiet (unhide hq0)
  obtain ⟨hm, hml⟩ := modP_spec a
  have hmb : -4 < a.tmod 4 ∧ a.tmod 4 < 4 := by
    have h1 := Int.lt_tmod_of_pos a (show (0 : Int) < 4 by decide)
    have h2 := Int.tmod_lt_of_pos a (show (0 : Int) < 4 by decide)
    omega
  have um1 : wrap64 (a.tmod 4 + 4) = a.tmod 4 + 4 := by unfold wrap64; omega
  have um2 : wrap64 (a.tmod 4) = a.tmod 4 := by unfold wrap64; omega
  have um3 : wrap64 ((modP a : Nat) : Int) = ((modP a : Nat) : Int) := wrap_small _ (by omega)
  have o0 := (unhide bo).cell 0
  have o1 := (unhide bo).cell 1
  have o2 := (unhide bo).cell 2
  have a0 := (unhide ba).cell 0
  have a1 := (unhide ba).cell 1
  simp at o0 o1 o2 a0 a1
  obtain ⟨g0, g1, g2, g3⟩ := G0.cells
  clear hmb
  have hct : Hid (∀ n, _) := fun n => count_any (W0.drewN n) g gx gy tr d (G0.quiet ((Chg.refl _ _).drewN n)) a b
  rw [← hN] at hct
  have fin : Hid (∀ n, stepPost w g gx gy tr d (.returned (.bool true)) (W0.drewN n)) := fun n => ⟨rfl, Chg.drewN (Quiet.chg (unhide hq0) _) n, G0.quiet ((Chg.refl _ _).drewN n)⟩
  have hct2 := unhide hct
  unfold ptr at hct2
  clear G0 G I hN hct
  unfold ptr opv ansv ansC
  go_enter Try.func14, Try.ntmps14
  go_wp2
  go_quiet ((go_at_call 39; exact Calls.quiet_of_same (hct2 _)))
  go_wp2
  go_ret
  first
    | exact unhide fin _
    | (simp; exact unhide fin _)

set_option maxRecDepth 100000 in
set_option maxHeartbeats 8000000 in
theorem step_reach (w : World) (x tb mb g gx gy : Nat) (tr : List Pt) (d : Pt) (E N M : Int) (R : ByteArray) (a b c : Int) (s t : ByteArray) (G : RepG w g gx gy tr d) (I : Inv tr d) (RX : Rep w x tb mb tr d) (hN : N = reachP (runOf tr) a) :
    Calls Try.prog 14 #[ptr x, ptr g, opv 10 a b c s t, ansv E N M R] w (stepPost w g gx gy tr d) := by
  have hq0 : Hid (Quiet w ((w.alloc (.cells #[.int .i64 10, .int .i64 a, .int .i64 b, .int .i64 c, .string s, .string t] 39)).alloc (.cells #[.int .i64 E, .int .i64 N, .int .i64 M, .string R] 36))) := Chg.alloc (Chg.alloc (Chg.refl (fun _ => False) w) _) _
  have bo : Hid (Blk ((w.alloc (.cells #[.int .i64 10, .int .i64 a, .int .i64 b, .int .i64 c, .string s, .string t] 39)).alloc (.cells #[.int .i64 E, .int .i64 N, .int .i64 M, .string R] 36)) w.heap.size 39 [.int .i64 10, .int .i64 a, .int .i64 b, .int .i64 c, .string s, .string t]) := (Blk.new w 39 [.int .i64 10, .int .i64 a, .int .i64 b, .int .i64 c, .string s, .string t]).alloc _
  have ba : Hid (Blk ((w.alloc (.cells #[.int .i64 10, .int .i64 a, .int .i64 b, .int .i64 c, .string s, .string t] 39)).alloc (.cells #[.int .i64 E, .int .i64 N, .int .i64 M, .string R] 36)) (w.heap.size + 1) 36 [.int .i64 E, .int .i64 N, .int .i64 M, .string R]) := by
    have h := Blk.new (w.alloc (.cells #[.int .i64 10, .int .i64 a, .int .i64 b, .int .i64 c, .string s, .string t] 39)) 36 [.int .i64 E, .int .i64 N, .int .i64 M, .string R]
    rw [show (w.alloc (.cells #[.int .i64 10, .int .i64 a, .int .i64 b, .int .i64 c, .string s, .string t] 39)).heap.size = w.heap.size + 1 by simp] at h
    exact h
  obtain ⟨W0, hW0⟩ : ∃ W, ((w.alloc (.cells #[.int .i64 10, .int .i64 a, .int .i64 b, .int .i64 c, .string s, .string t] 39)).alloc (.cells #[.int .i64 E, .int .i64 N, .int .i64 M, .string R] 36)) = W := ⟨_, rfl⟩
  rw [hW0] at hq0 bo ba
  have G0 := G.quiet (unhide hq0)
  obtain ⟨hm, hml⟩ := modP_spec a
  have hmb : -4 < a.tmod 4 ∧ a.tmod 4 < 4 := by
    have h1 := Int.lt_tmod_of_pos a (show (0 : Int) < 4 by decide)
    have h2 := Int.tmod_lt_of_pos a (show (0 : Int) < 4 by decide)
    omega
  have um1 : wrap64 (a.tmod 4 + 4) = a.tmod 4 + 4 := by unfold wrap64; omega
  have um2 : wrap64 (a.tmod 4) = a.tmod 4 := by unfold wrap64; omega
  have um3 : wrap64 ((modP a : Nat) : Int) = ((modP a : Nat) : Int) := wrap_small _ (by omega)
  have o0 := (unhide bo).cell 0
  have o1 := (unhide bo).cell 1
  have o2 := (unhide bo).cell 2
  have a0 := (unhide ba).cell 0
  have a1 := (unhide ba).cell 1
  simp at o0 o1 o2 a0 a1
  obtain ⟨g0, g1, g2, g3⟩ := G0.cells
  clear hmb
  have R0 : Rep W0 x tb mb tr d := RX.quiet (unhide hq0)
  have hre : Hid (∀ n, _) := fun n => reach_any (W0.drewN n) x tb mb _ tr d (R0.quiet ((Chg.refl _ _).drewN n)) (box_small tr I.one I.small).1 (box_small tr I.one I.small).2 ((modP a : Nat) : Int)
  have em : reachP (runOf tr) ((modP a : Nat) : Int) = N := by
    rw [hN]; unfold reachP
    have e : modP ((modP a : Nat) : Int) = modP a := by
      generalize modP a = j at hml
      unfold modP; omega
    rw [e]
  rw [em] at hre
  have fin : Hid (∀ n, stepPost w g gx gy tr d (.returned (.bool true)) (W0.drewN n)) := fun n => ⟨rfl, Chg.drewN (Quiet.chg (unhide hq0) _) n, G0.quiet ((Chg.refl _ _).drewN n)⟩
  have hre2 := unhide hre
  unfold ptr at hre2
  generalize modP a = r at *
  clear G0 G I hN hre em R0 RX
  unfold ptr opv ansv ansC
  go_enter Try.func14, Try.ntmps14
  go_wp2
  go_quiet ((go_at_call 33; exact Calls.quiet_of_same (hre2 _)))
  go_wp2
  go_ret
  first
    | exact unhide fin _
    | (simp; exact unhide fin _)
end Go.Proofs.Qxb6500366a
