/-
  KEEPS: step at Forward. (gen6kt1.py)
-/
import Derived.Test.Qxb6500366aKt
import Derived.Test.Qxb6500366aMod2
import Derived.Deep.DeepCutAuto
namespace Go.Proofs.Qxb6500366a
open Go.RowKit Go.Qx
set_option linter.unusedVariables false
set_option linter.unusedSimpArgs false

structure MidG (w : World) (g gx gy : Nat) (tr : List Pt) (d : Pt) (cs ds : List Value) (H1 a b c : Int) (s t : ByteArray) (N M : Int) (R : ByteArray) (wx : World) : Prop where
  chg : Chg (ownG g gx gy) w wx
  bg : Blk wx g 32 [(.slice (some ⟨gx, 0, none⟩) (tr.length + 1) 24), .slice (some ⟨gy, 0, none⟩) tr.length 24, .int .i64 d.1, .int .i64 d.2]
  bx : Blk wx gx 3 (cs.set tr.length (.int .i64 H1))
  bY : Blk wx gy 3 ds
  bo : Blk wx w.heap.size 39 [.int .i64 1, .int .i64 a, .int .i64 b, .int .i64 c, .string s, .string t]
  ba : Blk wx (w.heap.size + 1) 36 [.int .i64 0, .int .i64 N, .int .i64 M, .string R]
theorem info3 : (Try.prog.info? 3).map (fun i => (i.zero, i.size, i.bytes)) = some (some (.int .i64 0), 1, 8) := by kernel_rfl

set_option maxRecDepth 100000 in
set_option maxHeartbeats 8000000 in
theorem step_far (w : World) (x tb mb g gx gy : Nat) (tr : List Pt) (d : Pt) (N M : Int) (R : ByteArray) (a b c : Int) (s t : ByteArray) (G : RepG w g gx gy tr d) (I : Inv tr d) (hfar : a < -2097152 ∨ 2097152 < a) :
    Calls Try.prog 14 #[ptr x, ptr g, opv 1 a b c s t, ansv (fwE tr (runOf tr) d a) N M R] w (stepPost w g gx gy (fwT tr (runOf tr) d a) d) := by
  obtain ⟨E, hE⟩ : ∃ E, fwE tr (runOf tr) d a = E := ⟨_, rfl⟩
  rw [hE]
  have hq0 : Hid (Quiet w ((w.alloc (.cells #[.int .i64 1, .int .i64 a, .int .i64 b, .int .i64 c, .string s, .string t] 39)).alloc (.cells #[.int .i64 E, .int .i64 N, .int .i64 M, .string R] 36))) := Chg.alloc (Chg.alloc (Chg.refl (fun _ => False) w) _) _
  have bo : Hid (Blk ((w.alloc (.cells #[.int .i64 1, .int .i64 a, .int .i64 b, .int .i64 c, .string s, .string t] 39)).alloc (.cells #[.int .i64 E, .int .i64 N, .int .i64 M, .string R] 36)) w.heap.size 39 [.int .i64 1, .int .i64 a, .int .i64 b, .int .i64 c, .string s, .string t]) := (Blk.new w 39 [.int .i64 1, .int .i64 a, .int .i64 b, .int .i64 c, .string s, .string t]).alloc _
  have ba : Hid (Blk ((w.alloc (.cells #[.int .i64 1, .int .i64 a, .int .i64 b, .int .i64 c, .string s, .string t] 39)).alloc (.cells #[.int .i64 E, .int .i64 N, .int .i64 M, .string R] 36)) (w.heap.size + 1) 36 [.int .i64 E, .int .i64 N, .int .i64 M, .string R]) := by
    have h := Blk.new (w.alloc (.cells #[.int .i64 1, .int .i64 a, .int .i64 b, .int .i64 c, .string s, .string t] 39)) 36 [.int .i64 E, .int .i64 N, .int .i64 M, .string R]
    rw [show (w.alloc (.cells #[.int .i64 1, .int .i64 a, .int .i64 b, .int .i64 c, .string s, .string t] 39)).heap.size = w.heap.size + 1 by simp] at h
    exact h
  obtain ⟨W0, hW0⟩ : ∃ W, ((w.alloc (.cells #[.int .i64 1, .int .i64 a, .int .i64 b, .int .i64 c, .string s, .string t] 39)).alloc (.cells #[.int .i64 E, .int .i64 N, .int .i64 M, .string R] 36)) = W := ⟨_, rfl⟩
  rw [hW0] at hq0 bo ba
  have G0 := G.quiet (unhide hq0)
  obtain ⟨hm, hml⟩ := modP_spec a
  have hmb : -4 < a.tmod 4 ∧ a.tmod 4 < 4 := by
    have h1 := Int.lt_tmod_of_pos a (show (0 : Int) < 4 by decide)
    have h2 := Int.tmod_lt_of_pos a (show (0 : Int) < 4 by decide)
    omega
  have um1 : wrap64 (a.tmod 4 + 4) = a.tmod 4 + 4 := by unfold wrap64; omega
  have um2 : wrap64 (a.tmod 4) = a.tmod 4 := by unfold wrap64; omega
  have um3 : wrap64 ((modP a : Nat) : Int) = ((modP a : Nat) : Int) := wrap_small _ (by omega)
  have o0 := (unhide bo).cell 0
  have o1 := (unhide bo).cell 1
  have o2 := (unhide bo).cell 2
  have a0 := (unhide ba).cell 0
  have a1 := (unhide ba).cell 1
  simp at o0 o1 o2 a0 a1
  obtain ⟨g0, g1, g2, g3⟩ := G0.cells
  clear hmb
  have few := G0.few
  have one := I.one
  have hps := I.bd.pos
  have hdd := I.dir
  obtain ⟨r0, r1⟩ := G0.at (tr.length - 1) (by omega)
  rw [← runOf_pos tr one] at r0 r1
  have hqg := getD_get tr (tr.length - 1) (by omega)
  rw [← runOf_pos tr one] at hqg
  obtain ⟨p, hp⟩ : ∃ p, tr.length - 1 = p := ⟨_, rfl⟩
  rw [hp] at r0 r1
  have v5 : wrap64 ((tr.length : Int) - 1) = (p : Int) := by unfold wrap64; omega
  have v6 : IntKind.i64.wrap ((tr.length : Int) - 1) = (p : Int) := by rw [IntKind.wrap_i64]; omega
  have k3 : (0 : Int) ≤ (p : Int) := by omega
  have k4 : (p : Int) < (tr.length : Int) := by omega
  generalize runOf tr = r at *
  have eG := hide (goalP_eq r.pos a d)
  obtain ⟨q, hq⟩ : ∃ q, r.pos = q := ⟨_, rfl⟩
  rw [hq] at r0 r1 hps hqg
  have eG : Hid (goalP r.pos a d = (q.1 + a * d.1, q.2 + a * d.2)) := by show _ = _; rw [hq]; exact goalP_eq q a d
  obtain ⟨p1, p2, p3, p4⟩ := hps
  have stay : Hid (∀ n, ¬ E = 0 → stepPost w g gx gy (fwT tr r d a) d (.returned (.bool true)) (W0.drewN n)) := fun n h0 => by
    rw [show fwT tr r d a = tr by unfold fwT; rw [hE, if_neg h0]]
    exact ⟨rfl, Chg.drewN (Quiet.chg (unhide hq0) _) n, G0.quiet ((Chg.refl _ _).drewN n)⟩
  have few24 := hide few
  have G0H := hide G0
  have hpH := hide hp
  have hqH : Hid (tr.getD (tr.length - 1) (0, 0) = q) := hqg
  generalize modP a = rr at *
  have gltH := hide G.lts
  clear hq hp G0 G I hqg
  have e1 : E = 1 := by rw [← hE]; unfold fwE; rw [if_pos hfar]
  subst e1
  have fin : Hid (∀ n, _) := fun n => unhide stay n (by decide)
  clear stay hE eG p1 p2 p3 p4 few one hdd hml v5 v6 k3 k4 r0 r1
  rcases hfar with hf | hf
  · unfold ptr opv ansv ansC
    go_enter Try.func14, Try.ntmps14
    go_wp2
    clear hm um1 um2 um3 g0 g1 g2 g3
    go_quiet (fail)
    clear o1 o2 o0 a1
    go_wp2
    go_ret
    exact unhide fin _
  · have hf2 : decide (a < -2097152) = false := by rw [decide_eq_false_iff_not]; omega
    have hf3 : decide (2097152 < a) = true := by rw [decide_eq_true_eq]; exact hf
    clear hf
    unfold ptr opv ansv ansC
    go_enter Try.func14, Try.ntmps14
    go_wp2
    clear hm um1 um2 um3 g0 g1 g2 g3
    go_quiet (fail)
    clear o1 o2 o0 a1
    go_wp2
    go_ret
    exact unhide fin _

set_option maxRecDepth 100000 in
set_option maxHeartbeats 8000000 in
theorem step_near (w : World) (x tb mb g gx gy : Nat) (tr : List Pt) (d : Pt) (N M : Int) (R : ByteArray) (a b c : Int) (s t : ByteArray) (G : RepG w g gx gy tr d) (I : Inv tr d) (hnear : ¬ (a < -2097152 ∨ 2097152 < a)) (hno : ¬ fwE tr (runOf tr) d a = 0) :
    Calls Try.prog 14 #[ptr x, ptr g, opv 1 a b c s t, ansv (fwE tr (runOf tr) d a) N M R] w (stepPost w g gx gy (fwT tr (runOf tr) d a) d) := by
  obtain ⟨E, hE⟩ : ∃ E, fwE tr (runOf tr) d a = E := ⟨_, rfl⟩
  rw [hE]
  rw [hE] at hno
  have hq0 : Hid (Quiet w ((w.alloc (.cells #[.int .i64 1, .int .i64 a, .int .i64 b, .int .i64 c, .string s, .string t] 39)).alloc (.cells #[.int .i64 E, .int .i64 N, .int .i64 M, .string R] 36))) := Chg.alloc (Chg.alloc (Chg.refl (fun _ => False) w) _) _
  have bo : Hid (Blk ((w.alloc (.cells #[.int .i64 1, .int .i64 a, .int .i64 b, .int .i64 c, .string s, .string t] 39)).alloc (.cells #[.int .i64 E, .int .i64 N, .int .i64 M, .string R] 36)) w.heap.size 39 [.int .i64 1, .int .i64 a, .int .i64 b, .int .i64 c, .string s, .string t]) := (Blk.new w 39 [.int .i64 1, .int .i64 a, .int .i64 b, .int .i64 c, .string s, .string t]).alloc _
  have ba : Hid (Blk ((w.alloc (.cells #[.int .i64 1, .int .i64 a, .int .i64 b, .int .i64 c, .string s, .string t] 39)).alloc (.cells #[.int .i64 E, .int .i64 N, .int .i64 M, .string R] 36)) (w.heap.size + 1) 36 [.int .i64 E, .int .i64 N, .int .i64 M, .string R]) := by
    have h := Blk.new (w.alloc (.cells #[.int .i64 1, .int .i64 a, .int .i64 b, .int .i64 c, .string s, .string t] 39)) 36 [.int .i64 E, .int .i64 N, .int .i64 M, .string R]
    rw [show (w.alloc (.cells #[.int .i64 1, .int .i64 a, .int .i64 b, .int .i64 c, .string s, .string t] 39)).heap.size = w.heap.size + 1 by simp] at h
    exact h
  obtain ⟨W0, hW0⟩ : ∃ W, ((w.alloc (.cells #[.int .i64 1, .int .i64 a, .int .i64 b, .int .i64 c, .string s, .string t] 39)).alloc (.cells #[.int .i64 E, .int .i64 N, .int .i64 M, .string R] 36)) = W := ⟨_, rfl⟩
  rw [hW0] at hq0 bo ba
  have G0 := G.quiet (unhide hq0)
  obtain ⟨hm, hml⟩ := modP_spec a
  have hmb : -4 < a.tmod 4 ∧ a.tmod 4 < 4 := by
    have h1 := Int.lt_tmod_of_pos a (show (0 : Int) < 4 by decide)
    have h2 := Int.tmod_lt_of_pos a (show (0 : Int) < 4 by decide)
    omega
  have um1 : wrap64 (a.tmod 4 + 4) = a.tmod 4 + 4 := by unfold wrap64; omega
  have um2 : wrap64 (a.tmod 4) = a.tmod 4 := by unfold wrap64; omega
  have um3 : wrap64 ((modP a : Nat) : Int) = ((modP a : Nat) : Int) := wrap_small _ (by omega)
  have o0 := (unhide bo).cell 0
  have o1 := (unhide bo).cell 1
  have o2 := (unhide bo).cell 2
  have a0 := (unhide ba).cell 0
  have a1 := (unhide ba).cell 1
  simp at o0 o1 o2 a0 a1
  obtain ⟨g0, g1, g2, g3⟩ := G0.cells
  clear hmb
  have few := G0.few
  have one := I.one
  have hps := I.bd.pos
  have hdd := I.dir
  obtain ⟨r0, r1⟩ := G0.at (tr.length - 1) (by omega)
  rw [← runOf_pos tr one] at r0 r1
  have hqg := getD_get tr (tr.length - 1) (by omega)
  rw [← runOf_pos tr one] at hqg
  obtain ⟨p, hp⟩ : ∃ p, tr.length - 1 = p := ⟨_, rfl⟩
  rw [hp] at r0 r1
  have v5 : wrap64 ((tr.length : Int) - 1) = (p : Int) := by unfold wrap64; omega
  have v6 : IntKind.i64.wrap ((tr.length : Int) - 1) = (p : Int) := by rw [IntKind.wrap_i64]; omega
  have k3 : (0 : Int) ≤ (p : Int) := by omega
  have k4 : (p : Int) < (tr.length : Int) := by omega
  generalize runOf tr = r at *
  have eG := hide (goalP_eq r.pos a d)
  obtain ⟨q, hq⟩ : ∃ q, r.pos = q := ⟨_, rfl⟩
  rw [hq] at r0 r1 hps hqg
  have eG : Hid (goalP r.pos a d = (q.1 + a * d.1, q.2 + a * d.2)) := by show _ = _; rw [hq]; exact goalP_eq q a d
  obtain ⟨p1, p2, p3, p4⟩ := hps
  have stay : Hid (∀ n, ¬ E = 0 → stepPost w g gx gy (fwT tr r d a) d (.returned (.bool true)) (W0.drewN n)) := fun n h0 => by
    rw [show fwT tr r d a = tr by unfold fwT; rw [hE, if_neg h0]]
    exact ⟨rfl, Chg.drewN (Quiet.chg (unhide hq0) _) n, G0.quiet ((Chg.refl _ _).drewN n)⟩
  have few24 := hide few
  have G0H := hide G0
  have hpH := hide hp
  have hqH : Hid (tr.getD (tr.length - 1) (0, 0) = q) := hqg
  generalize modP a = rr at *
  have gltH := hide G.lts
  clear hq hp G0 G I hqg
  have hn1' : ¬ a < -2097152 := fun h => hnear (.inl h)
  have hn2' : ¬ 2097152 < a := fun h => hnear (.inr h)
  have hn1 : decide (a < -2097152) = false := by rw [decide_eq_false_iff_not]; exact hn1'
  have hn2 : decide (2097152 < a) = false := by rw [decide_eq_false_iff_not]; exact hn2'
  have hnH := hide (⟨hn1', hn2'⟩ : _ ∧ _)
  have bA : -2097152 ≤ a * d.1 ∧ a * d.1 ≤ 2097152 := by rcases hdd with rfl | rfl | rfl | rfl <;> simp <;> omega
  have bB : -2097152 ≤ a * d.2 ∧ a * d.2 ≤ 2097152 := by rcases hdd with rfl | rfl | rfl | rfl <;> simp <;> omega
  obtain ⟨A, hA⟩ : ∃ A, a * d.1 = A := ⟨_, rfl⟩
  obtain ⟨B, hB⟩ : ∃ B, a * d.2 = B := ⟨_, rfl⟩
  rw [hA] at bA
  rw [hB] at bB
  rw [hA, hB] at eG
  obtain ⟨H1, hG1⟩ : ∃ G, q.1 + A = G := ⟨_, rfl⟩
  obtain ⟨H2, hG2⟩ : ∃ G, q.2 + B = G := ⟨_, rfl⟩
  rw [hG1, hG2] at eG
  have w1 : wrap64 (a * d.1) = A := by rw [hA]; unfold wrap64; omega
  have w2 : wrap64 (a * d.2) = B := by rw [hB]; unfold wrap64; omega
  have w3 : wrap64 (q.1 + A) = H1 := by rw [hG1]; unfold wrap64; omega
  have w4 : wrap64 (q.2 + B) = H2 := by rw [hG2]; unfold wrap64; omega
  have u1 : IntKind.i64.wrap (a * d.1) = A := by rw [IntKind.wrap_i64, hA]; omega
  have u2 : IntKind.i64.wrap (a * d.2) = B := by rw [IntKind.wrap_i64, hB]; omega
  have u3 : IntKind.i64.wrap (q.1 + A) = H1 := by rw [IntKind.wrap_i64, hG1]; omega
  have u4 : IntKind.i64.wrap (q.2 + B) = H2 := by rw [IntKind.wrap_i64, hG2]; omega
  have wH := hide (⟨v5, v6, w1, w2, w3, w4, u1, u2, u3, u4⟩ : _ ∧ _ ∧ _ ∧ _ ∧ _ ∧ _ ∧ _ ∧ _ ∧ _ ∧ _)
  have hwi := fun W => withinK_any W H1 H2
  clear hA hB hG1 hG2 bA bB p1 p2 p3 p4 hdd hnear hn1' hn2' v5 v6 w1 w2 w3 w4 u1 u2 u3 u4 hml
  have hfin : Hid (∀ n, _) := fun n => unhide stay n hno
  clear stay
  have hE2 : E = if inP (H1, H2) = false then 1 else if 24 ≤ tr.length then 2 else 0 := by
    rw [← hE]; unfold fwE; rw [if_neg (by have := unhide hnH; omega), unhide eG]
  clear hE eG
  cases hi : inP (H1, H2) with
  | false =>
    rw [hi, if_pos rfl] at hE2
    rw [hi] at hwi
    subst hE2
    clear hi few one hno
    unfold ptr opv ansv ansC
    go_enter Try.func14, Try.ntmps14
    go_wp2
    clear hm um1 um2 um3
    obtain ⟨v5, v6, w1, w2, w3, w4, u1, u2, u3, u4⟩ := unhide wH
    go_quiet ((go_at_call 37; exact Calls.quiet_of_same (hwi _)))
    clear v5 v6 w1 w2 w3 w4 u1 u2 u3 u4 hn1 hn2
    go_wp2
    go_ret
    exact unhide hfin _
  | true =>
    rw [hi, if_neg (by decide)] at hE2
    rw [hi] at hwi
    by_cases hl : 24 ≤ tr.length
    · rw [if_pos hl] at hE2
      have g24 : (24 : Int) ≤ (tr.length : Int) := by omega
      subst hE2
      clear hi few one hno hl
      unfold ptr opv ansv ansC
      go_enter Try.func14, Try.ntmps14
      go_wp2
      clear hm um1 um2 um3
      obtain ⟨v5, v6, w1, w2, w3, w4, u1, u2, u3, u4⟩ := unhide wH
      go_quiet ((go_at_call 37; exact Calls.quiet_of_same (hwi _)))
      clear v5 v6 w1 w2 w3 w4 u1 u2 u3 u4 hn1 hn2
      go_wp2
      go_ret
      exact unhide hfin _
    · rw [if_neg hl] at hE2
      exact absurd hE2 hno

set_option maxRecDepth 100000 in
set_option maxHeartbeats 8000000 in
theorem step_go (w : World) (x tb mb g gx gy : Nat) (tr : List Pt) (d : Pt) (N M : Int) (R : ByteArray) (a b c : Int) (s t : ByteArray) (G : RepG w g gx gy tr d) (I : Inv tr d) (hnear : ¬ (a < -2097152 ∨ 2097152 < a)) (hok : fwE tr (runOf tr) d a = 0) :
    Calls Try.prog 14 #[ptr x, ptr g, opv 1 a b c s t, ansv (fwE tr (runOf tr) d a) N M R] w (stepPost w g gx gy (fwT tr (runOf tr) d a) d) := by
  obtain ⟨E, hE⟩ : ∃ E, fwE tr (runOf tr) d a = E := ⟨_, rfl⟩
  rw [hE]
  rw [hE] at hok
  have hq0 : Hid (Quiet w ((w.alloc (.cells #[.int .i64 1, .int .i64 a, .int .i64 b, .int .i64 c, .string s, .string t] 39)).alloc (.cells #[.int .i64 E, .int .i64 N, .int .i64 M, .string R] 36))) := Chg.alloc (Chg.alloc (Chg.refl (fun _ => False) w) _) _
  have bo : Hid (Blk ((w.alloc (.cells #[.int .i64 1, .int .i64 a, .int .i64 b, .int .i64 c, .string s, .string t] 39)).alloc (.cells #[.int .i64 E, .int .i64 N, .int .i64 M, .string R] 36)) w.heap.size 39 [.int .i64 1, .int .i64 a, .int .i64 b, .int .i64 c, .string s, .string t]) := (Blk.new w 39 [.int .i64 1, .int .i64 a, .int .i64 b, .int .i64 c, .string s, .string t]).alloc _
  have ba : Hid (Blk ((w.alloc (.cells #[.int .i64 1, .int .i64 a, .int .i64 b, .int .i64 c, .string s, .string t] 39)).alloc (.cells #[.int .i64 E, .int .i64 N, .int .i64 M, .string R] 36)) (w.heap.size + 1) 36 [.int .i64 E, .int .i64 N, .int .i64 M, .string R]) := by
    have h := Blk.new (w.alloc (.cells #[.int .i64 1, .int .i64 a, .int .i64 b, .int .i64 c, .string s, .string t] 39)) 36 [.int .i64 E, .int .i64 N, .int .i64 M, .string R]
    rw [show (w.alloc (.cells #[.int .i64 1, .int .i64 a, .int .i64 b, .int .i64 c, .string s, .string t] 39)).heap.size = w.heap.size + 1 by simp] at h
    exact h
  obtain ⟨W0, hW0⟩ : ∃ W, ((w.alloc (.cells #[.int .i64 1, .int .i64 a, .int .i64 b, .int .i64 c, .string s, .string t] 39)).alloc (.cells #[.int .i64 E, .int .i64 N, .int .i64 M, .string R] 36)) = W := ⟨_, rfl⟩
  rw [hW0] at hq0 bo ba
  have G0 := G.quiet (unhide hq0)
  obtain ⟨hm, hml⟩ := modP_spec a
  have hmb : -4 < a.tmod 4 ∧ a.tmod 4 < 4 := by
    have h1 := Int.lt_tmod_of_pos a (show (0 : Int) < 4 by decide)
    have h2 := Int.tmod_lt_of_pos a (show (0 : Int) < 4 by decide)
    omega
  have um1 : wrap64 (a.tmod 4 + 4) = a.tmod 4 + 4 := by unfold wrap64; omega
  have um2 : wrap64 (a.tmod 4) = a.tmod 4 := by unfold wrap64; omega
  have um3 : wrap64 ((modP a : Nat) : Int) = ((modP a : Nat) : Int) := wrap_small _ (by omega)
  have o0 := (unhide bo).cell 0
  have o1 := (unhide bo).cell 1
  have o2 := (unhide bo).cell 2
  have a0 := (unhide ba).cell 0
  have a1 := (unhide ba).cell 1
  simp at o0 o1 o2 a0 a1
  obtain ⟨g0, g1, g2, g3⟩ := G0.cells
  clear hmb
  have few := G0.few
  have one := I.one
  have hps := I.bd.pos
  have hdd := I.dir
  obtain ⟨r0, r1⟩ := G0.at (tr.length - 1) (by omega)
  rw [← runOf_pos tr one] at r0 r1
  have hqg := getD_get tr (tr.length - 1) (by omega)
  rw [← runOf_pos tr one] at hqg
  obtain ⟨p, hp⟩ : ∃ p, tr.length - 1 = p := ⟨_, rfl⟩
  rw [hp] at r0 r1
  have v5 : wrap64 ((tr.length : Int) - 1) = (p : Int) := by unfold wrap64; omega
  have v6 : IntKind.i64.wrap ((tr.length : Int) - 1) = (p : Int) := by rw [IntKind.wrap_i64]; omega
  have k3 : (0 : Int) ≤ (p : Int) := by omega
  have k4 : (p : Int) < (tr.length : Int) := by omega
  generalize runOf tr = r at *
  have eG := hide (goalP_eq r.pos a d)
  obtain ⟨q, hq⟩ : ∃ q, r.pos = q := ⟨_, rfl⟩
  rw [hq] at r0 r1 hps hqg
  have eG : Hid (goalP r.pos a d = (q.1 + a * d.1, q.2 + a * d.2)) := by show _ = _; rw [hq]; exact goalP_eq q a d
  obtain ⟨p1, p2, p3, p4⟩ := hps
  have stay : Hid (∀ n, ¬ E = 0 → stepPost w g gx gy (fwT tr r d a) d (.returned (.bool true)) (W0.drewN n)) := fun n h0 => by
    rw [show fwT tr r d a = tr by unfold fwT; rw [hE, if_neg h0]]
    exact ⟨rfl, Chg.drewN (Quiet.chg (unhide hq0) _) n, G0.quiet ((Chg.refl _ _).drewN n)⟩
  have few24 := hide few
  have G0H := hide G0
  have hpH := hide hp
  have hqH : Hid (tr.getD (tr.length - 1) (0, 0) = q) := hqg
  generalize modP a = rr at *
  have gltH := hide G.lts
  clear hq hp G0 G I hqg
  have hn1' : ¬ a < -2097152 := fun h => hnear (.inl h)
  have hn2' : ¬ 2097152 < a := fun h => hnear (.inr h)
  have hn1 : decide (a < -2097152) = false := by rw [decide_eq_false_iff_not]; exact hn1'
  have hn2 : decide (2097152 < a) = false := by rw [decide_eq_false_iff_not]; exact hn2'
  have hnH := hide (⟨hn1', hn2'⟩ : _ ∧ _)
  have bA : -2097152 ≤ a * d.1 ∧ a * d.1 ≤ 2097152 := by rcases hdd with rfl | rfl | rfl | rfl <;> simp <;> omega
  have bB : -2097152 ≤ a * d.2 ∧ a * d.2 ≤ 2097152 := by rcases hdd with rfl | rfl | rfl | rfl <;> simp <;> omega
  obtain ⟨A, hA⟩ : ∃ A, a * d.1 = A := ⟨_, rfl⟩
  obtain ⟨B, hB⟩ : ∃ B, a * d.2 = B := ⟨_, rfl⟩
  rw [hA] at bA
  rw [hB] at bB
  rw [hA, hB] at eG
  obtain ⟨H1, hG1⟩ : ∃ G, q.1 + A = G := ⟨_, rfl⟩
  obtain ⟨H2, hG2⟩ : ∃ G, q.2 + B = G := ⟨_, rfl⟩
  rw [hG1, hG2] at eG
  have w1 : wrap64 (a * d.1) = A := by rw [hA]; unfold wrap64; omega
  have w2 : wrap64 (a * d.2) = B := by rw [hB]; unfold wrap64; omega
  have w3 : wrap64 (q.1 + A) = H1 := by rw [hG1]; unfold wrap64; omega
  have w4 : wrap64 (q.2 + B) = H2 := by rw [hG2]; unfold wrap64; omega
  have u1 : IntKind.i64.wrap (a * d.1) = A := by rw [IntKind.wrap_i64, hA]; omega
  have u2 : IntKind.i64.wrap (a * d.2) = B := by rw [IntKind.wrap_i64, hB]; omega
  have u3 : IntKind.i64.wrap (q.1 + A) = H1 := by rw [IntKind.wrap_i64, hG1]; omega
  have u4 : IntKind.i64.wrap (q.2 + B) = H2 := by rw [IntKind.wrap_i64, hG2]; omega
  have wH := hide (⟨v5, v6, w1, w2, w3, w4, u1, u2, u3, u4⟩ : _ ∧ _ ∧ _ ∧ _ ∧ _ ∧ _ ∧ _ ∧ _ ∧ _ ∧ _)
  have hwi := fun W => withinK_any W H1 H2
  clear hA hB hG1 hG2 bA bB p1 p2 p3 p4 hdd hnear hn1' hn2' v5 v6 w1 w2 w3 w4 u1 u2 u3 u4 hml
  have hE2 : E = if inP (H1, H2) = false then 1 else if 24 ≤ tr.length then 2 else 0 := by
    rw [← hE]; unfold fwE; rw [if_neg (by have := unhide hnH; omega), unhide eG]
  have eT : fwT tr r d a = tr ++ [(H1, H2)] := by unfold fwT; rw [hE, if_pos hok, unhide eG]
  rw [eT]
  clear eT eG stay hE
  rw [hok] at hE2
  subst hok
  have hi : inP (H1, H2) = true := by
    cases h : inP (H1, H2) with
    | true => rfl
    | false => rw [h, if_pos rfl] at hE2; cases hE2
  rw [hi, if_neg (by decide)] at hE2
  rw [hi] at hwi
  have hl : ¬ 24 ≤ tr.length := fun h => by rw [if_pos h] at hE2; cases hE2
  have g24 : ¬ (24 : Int) ≤ (tr.length : Int) := by omega
  have room : tr.length + 1 ≤ 24 := by omega
  have roomH := hide room
  clear hi hE2 hl few one
  unfold ptr opv ansv ansC
  go_enter Try.func14, Try.ntmps14
  go_wp2
  clear hm um1 um2 um3
  obtain ⟨v5, v6, w1, w2, w3, w4, u1, u2, u3, u4⟩ := unhide wH
  go_quiet ((go_at_call 37; exact Calls.quiet_of_same (hwi _)))
  clear v5 v6 w1 w2 w3 w4 u1 u2 u3 u4 hwi hn1 hn2 hnH
  have Q1 : Hid (Quiet w (W0.drewN nq)) := Chg.drewN (unhide hq0) nq
  have G1H : Hid (RepG (W0.drewN nq) g gx gy tr d) := (unhide G0H).quiet ((Chg.refl _ _).drewN nq)
  have bo1 : Hid (Blk (W0.drewN nq) w.heap.size 39 [.int .i64 1, .int .i64 a, .int .i64 b, .int .i64 c, .string s, .string t]) := (unhide bo).drewN nq
  have ba1 : Hid (Blk (W0.drewN nq) (w.heap.size + 1) 36 [.int .i64 0, .int .i64 N, .int .i64 M, .string R]) := (unhide ba).drewN nq
  clear bo ba G0H hq0 o0 o1 o2 a0 a1 g0 g1 g2 g3 r0 r1 room
  have room1 := unhide roomH
  obtain ⟨r0, r1⟩ := (unhide G1H).at p (by have := unhide hpH; omega)
  obtain ⟨cs, Bx, hcx, hrx⟩ := (unhide G1H).xs
  obtain ⟨ds, By, hcy, hry⟩ := (unhide G1H).ys
  have Bg := (unhide G1H).own
  have nx := (unhide G1H).nx
  have ny := (unhide G1H).ny
  have xy := (unhide G1H).xy
  have lg := unhide gltH g (.inl rfl)
  have lx := unhide gltH gx (.inr (.inl rfl))
  have ly := unhide gltH gy (.inr (.inr rfl))
  have hqv : (tr.getD p (0, 0)) = q := by rw [← unhide hpH]; exact unhide hqH
  have hpt : p < tr.length := by have := unhide hpH; omega
  rw [← getD_get tr p hpt, hqv] at r0 r1
  clear hqv hpt G1H
  obtain ⟨i0, hi0, hz0, hz1, hz2⟩ := info_parts info3
  generalize W0.drewN nq = V at *
  clear hW0 few24 hqH
  have o1 := (unhide bo1).cell 1
  simp at o1
  have g0 := Bg.cell 0
  have g2 := Bg.cell 2
  simp at g0 g2
  have Bx1 := Bx.alloc (.cells #[.int .i64 H1] 3)
  have Bg1 := Bg.alloc (.cells #[.int .i64 H1] 3)
  have e0 := Bx1.cell tr.length
  have fe0 := Bx1.frozen tr.length
  obtain ⟨u0, hu0⟩ : ∃ u, cs[tr.length]? = some u := ⟨_, List.getElem?_eq_getElem (by omega)⟩
  rw [hu0] at e0
  have z0a := Bg1.cell 0
  have z1a := Bg1.frozen 0
  simp at z0a
  have nx' := Ne.symm nx
  have BG2 : Hid (Blk (((V.alloc (.cells #[.int .i64 H1] 3)).setCell ⟨gx, tr.length, none⟩ (.int .i64 H1)).setCell ⟨g, 0, none⟩ (.slice (some ⟨gx, 0, none⟩) (tr.length + 1) 24)).drew g 32 [(.slice (some ⟨gx, 0, none⟩) (tr.length + 1) 24), .slice (some ⟨gy, 0, none⟩) tr.length 24, .int .i64 d.1, .int .i64 d.2]) := ((Bg1.set_other (a := ⟨gx, tr.length, none⟩) nx _).set 0 _).drew
  have BX2 : Hid (Blk (((V.alloc (.cells #[.int .i64 H1] 3)).setCell ⟨gx, tr.length, none⟩ (.int .i64 H1)).setCell ⟨g, 0, none⟩ (.slice (some ⟨gx, 0, none⟩) (tr.length + 1) 24)).drew gx 3 (cs.set tr.length (.int .i64 H1))) := ((Bx1.set tr.length _).set_other (a := ⟨g, 0, none⟩) nx' _).drew
  have BY2 : Hid (Blk (((V.alloc (.cells #[.int .i64 H1] 3)).setCell ⟨gx, tr.length, none⟩ (.int .i64 H1)).setCell ⟨g, 0, none⟩ (.slice (some ⟨gx, 0, none⟩) (tr.length + 1) 24)).drew gy 3 ds) := (((By.alloc (.cells #[.int .i64 H1] 3)).set_other (a := ⟨gx, tr.length, none⟩) (Ne.symm xy) _).set_other (a := ⟨g, 0, none⟩) (Ne.symm ny) _).drew
  have bo2 : Hid (Blk (((V.alloc (.cells #[.int .i64 H1] 3)).setCell ⟨gx, tr.length, none⟩ (.int .i64 H1)).setCell ⟨g, 0, none⟩ (.slice (some ⟨gx, 0, none⟩) (tr.length + 1) 24)).drew w.heap.size 39 [.int .i64 1, .int .i64 a, .int .i64 b, .int .i64 c, .string s, .string t]) := ((((unhide bo1).alloc (.cells #[.int .i64 H1] 3)).set_other (a := ⟨gx, tr.length, none⟩) (show w.heap.size ≠ gx by omega) _).set_other (a := ⟨g, 0, none⟩) (show w.heap.size ≠ g by omega) _).drew
  have ba2 : Hid (Blk (((V.alloc (.cells #[.int .i64 H1] 3)).setCell ⟨gx, tr.length, none⟩ (.int .i64 H1)).setCell ⟨g, 0, none⟩ (.slice (some ⟨gx, 0, none⟩) (tr.length + 1) 24)).drew (w.heap.size + 1) 36 [.int .i64 0, .int .i64 N, .int .i64 M, .string R]) := ((((unhide ba1).alloc (.cells #[.int .i64 H1] 3)).set_other (a := ⟨gx, tr.length, none⟩) (show w.heap.size + 1 ≠ gx by omega) _).set_other (a := ⟨g, 0, none⟩) (show w.heap.size + 1 ≠ g by omega) _).drew
  have C2 : Hid (Chg (ownG g gx gy) w (((V.alloc (.cells #[.int .i64 H1] 3)).setCell ⟨gx, tr.length, none⟩ (.int .i64 H1)).setCell ⟨g, 0, none⟩ (.slice (some ⟨gx, 0, none⟩) (tr.length + 1) 24)).drew) := (((Chg.alloc (Quiet.chg (unhide Q1) (ownG g gx gy)) _).setCell (p := ⟨gx, tr.length, none⟩) (.inl (.inr (.inl rfl))) _).setCell (p := ⟨g, 0, none⟩) (.inl (.inl rfl)) _).drew
  have yH := hide (⟨hcy, hry, hcx, hrx⟩ : _ ∧ _ ∧ _ ∧ _)
  have r1H : Hid (ds[p]? = some (.int .i64 q.2)) := (By.cell p).symm.trans r1
  clear Bx By Bg hcx hrx hcy hry Bx1 Bg1 hu0 bo1 ba1 Q1 r1
  have MID : Hid (MidG w g gx gy tr d cs ds H1 a b c s t N M R ((((V.alloc (.cells #[.int .i64 H1] 3)).setCell ⟨gx, tr.length, none⟩ (.int .i64 H1)).setCell ⟨g, 0, none⟩ (.slice (some ⟨gx, 0, none⟩) (tr.length + 1) 24)).drew)) := ⟨unhide C2, unhide BG2, unhide BX2, unhide BY2, unhide bo2, unhide ba2⟩
  clear C2 BG2 BX2 BY2 bo2 ba2
  go_wp2
  go_cut [] (fun wx => MidG w g gx gy tr d cs ds H1 a b c s t N M R wx)
  case first =>
    have w1 := (unhide wH).2.2.1
    have w3 := (unhide wH).2.2.2.2.1
    have u1 := (unhide wH).2.2.2.2.2.2.1
    have u3 := (unhide wH).2.2.2.2.2.2.2.2.1
    have v5 := (unhide wH).1
    have v6 := (unhide wH).2.1
    go_region
    go_wp2
    go_meet
    case rel => exact unhide MID
  case rest =>
    clear MID e0 fe0 z0a z1a g0 g2 r0 o1
    obtain ⟨C2', BG2', BX2', BY2', bo2', ba2'⟩ := hcut
    have C2 := hide C2'
    have BG2 := hide BG2'
    have BX2 := hide BX2'
    have BY2 := hide BY2'
    have bo2 := hide bo2'
    have ba2 := hide ba2'
    clear C2' BG2' BX2' BY2' bo2' ba2'
    generalize wc = W1 at *
    have g1 := (unhide BG2).cell 1
    have g3 := (unhide BG2).cell 3
    simp at g1 g3
    have o1 := (unhide bo2).cell 1
    simp at o1
    have r1 := ((unhide BY2).cell p).trans (unhide r1H)
    obtain ⟨hcy, hry, hcx, hrx⟩ := unhide yH
    have By1 := (unhide BY2).alloc (.cells #[.int .i64 H2] 3)
    have Bg1 := (unhide BG2).alloc (.cells #[.int .i64 H2] 3)
    have e0 := By1.cell tr.length
    have fe0 := By1.frozen tr.length
    obtain ⟨u1, hu1⟩ : ∃ u, ds[tr.length]? = some u := ⟨_, List.getElem?_eq_getElem (by omega)⟩
    rw [hu1] at e0
    have z0a := Bg1.cell 1
    have z1a := Bg1.frozen 1
    simp at z0a
    have ny' := Ne.symm ny
    have ba3 : Hid (((((W1.alloc (.cells #[.int .i64 H2] 3)).setCell ⟨gy, tr.length, none⟩ (.int .i64 H2)).setCell ⟨g, 1, none⟩ (.slice (some ⟨gy, 0, none⟩) (tr.length + 1) 24)).drew).cell? ⟨w.heap.size + 1, 0, none⟩ = some (.int .i64 0)) := (((((unhide ba2).alloc (.cells #[.int .i64 H2] 3)).set_other (a := ⟨gy, tr.length, none⟩) (show w.heap.size + 1 ≠ gy by omega) _).set_other (a := ⟨g, 1, none⟩) (show w.heap.size + 1 ≠ g by omega) _).drew).cell 0
    have FIN : Hid (stepPost w g gx gy (tr ++ [(H1, H2)]) d (.returned (.bool true)) (((W1.alloc (.cells #[.int .i64 H2] 3)).setCell ⟨gy, tr.length, none⟩ (.int .i64 H2)).setCell ⟨g, 1, none⟩ (.slice (some ⟨gy, 0, none⟩) (tr.length + 1) 24)).drew) := by
      refine ⟨rfl, ?_, ?_, ⟨cs.set tr.length (.int .i64 H1), ?_, by simpa using hcx, ?_⟩, ⟨ds.set tr.length (.int .i64 H2), ?_, by simpa using hcy, ?_⟩, by simp; omega, nx, ny, xy⟩
      · exact (((Chg.alloc (unhide C2) _).setCell (p := ⟨gy, tr.length, none⟩) (.inl (.inr (.inr rfl))) _).setCell (p := ⟨g, 1, none⟩) (.inl (.inl rfl)) _).drew
      · have h := ((Bg1.set_other (a := ⟨gy, tr.length, none⟩) ny (.int .i64 H2)).set 1 (.slice (some ⟨gy, 0, none⟩) (tr.length + 1) 24)).drew
        simpa using h
      · exact ((((unhide BX2).alloc (.cells #[.int .i64 H2] 3)).set_other (a := ⟨gy, tr.length, none⟩) xy _).set_other (a := ⟨g, 1, none⟩) (Ne.symm nx) _).drew
      · intro i hi
        by_cases hlt : i < tr.length
        · rw [List.getElem?_set_ne (by omega), List.getElem_append_left hlt]; exact hrx i hlt
        · have e : i = tr.length := by simp at hi; omega
          subst e
          rw [List.getElem?_set_self (by omega), List.getElem_append_right (Nat.le_refl _)]; simp
      · exact ((By1.set tr.length _).set_other (a := ⟨g, 1, none⟩) (Ne.symm ny) _).drew
      · intro i hi
        by_cases hlt : i < tr.length
        · rw [List.getElem?_set_ne (by omega), List.getElem_append_left hlt]; exact hry i hlt
        · have e : i = tr.length := by simp at hi; omega
          subst e
          rw [List.getElem?_set_self (by omega), List.getElem_append_right (Nat.le_refl _)]; simp
    clear BG2 BX2 BY2 bo2 ba2 C2 By1 Bg1 hu1 hcy hry hcx hrx yH r1H
    go_wp2
    have w1 := (unhide wH).2.2.2.1
    have w3 := (unhide wH).2.2.2.2.2.1
    have u1' := (unhide wH).2.2.2.2.2.2.2.1
    have u3 := (unhide wH).2.2.2.2.2.2.2.2.2
    have v5 := (unhide wH).1
    have v6 := (unhide wH).2.1
    go_region
    clear e0 fe0 z0a z1a g1 g3 r1 o1 w1 w3 u1' u3 v5 v6
    have ba4 := unhide ba3
    clear ba3
    generalize (((W1.alloc (.cells #[.int .i64 H2] 3)).setCell ⟨gy, tr.length, none⟩ (.int .i64 H2)).setCell ⟨g, 1, none⟩ (.slice (some ⟨gy, 0, none⟩) (tr.length + 1) 24)).drew = W2 at *
    go_wp2
    go_ret
    exact unhide FIN
end Go.Proofs.Qxb6500366a
