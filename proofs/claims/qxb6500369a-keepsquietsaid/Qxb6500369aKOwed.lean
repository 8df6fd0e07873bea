/-
  369 Keeps: Owed. (gen9owed.py)
-/
import Derived.Test.Qxb6500369aKLaw
import Derived.BigQuiet
namespace Go.Proofs.Qxb6500369a
open Go.RowKit Go.Qx
set_option linter.unusedSimpArgs false
set_option linter.unusedVariables false

/-- What Owed reads: the step in its box B, the ghost's ids and mode. -/
structure OwR (W : World) (B g : Nat) (k a b c : Int) (s t : ByteArray) (ai : Option Addr) (n ci : Nat) (mode : Int) (ids : List Int) : Prop where
  op : Blk W B 40 [.int .i64 k, .int .i64 a, .int .i64 b, .int .i64 c, .string s, .string t]
  c0 : W.cell? ⟨g, 0, none⟩ = some (.slice ai n ci)
  c7 : W.cell? ⟨g, 7, none⟩ = some (.int .i64 mode)
  ri : Row W 3 1 (.slice ai n ci) n (ids.map (Value.int .i64))
theorem OwR.quiet {W W' : World} {B g : Nat} {k a b c : Int} {s t : ByteArray} {ai : Option Addr} {n ci : Nat} {mode : Int} {ids : List Int} (h : OwR W B g k a b c s t ai n ci mode ids) (q : Quiet W W') : OwR W' B g k a b c s t ai n ci mode ids :=
  ⟨q.blk h.op, q.cell h.c0, q.cell h.c7, h.ri.quiet q⟩

set_option maxHeartbeats 8000000 in
set_option maxRecDepth 100000 in
theorem owed_reset (w : World) (g : Nat) (vi vw : Value) (G : Gh) (H : GhR w g vi vw G) (a b c : Int) (s t : ByteArray)  :
    Calls Try.prog 22 #[ptr g, .agg #[.int .i64 3, .int .i64 a, .int .i64 b, .int .i64 c, .string s, .string t]] w fun e w' => e = .returned (.int .i64 0) ∧ Quiet w w' := by
  obtain ⟨ai, ci, rfl⟩ := H.ri.shape
  obtain ⟨W0, hW⟩ : ∃ W0, w.alloc (.cells #[.int .i64 3, .int .i64 a, .int .i64 b, .int .i64 c, .string s, .string t] 40) = W0 := ⟨_, rfl⟩
  have q0 : Quiet w W0 := by rw [← hW]; exact (Chg.refl _ _).alloc _
  have bo : Blk W0 w.heap.size 40 [.int .i64 3, .int .i64 a, .int .i64 b, .int .i64 c, .string s, .string t] := by rw [← hW]; exact Blk.new w 40 _
  obtain ⟨B, hB⟩ : ∃ B, w.heap.size = B := ⟨_, rfl⟩
  rw [hB] at bo
  have F0 : Hid (OwR W0 B g 3 a b c s t ai G.ids.length ci G.mode G.ids) := ⟨bo, q0.cell (H.blk.cell 0), q0.cell (H.blk.cell 7), H.ri.quiet q0⟩
  have Q0 := hide q0
  have hids : Hid True := trivial
  generalize G.ids = ids at *
  generalize G.mode = mode at *
  clear q0 bo H
  generalize hN : ids.length = n at *
  have hNH := hide hN
  clear hN
  unfold ptr
  have o0 := (unhide F0).op.cell 0
  have o1 := (unhide F0).op.cell 1
  have o2 := (unhide F0).op.cell 2
  have c0 := (unhide F0).c0
  have c7 := (unhide F0).c7
  simp at o0 o1 o2
  go_enter Try.func22, Try.ntmps22
  go_wp2
  clear hW hB
  go_big_quiet (fail)
  have qd : Quiet W0 (W0.drewN nq) := (Chg.refl _ _).drewN nq
  have F1 := hide ((unhide F0).quiet qd)
  have Q1 := hide (Quiet.trans (unhide Q0) qd)
  clear o0 o1 o2 c0 c7 F0 Q0
  generalize W0.drewN nq = W1 at *
  clear qd nq
  have o0 := (unhide F1).op.cell 0
  have o1 := (unhide F1).op.cell 1
  have o2 := (unhide F1).op.cell 2
  have c0 := (unhide F1).c0
  have c7 := (unhide F1).c7
  simp at o0 o1 o2
  go_wp2
  go_big_quiet (fail)
  have qd : Quiet W1 (W1.drewN nq) := (Chg.refl _ _).drewN nq
  have F2 := hide ((unhide F1).quiet qd)
  have Q2 := hide (Quiet.trans (unhide Q1) qd)
  clear o0 o1 o2 c0 c7 F1 Q1
  generalize W1.drewN nq = W2 at *
  clear qd nq
  have o0 := (unhide F2).op.cell 0
  have o1 := (unhide F2).op.cell 1
  have o2 := (unhide F2).op.cell 2
  have c0 := (unhide F2).c0
  have c7 := (unhide F2).c7
  simp at o0 o1 o2
  go_wp2
  go_big_quiet (fail)
  have qd : Quiet W2 (W2.drewN nq) := (Chg.refl _ _).drewN nq
  have F3 := hide ((unhide F2).quiet qd)
  have Q3 := hide (Quiet.trans (unhide Q2) qd)
  clear o0 o1 o2 c0 c7 F2 Q2
  generalize W2.drewN nq = W3 at *
  clear qd nq
  have o0 := (unhide F3).op.cell 0
  have o1 := (unhide F3).op.cell 1
  have o2 := (unhide F3).op.cell 2
  have c0 := (unhide F3).c0
  have c7 := (unhide F3).c7
  simp at o0 o1 o2
  go_wp2
  go_loopw [5] (fun i wr => i = .int .i64 0 ∧ wr = W3) (fun _ _ => 0)
  case atStart => exact ⟨rfl, rfl⟩
  case round =>
    obtain ⟨rfl, rfl⟩ := hrel
    go_wp2
    go_ret
    exact ⟨rfl, unhide Q3⟩

set_option maxHeartbeats 8000000 in
set_option maxRecDepth 100000 in
theorem owed_state1 (w : World) (g : Nat) (vi vw : Value) (G : Gh) (H : GhR w g vi vw G) (a b c : Int) (s t : ByteArray) (hm : G.mode ≠ -1) :
    Calls Try.prog 22 #[ptr g, .agg #[.int .i64 1, .int .i64 a, .int .i64 b, .int .i64 c, .string s, .string t]] w fun e w' => e = .returned (.int .i64 1) ∧ Quiet w w' := by
  obtain ⟨ai, ci, rfl⟩ := H.ri.shape
  obtain ⟨W0, hW⟩ : ∃ W0, w.alloc (.cells #[.int .i64 1, .int .i64 a, .int .i64 b, .int .i64 c, .string s, .string t] 40) = W0 := ⟨_, rfl⟩
  have q0 : Quiet w W0 := by rw [← hW]; exact (Chg.refl _ _).alloc _
  have bo : Blk W0 w.heap.size 40 [.int .i64 1, .int .i64 a, .int .i64 b, .int .i64 c, .string s, .string t] := by rw [← hW]; exact Blk.new w 40 _
  obtain ⟨B, hB⟩ : ∃ B, w.heap.size = B := ⟨_, rfl⟩
  rw [hB] at bo
  have F0 : Hid (OwR W0 B g 1 a b c s t ai G.ids.length ci G.mode G.ids) := ⟨bo, q0.cell (H.blk.cell 0), q0.cell (H.blk.cell 7), H.ri.quiet q0⟩
  have Q0 := hide q0
  have hids : Hid True := trivial
  generalize G.ids = ids at *
  generalize G.mode = mode at *
  clear q0 bo H
  generalize hN : ids.length = n at *
  have hNH := hide hN
  clear hN
  unfold ptr
  have m1 : (mode == -1) = false := by simpa using hm
  clear hm
  have o0 := (unhide F0).op.cell 0
  have o1 := (unhide F0).op.cell 1
  have o2 := (unhide F0).op.cell 2
  have c0 := (unhide F0).c0
  have c7 := (unhide F0).c7
  simp at o0 o1 o2
  go_enter Try.func22, Try.ntmps22
  go_wp2
  clear hW hB
  go_big_quiet (fail)
  have qd : Quiet W0 (W0.drewN nq) := (Chg.refl _ _).drewN nq
  have F1 := hide ((unhide F0).quiet qd)
  have Q1 := hide (Quiet.trans (unhide Q0) qd)
  clear o0 o1 o2 c0 c7 F0 Q0
  generalize W0.drewN nq = W1 at *
  clear qd nq
  have o0 := (unhide F1).op.cell 0
  have o1 := (unhide F1).op.cell 1
  have o2 := (unhide F1).op.cell 2
  have c0 := (unhide F1).c0
  have c7 := (unhide F1).c7
  simp at o0 o1 o2
  go_wp2
  go_ret
  exact ⟨rfl, unhide Q1⟩

set_option maxHeartbeats 8000000 in
set_option maxRecDepth 100000 in
theorem owed_state2 (w : World) (g : Nat) (vi vw : Value) (G : Gh) (H : GhR w g vi vw G) (a b c : Int) (s t : ByteArray) (hm : G.mode ≠ -1) :
    Calls Try.prog 22 #[ptr g, .agg #[.int .i64 2, .int .i64 a, .int .i64 b, .int .i64 c, .string s, .string t]] w fun e w' => e = .returned (.int .i64 1) ∧ Quiet w w' := by
  obtain ⟨ai, ci, rfl⟩ := H.ri.shape
  obtain ⟨W0, hW⟩ : ∃ W0, w.alloc (.cells #[.int .i64 2, .int .i64 a, .int .i64 b, .int .i64 c, .string s, .string t] 40) = W0 := ⟨_, rfl⟩
  have q0 : Quiet w W0 := by rw [← hW]; exact (Chg.refl _ _).alloc _
  have bo : Blk W0 w.heap.size 40 [.int .i64 2, .int .i64 a, .int .i64 b, .int .i64 c, .string s, .string t] := by rw [← hW]; exact Blk.new w 40 _
  obtain ⟨B, hB⟩ : ∃ B, w.heap.size = B := ⟨_, rfl⟩
  rw [hB] at bo
  have F0 : Hid (OwR W0 B g 2 a b c s t ai G.ids.length ci G.mode G.ids) := ⟨bo, q0.cell (H.blk.cell 0), q0.cell (H.blk.cell 7), H.ri.quiet q0⟩
  have Q0 := hide q0
  have hids : Hid True := trivial
  generalize G.ids = ids at *
  generalize G.mode = mode at *
  clear q0 bo H
  generalize hN : ids.length = n at *
  have hNH := hide hN
  clear hN
  unfold ptr
  have m1 : (mode == -1) = false := by simpa using hm
  clear hm
  have o0 := (unhide F0).op.cell 0
  have o1 := (unhide F0).op.cell 1
  have o2 := (unhide F0).op.cell 2
  have c0 := (unhide F0).c0
  have c7 := (unhide F0).c7
  simp at o0 o1 o2
  go_enter Try.func22, Try.ntmps22
  go_wp2
  clear hW hB
  go_big_quiet (fail)
  have qd : Quiet W0 (W0.drewN nq) := (Chg.refl _ _).drewN nq
  have F1 := hide ((unhide F0).quiet qd)
  have Q1 := hide (Quiet.trans (unhide Q0) qd)
  clear o0 o1 o2 c0 c7 F0 Q0
  generalize W0.drewN nq = W1 at *
  clear qd nq
  have o0 := (unhide F1).op.cell 0
  have o1 := (unhide F1).op.cell 1
  have o2 := (unhide F1).op.cell 2
  have c0 := (unhide F1).c0
  have c7 := (unhide F1).c7
  simp at o0 o1 o2
  go_wp2
  go_ret
  exact ⟨rfl, unhide Q1⟩

set_option maxHeartbeats 8000000 in
set_option maxRecDepth 100000 in
theorem owed_state4 (w : World) (g : Nat) (vi vw : Value) (G : Gh) (H : GhR w g vi vw G) (a b c : Int) (s t : ByteArray) (hm : G.mode = -1) :
    Calls Try.prog 22 #[ptr g, .agg #[.int .i64 4, .int .i64 a, .int .i64 b, .int .i64 c, .string s, .string t]] w fun e w' => e = .returned (.int .i64 1) ∧ Quiet w w' := by
  obtain ⟨ai, ci, rfl⟩ := H.ri.shape
  obtain ⟨W0, hW⟩ : ∃ W0, w.alloc (.cells #[.int .i64 4, .int .i64 a, .int .i64 b, .int .i64 c, .string s, .string t] 40) = W0 := ⟨_, rfl⟩
  have q0 : Quiet w W0 := by rw [← hW]; exact (Chg.refl _ _).alloc _
  have bo : Blk W0 w.heap.size 40 [.int .i64 4, .int .i64 a, .int .i64 b, .int .i64 c, .string s, .string t] := by rw [← hW]; exact Blk.new w 40 _
  obtain ⟨B, hB⟩ : ∃ B, w.heap.size = B := ⟨_, rfl⟩
  rw [hB] at bo
  have F0 : Hid (OwR W0 B g 4 a b c s t ai G.ids.length ci G.mode G.ids) := ⟨bo, q0.cell (H.blk.cell 0), q0.cell (H.blk.cell 7), H.ri.quiet q0⟩
  have Q0 := hide q0
  have hids : Hid True := trivial
  generalize G.ids = ids at *
  generalize G.mode = mode at *
  clear q0 bo H
  generalize hN : ids.length = n at *
  have hNH := hide hN
  clear hN
  unfold ptr
  subst hm
  have o0 := (unhide F0).op.cell 0
  have o1 := (unhide F0).op.cell 1
  have o2 := (unhide F0).op.cell 2
  have c0 := (unhide F0).c0
  have c7 := (unhide F0).c7
  simp at o0 o1 o2
  go_enter Try.func22, Try.ntmps22
  go_wp2
  clear hW hB
  go_big_quiet (fail)
  have qd : Quiet W0 (W0.drewN nq) := (Chg.refl _ _).drewN nq
  have F1 := hide ((unhide F0).quiet qd)
  have Q1 := hide (Quiet.trans (unhide Q0) qd)
  clear o0 o1 o2 c0 c7 F0 Q0
  generalize W0.drewN nq = W1 at *
  clear qd nq
  have o0 := (unhide F1).op.cell 0
  have o1 := (unhide F1).op.cell 1
  have o2 := (unhide F1).op.cell 2
  have c0 := (unhide F1).c0
  have c7 := (unhide F1).c7
  simp at o0 o1 o2
  go_wp2
  go_ret
  exact ⟨rfl, unhide Q1⟩

set_option maxHeartbeats 8000000 in
set_option maxRecDepth 100000 in
theorem owed_mode (w : World) (g : Nat) (vi vw : Value) (G : Gh) (H : GhR w g vi vw G) (a b c : Int) (s t : ByteArray) (hm : G.mode = -1) (ha0 : a ≠ 0) (ha1 : a ≠ 1) :
    Calls Try.prog 22 #[ptr g, .agg #[.int .i64 2, .int .i64 a, .int .i64 b, .int .i64 c, .string s, .string t]] w fun e w' => e = .returned (.int .i64 4) ∧ Quiet w w' := by
  obtain ⟨ai, ci, rfl⟩ := H.ri.shape
  obtain ⟨W0, hW⟩ : ∃ W0, w.alloc (.cells #[.int .i64 2, .int .i64 a, .int .i64 b, .int .i64 c, .string s, .string t] 40) = W0 := ⟨_, rfl⟩
  have q0 : Quiet w W0 := by rw [← hW]; exact (Chg.refl _ _).alloc _
  have bo : Blk W0 w.heap.size 40 [.int .i64 2, .int .i64 a, .int .i64 b, .int .i64 c, .string s, .string t] := by rw [← hW]; exact Blk.new w 40 _
  obtain ⟨B, hB⟩ : ∃ B, w.heap.size = B := ⟨_, rfl⟩
  rw [hB] at bo
  have F0 : Hid (OwR W0 B g 2 a b c s t ai G.ids.length ci G.mode G.ids) := ⟨bo, q0.cell (H.blk.cell 0), q0.cell (H.blk.cell 7), H.ri.quiet q0⟩
  have Q0 := hide q0
  have hids : Hid True := trivial
  generalize G.ids = ids at *
  generalize G.mode = mode at *
  clear q0 bo H
  generalize hN : ids.length = n at *
  have hNH := hide hN
  clear hN
  unfold ptr
  subst hm
  have a0 : (a == 0) = false := by simpa using ha0
  have a1 : (a == 1) = false := by simpa using ha1
  have a2 : (a != 0) = true := by rw [bne, a0]; rfl
  have a3 : (a != 1) = true := by rw [bne, a1]; rfl
  clear ha0 ha1
  have o0 := (unhide F0).op.cell 0
  have o1 := (unhide F0).op.cell 1
  have o2 := (unhide F0).op.cell 2
  have c0 := (unhide F0).c0
  have c7 := (unhide F0).c7
  simp at o0 o1 o2
  go_enter Try.func22, Try.ntmps22
  go_wp2
  clear hW hB
  go_big_quiet (fail)
  have qd : Quiet W0 (W0.drewN nq) := (Chg.refl _ _).drewN nq
  have F1 := hide ((unhide F0).quiet qd)
  have Q1 := hide (Quiet.trans (unhide Q0) qd)
  clear o0 o1 o2 c0 c7 F0 Q0
  generalize W0.drewN nq = W1 at *
  clear qd nq
  have o0 := (unhide F1).op.cell 0
  have o1 := (unhide F1).op.cell 1
  have o2 := (unhide F1).op.cell 2
  have c0 := (unhide F1).c0
  have c7 := (unhide F1).c7
  simp at o0 o1 o2
  go_wp2
  go_big_quiet (fail)
  have qd : Quiet W1 (W1.drewN nq) := (Chg.refl _ _).drewN nq
  have F2 := hide ((unhide F1).quiet qd)
  have Q2 := hide (Quiet.trans (unhide Q1) qd)
  clear o0 o1 o2 c0 c7 F1 Q1
  generalize W1.drewN nq = W2 at *
  clear qd nq
  have o0 := (unhide F2).op.cell 0
  have o1 := (unhide F2).op.cell 1
  have o2 := (unhide F2).op.cell 2
  have c0 := (unhide F2).c0
  have c7 := (unhide F2).c7
  simp at o0 o1 o2
  go_wp2
  go_big_quiet (fail)
  have qd : Quiet W2 (W2.drewN nq) := (Chg.refl _ _).drewN nq
  have F3 := hide ((unhide F2).quiet qd)
  have Q3 := hide (Quiet.trans (unhide Q2) qd)
  clear o0 o1 o2 c0 c7 F2 Q2
  generalize W2.drewN nq = W3 at *
  clear qd nq
  have o0 := (unhide F3).op.cell 0
  have o1 := (unhide F3).op.cell 1
  have o2 := (unhide F3).op.cell 2
  have c0 := (unhide F3).c0
  have c7 := (unhide F3).c7
  simp at o0 o1 o2
  go_wp2
  go_ret
  exact ⟨rfl, unhide Q3⟩

set_option maxHeartbeats 8000000 in
set_option maxRecDepth 100000 in
theorem owed_start0 (w : World) (g : Nat) (vi vw : Value) (G : Gh) (H : GhR w g vi vw G) (a b c : Int) (s t : ByteArray) (hm : G.mode = -1) (ha : a = 0) :
    Calls Try.prog 22 #[ptr g, .agg #[.int .i64 2, .int .i64 a, .int .i64 b, .int .i64 c, .string s, .string t]] w fun e w' => e = .returned (.int .i64 0) ∧ Quiet w w' := by
  obtain ⟨ai, ci, rfl⟩ := H.ri.shape
  obtain ⟨W0, hW⟩ : ∃ W0, w.alloc (.cells #[.int .i64 2, .int .i64 a, .int .i64 b, .int .i64 c, .string s, .string t] 40) = W0 := ⟨_, rfl⟩
  have q0 : Quiet w W0 := by rw [← hW]; exact (Chg.refl _ _).alloc _
  have bo : Blk W0 w.heap.size 40 [.int .i64 2, .int .i64 a, .int .i64 b, .int .i64 c, .string s, .string t] := by rw [← hW]; exact Blk.new w 40 _
  obtain ⟨B, hB⟩ : ∃ B, w.heap.size = B := ⟨_, rfl⟩
  rw [hB] at bo
  have F0 : Hid (OwR W0 B g 2 a b c s t ai G.ids.length ci G.mode G.ids) := ⟨bo, q0.cell (H.blk.cell 0), q0.cell (H.blk.cell 7), H.ri.quiet q0⟩
  have Q0 := hide q0
  have hids : Hid True := trivial
  generalize G.ids = ids at *
  generalize G.mode = mode at *
  clear q0 bo H
  generalize hN : ids.length = n at *
  have hNH := hide hN
  clear hN
  unfold ptr
  subst hm
  subst ha
  have o0 := (unhide F0).op.cell 0
  have o1 := (unhide F0).op.cell 1
  have o2 := (unhide F0).op.cell 2
  have c0 := (unhide F0).c0
  have c7 := (unhide F0).c7
  simp at o0 o1 o2
  go_enter Try.func22, Try.ntmps22
  go_wp2
  clear hW hB
  go_big_quiet (fail)
  have qd : Quiet W0 (W0.drewN nq) := (Chg.refl _ _).drewN nq
  have F1 := hide ((unhide F0).quiet qd)
  have Q1 := hide (Quiet.trans (unhide Q0) qd)
  clear o0 o1 o2 c0 c7 F0 Q0
  generalize W0.drewN nq = W1 at *
  clear qd nq
  have o0 := (unhide F1).op.cell 0
  have o1 := (unhide F1).op.cell 1
  have o2 := (unhide F1).op.cell 2
  have c0 := (unhide F1).c0
  have c7 := (unhide F1).c7
  simp at o0 o1 o2
  go_wp2
  go_big_quiet (fail)
  have qd : Quiet W1 (W1.drewN nq) := (Chg.refl _ _).drewN nq
  have F2 := hide ((unhide F1).quiet qd)
  have Q2 := hide (Quiet.trans (unhide Q1) qd)
  clear o0 o1 o2 c0 c7 F1 Q1
  generalize W1.drewN nq = W2 at *
  clear qd nq
  have o0 := (unhide F2).op.cell 0
  have o1 := (unhide F2).op.cell 1
  have o2 := (unhide F2).op.cell 2
  have c0 := (unhide F2).c0
  have c7 := (unhide F2).c7
  simp at o0 o1 o2
  go_wp2
  go_big_quiet (fail)
  have qd : Quiet W2 (W2.drewN nq) := (Chg.refl _ _).drewN nq
  have F3 := hide ((unhide F2).quiet qd)
  have Q3 := hide (Quiet.trans (unhide Q2) qd)
  clear o0 o1 o2 c0 c7 F2 Q2
  generalize W2.drewN nq = W3 at *
  clear qd nq
  have o0 := (unhide F3).op.cell 0
  have o1 := (unhide F3).op.cell 1
  have o2 := (unhide F3).op.cell 2
  have c0 := (unhide F3).c0
  have c7 := (unhide F3).c7
  simp at o0 o1 o2
  go_wp2
  go_loopw [5] (fun i wr => i = .int .i64 0 ∧ wr = W3) (fun _ _ => 0)
  case atStart => exact ⟨rfl, rfl⟩
  case round =>
    obtain ⟨rfl, rfl⟩ := hrel
    go_wp2
    go_ret
    exact ⟨rfl, unhide Q3⟩

set_option maxHeartbeats 8000000 in
set_option maxRecDepth 100000 in
theorem owed_start1 (w : World) (g : Nat) (vi vw : Value) (G : Gh) (H : GhR w g vi vw G) (a b c : Int) (s t : ByteArray) (hm : G.mode = -1) (ha : a = 1) :
    Calls Try.prog 22 #[ptr g, .agg #[.int .i64 2, .int .i64 a, .int .i64 b, .int .i64 c, .string s, .string t]] w fun e w' => e = .returned (.int .i64 0) ∧ Quiet w w' := by
  obtain ⟨ai, ci, rfl⟩ := H.ri.shape
  obtain ⟨W0, hW⟩ : ∃ W0, w.alloc (.cells #[.int .i64 2, .int .i64 a, .int .i64 b, .int .i64 c, .string s, .string t] 40) = W0 := ⟨_, rfl⟩
  have q0 : Quiet w W0 := by rw [← hW]; exact (Chg.refl _ _).alloc _
  have bo : Blk W0 w.heap.size 40 [.int .i64 2, .int .i64 a, .int .i64 b, .int .i64 c, .string s, .string t] := by rw [← hW]; exact Blk.new w 40 _
  obtain ⟨B, hB⟩ : ∃ B, w.heap.size = B := ⟨_, rfl⟩
  rw [hB] at bo
  have F0 : Hid (OwR W0 B g 2 a b c s t ai G.ids.length ci G.mode G.ids) := ⟨bo, q0.cell (H.blk.cell 0), q0.cell (H.blk.cell 7), H.ri.quiet q0⟩
  have Q0 := hide q0
  have hids : Hid True := trivial
  generalize G.ids = ids at *
  generalize G.mode = mode at *
  clear q0 bo H
  generalize hN : ids.length = n at *
  have hNH := hide hN
  clear hN
  unfold ptr
  subst hm
  subst ha
  have o0 := (unhide F0).op.cell 0
  have o1 := (unhide F0).op.cell 1
  have o2 := (unhide F0).op.cell 2
  have c0 := (unhide F0).c0
  have c7 := (unhide F0).c7
  simp at o0 o1 o2
  go_enter Try.func22, Try.ntmps22
  go_wp2
  clear hW hB
  go_big_quiet (fail)
  have qd : Quiet W0 (W0.drewN nq) := (Chg.refl _ _).drewN nq
  have F1 := hide ((unhide F0).quiet qd)
  have Q1 := hide (Quiet.trans (unhide Q0) qd)
  clear o0 o1 o2 c0 c7 F0 Q0
  generalize W0.drewN nq = W1 at *
  clear qd nq
  have o0 := (unhide F1).op.cell 0
  have o1 := (unhide F1).op.cell 1
  have o2 := (unhide F1).op.cell 2
  have c0 := (unhide F1).c0
  have c7 := (unhide F1).c7
  simp at o0 o1 o2
  go_wp2
  go_big_quiet (fail)
  have qd : Quiet W1 (W1.drewN nq) := (Chg.refl _ _).drewN nq
  have F2 := hide ((unhide F1).quiet qd)
  have Q2 := hide (Quiet.trans (unhide Q1) qd)
  clear o0 o1 o2 c0 c7 F1 Q1
  generalize W1.drewN nq = W2 at *
  clear qd nq
  have o0 := (unhide F2).op.cell 0
  have o1 := (unhide F2).op.cell 1
  have o2 := (unhide F2).op.cell 2
  have c0 := (unhide F2).c0
  have c7 := (unhide F2).c7
  simp at o0 o1 o2
  go_wp2
  go_big_quiet (fail)
  have qd : Quiet W2 (W2.drewN nq) := (Chg.refl _ _).drewN nq
  have F3 := hide ((unhide F2).quiet qd)
  have Q3 := hide (Quiet.trans (unhide Q2) qd)
  clear o0 o1 o2 c0 c7 F2 Q2
  generalize W2.drewN nq = W3 at *
  clear qd nq
  have o0 := (unhide F3).op.cell 0
  have o1 := (unhide F3).op.cell 1
  have o2 := (unhide F3).op.cell 2
  have c0 := (unhide F3).c0
  have c7 := (unhide F3).c7
  simp at o0 o1 o2
  go_wp2
  go_loopw [5] (fun i wr => i = .int .i64 0 ∧ wr = W3) (fun _ _ => 0)
  case atStart => exact ⟨rfl, rfl⟩
  case round =>
    obtain ⟨rfl, rfl⟩ := hrel
    go_wp2
    go_ret
    exact ⟨rfl, unhide Q3⟩

set_option maxHeartbeats 8000000 in
set_option maxRecDepth 100000 in
theorem owed_node_lo (w : World) (g : Nat) (vi vw : Value) (G : Gh) (H : GhR w g vi vw G) (a b c : Int) (s t : ByteArray) (hm : G.mode ≠ -1) (ha : a < 0) :
    Calls Try.prog 22 #[ptr g, .agg #[.int .i64 4, .int .i64 a, .int .i64 b, .int .i64 c, .string s, .string t]] w fun e w' => e = .returned (.int .i64 5) ∧ Quiet w w' := by
  obtain ⟨ai, ci, rfl⟩ := H.ri.shape
  obtain ⟨W0, hW⟩ : ∃ W0, w.alloc (.cells #[.int .i64 4, .int .i64 a, .int .i64 b, .int .i64 c, .string s, .string t] 40) = W0 := ⟨_, rfl⟩
  have q0 : Quiet w W0 := by rw [← hW]; exact (Chg.refl _ _).alloc _
  have bo : Blk W0 w.heap.size 40 [.int .i64 4, .int .i64 a, .int .i64 b, .int .i64 c, .string s, .string t] := by rw [← hW]; exact Blk.new w 40 _
  obtain ⟨B, hB⟩ : ∃ B, w.heap.size = B := ⟨_, rfl⟩
  rw [hB] at bo
  have F0 : Hid (OwR W0 B g 4 a b c s t ai G.ids.length ci G.mode G.ids) := ⟨bo, q0.cell (H.blk.cell 0), q0.cell (H.blk.cell 7), H.ri.quiet q0⟩
  have Q0 := hide q0
  have hids : Hid True := trivial
  generalize G.ids = ids at *
  generalize G.mode = mode at *
  clear q0 bo H
  generalize hN : ids.length = n at *
  have hNH := hide hN
  clear hN
  unfold ptr
  have m1 : (mode == -1) = false := by simpa using hm
  have a1 : decide (a < 0) = true := by simpa using ha
  clear hm
  have o0 := (unhide F0).op.cell 0
  have o1 := (unhide F0).op.cell 1
  have o2 := (unhide F0).op.cell 2
  have c0 := (unhide F0).c0
  have c7 := (unhide F0).c7
  simp at o0 o1 o2
  go_enter Try.func22, Try.ntmps22
  go_wp2
  clear hW hB
  go_big_quiet (fail)
  have qd : Quiet W0 (W0.drewN nq) := (Chg.refl _ _).drewN nq
  have F1 := hide ((unhide F0).quiet qd)
  have Q1 := hide (Quiet.trans (unhide Q0) qd)
  clear o0 o1 o2 c0 c7 F0 Q0
  generalize W0.drewN nq = W1 at *
  clear qd nq
  have o0 := (unhide F1).op.cell 0
  have o1 := (unhide F1).op.cell 1
  have o2 := (unhide F1).op.cell 2
  have c0 := (unhide F1).c0
  have c7 := (unhide F1).c7
  simp at o0 o1 o2
  go_wp2
  go_big_quiet (fail)
  have qd : Quiet W1 (W1.drewN nq) := (Chg.refl _ _).drewN nq
  have F2 := hide ((unhide F1).quiet qd)
  have Q2 := hide (Quiet.trans (unhide Q1) qd)
  clear o0 o1 o2 c0 c7 F1 Q1
  generalize W1.drewN nq = W2 at *
  clear qd nq
  have o0 := (unhide F2).op.cell 0
  have o1 := (unhide F2).op.cell 1
  have o2 := (unhide F2).op.cell 2
  have c0 := (unhide F2).c0
  have c7 := (unhide F2).c7
  simp at o0 o1 o2
  go_wp2
  go_ret
  exact ⟨rfl, unhide Q2⟩

set_option maxHeartbeats 8000000 in
set_option maxRecDepth 100000 in
theorem owed_node_hi (w : World) (g : Nat) (vi vw : Value) (G : Gh) (H : GhR w g vi vw G) (a b c : Int) (s t : ByteArray) (hm : G.mode ≠ -1) (ha : 0 ≤ a) (hb : (G.ids.length : Int) ≤ a) :
    Calls Try.prog 22 #[ptr g, .agg #[.int .i64 4, .int .i64 a, .int .i64 b, .int .i64 c, .string s, .string t]] w fun e w' => e = .returned (.int .i64 5) ∧ Quiet w w' := by
  obtain ⟨ai, ci, rfl⟩ := H.ri.shape
  obtain ⟨W0, hW⟩ : ∃ W0, w.alloc (.cells #[.int .i64 4, .int .i64 a, .int .i64 b, .int .i64 c, .string s, .string t] 40) = W0 := ⟨_, rfl⟩
  have q0 : Quiet w W0 := by rw [← hW]; exact (Chg.refl _ _).alloc _
  have bo : Blk W0 w.heap.size 40 [.int .i64 4, .int .i64 a, .int .i64 b, .int .i64 c, .string s, .string t] := by rw [← hW]; exact Blk.new w 40 _
  obtain ⟨B, hB⟩ : ∃ B, w.heap.size = B := ⟨_, rfl⟩
  rw [hB] at bo
  have F0 : Hid (OwR W0 B g 4 a b c s t ai G.ids.length ci G.mode G.ids) := ⟨bo, q0.cell (H.blk.cell 0), q0.cell (H.blk.cell 7), H.ri.quiet q0⟩
  have Q0 := hide q0
  have hids : Hid True := trivial
  generalize G.ids = ids at *
  generalize G.mode = mode at *
  clear q0 bo H
  generalize hN : ids.length = n at *
  have hNH := hide hN
  clear hN
  unfold ptr
  have m1 : (mode == -1) = false := by simpa using hm
  have a1 : decide (a < 0) = false := by simp; omega
  have a2 : decide ((n : Int) ≤ a) = true := by simpa using hb
  clear hm
  have o0 := (unhide F0).op.cell 0
  have o1 := (unhide F0).op.cell 1
  have o2 := (unhide F0).op.cell 2
  have c0 := (unhide F0).c0
  have c7 := (unhide F0).c7
  simp at o0 o1 o2
  go_enter Try.func22, Try.ntmps22
  go_wp2
  clear hW hB
  go_big_quiet (fail)
  have qd : Quiet W0 (W0.drewN nq) := (Chg.refl _ _).drewN nq
  have F1 := hide ((unhide F0).quiet qd)
  have Q1 := hide (Quiet.trans (unhide Q0) qd)
  clear o0 o1 o2 c0 c7 F0 Q0
  generalize W0.drewN nq = W1 at *
  clear qd nq
  have o0 := (unhide F1).op.cell 0
  have o1 := (unhide F1).op.cell 1
  have o2 := (unhide F1).op.cell 2
  have c0 := (unhide F1).c0
  have c7 := (unhide F1).c7
  simp at o0 o1 o2
  go_wp2
  go_big_quiet (fail)
  have qd : Quiet W1 (W1.drewN nq) := (Chg.refl _ _).drewN nq
  have F2 := hide ((unhide F1).quiet qd)
  have Q2 := hide (Quiet.trans (unhide Q1) qd)
  clear o0 o1 o2 c0 c7 F1 Q1
  generalize W1.drewN nq = W2 at *
  clear qd nq
  have o0 := (unhide F2).op.cell 0
  have o1 := (unhide F2).op.cell 1
  have o2 := (unhide F2).op.cell 2
  have c0 := (unhide F2).c0
  have c7 := (unhide F2).c7
  simp at o0 o1 o2
  go_wp2
  go_ret
  exact ⟨rfl, unhide Q2⟩

set_option maxHeartbeats 8000000 in
set_option maxRecDepth 100000 in
theorem owed_dir_lo (w : World) (g : Nat) (vi vw : Value) (G : Gh) (H : GhR w g vi vw G) (a b c : Int) (s t : ByteArray) (hm : G.mode ≠ -1) (ha : 0 ≤ a) (hb : a < (G.ids.length : Int)) (hc : b < 0) :
    Calls Try.prog 22 #[ptr g, .agg #[.int .i64 4, .int .i64 a, .int .i64 b, .int .i64 c, .string s, .string t]] w fun e w' => e = .returned (.int .i64 6) ∧ Quiet w w' := by
  obtain ⟨ai, ci, rfl⟩ := H.ri.shape
  obtain ⟨W0, hW⟩ : ∃ W0, w.alloc (.cells #[.int .i64 4, .int .i64 a, .int .i64 b, .int .i64 c, .string s, .string t] 40) = W0 := ⟨_, rfl⟩
  have q0 : Quiet w W0 := by rw [← hW]; exact (Chg.refl _ _).alloc _
  have bo : Blk W0 w.heap.size 40 [.int .i64 4, .int .i64 a, .int .i64 b, .int .i64 c, .string s, .string t] := by rw [← hW]; exact Blk.new w 40 _
  obtain ⟨B, hB⟩ : ∃ B, w.heap.size = B := ⟨_, rfl⟩
  rw [hB] at bo
  have F0 : Hid (OwR W0 B g 4 a b c s t ai G.ids.length ci G.mode G.ids) := ⟨bo, q0.cell (H.blk.cell 0), q0.cell (H.blk.cell 7), H.ri.quiet q0⟩
  have Q0 := hide q0
  have hids : Hid True := trivial
  generalize G.ids = ids at *
  generalize G.mode = mode at *
  clear q0 bo H
  generalize hN : ids.length = n at *
  have hNH := hide hN
  clear hN
  unfold ptr
  have m1 : (mode == -1) = false := by simpa using hm
  have a1 : decide (a < 0) = false := by simp; omega
  have a2 : decide ((n : Int) ≤ a) = false := by simp; omega
  have a3 : decide (b < 0) = true := by simpa using hc
  clear hm
  have o0 := (unhide F0).op.cell 0
  have o1 := (unhide F0).op.cell 1
  have o2 := (unhide F0).op.cell 2
  have c0 := (unhide F0).c0
  have c7 := (unhide F0).c7
  simp at o0 o1 o2
  go_enter Try.func22, Try.ntmps22
  go_wp2
  clear hW hB
  go_big_quiet (fail)
  have qd : Quiet W0 (W0.drewN nq) := (Chg.refl _ _).drewN nq
  have F1 := hide ((unhide F0).quiet qd)
  have Q1 := hide (Quiet.trans (unhide Q0) qd)
  clear o0 o1 o2 c0 c7 F0 Q0
  generalize W0.drewN nq = W1 at *
  clear qd nq
  have o0 := (unhide F1).op.cell 0
  have o1 := (unhide F1).op.cell 1
  have o2 := (unhide F1).op.cell 2
  have c0 := (unhide F1).c0
  have c7 := (unhide F1).c7
  simp at o0 o1 o2
  go_wp2
  go_big_quiet (fail)
  have qd : Quiet W1 (W1.drewN nq) := (Chg.refl _ _).drewN nq
  have F2 := hide ((unhide F1).quiet qd)
  have Q2 := hide (Quiet.trans (unhide Q1) qd)
  clear o0 o1 o2 c0 c7 F1 Q1
  generalize W1.drewN nq = W2 at *
  clear qd nq
  have o0 := (unhide F2).op.cell 0
  have o1 := (unhide F2).op.cell 1
  have o2 := (unhide F2).op.cell 2
  have c0 := (unhide F2).c0
  have c7 := (unhide F2).c7
  simp at o0 o1 o2
  go_wp2
  go_big_quiet (fail)
  have qd : Quiet W2 (W2.drewN nq) := (Chg.refl _ _).drewN nq
  have F3 := hide ((unhide F2).quiet qd)
  have Q3 := hide (Quiet.trans (unhide Q2) qd)
  clear o0 o1 o2 c0 c7 F2 Q2
  generalize W2.drewN nq = W3 at *
  clear qd nq
  have o0 := (unhide F3).op.cell 0
  have o1 := (unhide F3).op.cell 1
  have o2 := (unhide F3).op.cell 2
  have c0 := (unhide F3).c0
  have c7 := (unhide F3).c7
  simp at o0 o1 o2
  go_wp2
  go_ret
  exact ⟨rfl, unhide Q3⟩

set_option maxHeartbeats 8000000 in
set_option maxRecDepth 100000 in
theorem owed_dir_hi (w : World) (g : Nat) (vi vw : Value) (G : Gh) (H : GhR w g vi vw G) (a b c : Int) (s t : ByteArray) (hm : G.mode ≠ -1) (ha : 0 ≤ a) (hb : a < (G.ids.length : Int)) (hc : 0 ≤ b) (hd : G.mode < b) :
    Calls Try.prog 22 #[ptr g, .agg #[.int .i64 4, .int .i64 a, .int .i64 b, .int .i64 c, .string s, .string t]] w fun e w' => e = .returned (.int .i64 6) ∧ Quiet w w' := by
  obtain ⟨ai, ci, rfl⟩ := H.ri.shape
  obtain ⟨W0, hW⟩ : ∃ W0, w.alloc (.cells #[.int .i64 4, .int .i64 a, .int .i64 b, .int .i64 c, .string s, .string t] 40) = W0 := ⟨_, rfl⟩
  have q0 : Quiet w W0 := by rw [← hW]; exact (Chg.refl _ _).alloc _
  have bo : Blk W0 w.heap.size 40 [.int .i64 4, .int .i64 a, .int .i64 b, .int .i64 c, .string s, .string t] := by rw [← hW]; exact Blk.new w 40 _
  obtain ⟨B, hB⟩ : ∃ B, w.heap.size = B := ⟨_, rfl⟩
  rw [hB] at bo
  have F0 : Hid (OwR W0 B g 4 a b c s t ai G.ids.length ci G.mode G.ids) := ⟨bo, q0.cell (H.blk.cell 0), q0.cell (H.blk.cell 7), H.ri.quiet q0⟩
  have Q0 := hide q0
  have hids : Hid True := trivial
  generalize G.ids = ids at *
  generalize G.mode = mode at *
  clear q0 bo H
  generalize hN : ids.length = n at *
  have hNH := hide hN
  clear hN
  unfold ptr
  have m1 : (mode == -1) = false := by simpa using hm
  have a1 : decide (a < 0) = false := by simp; omega
  have a2 : decide ((n : Int) ≤ a) = false := by simp; omega
  have a3 : decide (b < 0) = false := by simp; omega
  have a4 : decide (mode < b) = true := by simpa using hd
  clear hm
  have o0 := (unhide F0).op.cell 0
  have o1 := (unhide F0).op.cell 1
  have o2 := (unhide F0).op.cell 2
  have c0 := (unhide F0).c0
  have c7 := (unhide F0).c7
  simp at o0 o1 o2
  go_enter Try.func22, Try.ntmps22
  go_wp2
  clear hW hB
  go_big_quiet (fail)
  have qd : Quiet W0 (W0.drewN nq) := (Chg.refl _ _).drewN nq
  have F1 := hide ((unhide F0).quiet qd)
  have Q1 := hide (Quiet.trans (unhide Q0) qd)
  clear o0 o1 o2 c0 c7 F0 Q0
  generalize W0.drewN nq = W1 at *
  clear qd nq
  have o0 := (unhide F1).op.cell 0
  have o1 := (unhide F1).op.cell 1
  have o2 := (unhide F1).op.cell 2
  have c0 := (unhide F1).c0
  have c7 := (unhide F1).c7
  simp at o0 o1 o2
  go_wp2
  go_big_quiet (fail)
  have qd : Quiet W1 (W1.drewN nq) := (Chg.refl _ _).drewN nq
  have F2 := hide ((unhide F1).quiet qd)
  have Q2 := hide (Quiet.trans (unhide Q1) qd)
  clear o0 o1 o2 c0 c7 F1 Q1
  generalize W1.drewN nq = W2 at *
  clear qd nq
  have o0 := (unhide F2).op.cell 0
  have o1 := (unhide F2).op.cell 1
  have o2 := (unhide F2).op.cell 2
  have c0 := (unhide F2).c0
  have c7 := (unhide F2).c7
  simp at o0 o1 o2
  go_wp2
  go_big_quiet (fail)
  have qd : Quiet W2 (W2.drewN nq) := (Chg.refl _ _).drewN nq
  have F3 := hide ((unhide F2).quiet qd)
  have Q3 := hide (Quiet.trans (unhide Q2) qd)
  clear o0 o1 o2 c0 c7 F2 Q2
  generalize W2.drewN nq = W3 at *
  clear qd nq
  have o0 := (unhide F3).op.cell 0
  have o1 := (unhide F3).op.cell 1
  have o2 := (unhide F3).op.cell 2
  have c0 := (unhide F3).c0
  have c7 := (unhide F3).c7
  simp at o0 o1 o2
  go_wp2
  go_ret
  exact ⟨rfl, unhide Q3⟩

set_option maxHeartbeats 8000000 in
set_option maxRecDepth 100000 in
theorem owed_wake (w : World) (g : Nat) (vi vw : Value) (G : Gh) (H : GhR w g vi vw G) (a b c : Int) (s t : ByteArray) (hm : G.mode ≠ -1) (ha : 0 ≤ a) (hb : a < (G.ids.length : Int)) (hc : 0 ≤ b) (hd : b ≤ G.mode) :
    Calls Try.prog 22 #[ptr g, .agg #[.int .i64 4, .int .i64 a, .int .i64 b, .int .i64 c, .string s, .string t]] w fun e w' => e = .returned (.int .i64 0) ∧ Quiet w w' := by
  obtain ⟨ai, ci, rfl⟩ := H.ri.shape
  obtain ⟨W0, hW⟩ : ∃ W0, w.alloc (.cells #[.int .i64 4, .int .i64 a, .int .i64 b, .int .i64 c, .string s, .string t] 40) = W0 := ⟨_, rfl⟩
  have q0 : Quiet w W0 := by rw [← hW]; exact (Chg.refl _ _).alloc _
  have bo : Blk W0 w.heap.size 40 [.int .i64 4, .int .i64 a, .int .i64 b, .int .i64 c, .string s, .string t] := by rw [← hW]; exact Blk.new w 40 _
  obtain ⟨B, hB⟩ : ∃ B, w.heap.size = B := ⟨_, rfl⟩
  rw [hB] at bo
  have F0 : Hid (OwR W0 B g 4 a b c s t ai G.ids.length ci G.mode G.ids) := ⟨bo, q0.cell (H.blk.cell 0), q0.cell (H.blk.cell 7), H.ri.quiet q0⟩
  have Q0 := hide q0
  have hids : Hid True := trivial
  generalize G.ids = ids at *
  generalize G.mode = mode at *
  clear q0 bo H
  generalize hN : ids.length = n at *
  have hNH := hide hN
  clear hN
  unfold ptr
  have m1 : (mode == -1) = false := by simpa using hm
  have a1 : decide (a < 0) = false := by simp; omega
  have a2 : decide ((n : Int) ≤ a) = false := by simp; omega
  have a3 : decide (b < 0) = false := by simp; omega
  have a4 : decide (mode < b) = false := by simp; omega
  clear hm
  have o0 := (unhide F0).op.cell 0
  have o1 := (unhide F0).op.cell 1
  have o2 := (unhide F0).op.cell 2
  have c0 := (unhide F0).c0
  have c7 := (unhide F0).c7
  simp at o0 o1 o2
  go_enter Try.func22, Try.ntmps22
  go_wp2
  clear hW hB
  go_big_quiet (fail)
  have qd : Quiet W0 (W0.drewN nq) := (Chg.refl _ _).drewN nq
  have F1 := hide ((unhide F0).quiet qd)
  have Q1 := hide (Quiet.trans (unhide Q0) qd)
  clear o0 o1 o2 c0 c7 F0 Q0
  generalize W0.drewN nq = W1 at *
  clear qd nq
  have o0 := (unhide F1).op.cell 0
  have o1 := (unhide F1).op.cell 1
  have o2 := (unhide F1).op.cell 2
  have c0 := (unhide F1).c0
  have c7 := (unhide F1).c7
  simp at o0 o1 o2
  go_wp2
  go_big_quiet (fail)
  have qd : Quiet W1 (W1.drewN nq) := (Chg.refl _ _).drewN nq
  have F2 := hide ((unhide F1).quiet qd)
  have Q2 := hide (Quiet.trans (unhide Q1) qd)
  clear o0 o1 o2 c0 c7 F1 Q1
  generalize W1.drewN nq = W2 at *
  clear qd nq
  have o0 := (unhide F2).op.cell 0
  have o1 := (unhide F2).op.cell 1
  have o2 := (unhide F2).op.cell 2
  have c0 := (unhide F2).c0
  have c7 := (unhide F2).c7
  simp at o0 o1 o2
  go_wp2
  go_big_quiet (fail)
  have qd : Quiet W2 (W2.drewN nq) := (Chg.refl _ _).drewN nq
  have F3 := hide ((unhide F2).quiet qd)
  have Q3 := hide (Quiet.trans (unhide Q2) qd)
  clear o0 o1 o2 c0 c7 F2 Q2
  generalize W2.drewN nq = W3 at *
  clear qd nq
  have o0 := (unhide F3).op.cell 0
  have o1 := (unhide F3).op.cell 1
  have o2 := (unhide F3).op.cell 2
  have c0 := (unhide F3).c0
  have c7 := (unhide F3).c7
  simp at o0 o1 o2
  go_wp2
  go_loopw [5] (fun i wr => i = .int .i64 0 ∧ wr = W3) (fun _ _ => 0)
  case atStart => exact ⟨rfl, rfl⟩
  case round =>
    obtain ⟨rfl, rfl⟩ := hrel
    go_wp2
    go_ret
    exact ⟨rfl, unhide Q3⟩

set_option maxHeartbeats 8000000 in
set_option maxRecDepth 100000 in
theorem owed_full (w : World) (g : Nat) (vi vw : Value) (G : Gh) (H : GhR w g vi vw G) (a b c : Int) (s t : ByteArray) (hm : G.mode = -1) (h8 : 8 ≤ G.ids.length) :
    Calls Try.prog 22 #[ptr g, .agg #[.int .i64 1, .int .i64 a, .int .i64 b, .int .i64 c, .string s, .string t]] w fun e w' => e = .returned (.int .i64 2) ∧ Quiet w w' := by
  obtain ⟨ai, ci, rfl⟩ := H.ri.shape
  obtain ⟨W0, hW⟩ : ∃ W0, w.alloc (.cells #[.int .i64 1, .int .i64 a, .int .i64 b, .int .i64 c, .string s, .string t] 40) = W0 := ⟨_, rfl⟩
  have q0 : Quiet w W0 := by rw [← hW]; exact (Chg.refl _ _).alloc _
  have bo : Blk W0 w.heap.size 40 [.int .i64 1, .int .i64 a, .int .i64 b, .int .i64 c, .string s, .string t] := by rw [← hW]; exact Blk.new w 40 _
  obtain ⟨B, hB⟩ : ∃ B, w.heap.size = B := ⟨_, rfl⟩
  rw [hB] at bo
  have F0 : Hid (OwR W0 B g 1 a b c s t ai G.ids.length ci G.mode G.ids) := ⟨bo, q0.cell (H.blk.cell 0), q0.cell (H.blk.cell 7), H.ri.quiet q0⟩
  have Q0 := hide q0
  have hids : Hid True := trivial
  generalize G.ids = ids at *
  generalize G.mode = mode at *
  clear q0 bo H
  generalize hN : ids.length = n at *
  have hNH := hide hN
  clear hN
  unfold ptr
  subst hm
  have a1 : (8 : Int) ≤ (n : Int) := by omega
  have o0 := (unhide F0).op.cell 0
  have o1 := (unhide F0).op.cell 1
  have o2 := (unhide F0).op.cell 2
  have c0 := (unhide F0).c0
  have c7 := (unhide F0).c7
  simp at o0 o1 o2
  go_enter Try.func22, Try.ntmps22
  go_wp2
  clear hW hB
  go_big_quiet (fail)
  have qd : Quiet W0 (W0.drewN nq) := (Chg.refl _ _).drewN nq
  have F1 := hide ((unhide F0).quiet qd)
  have Q1 := hide (Quiet.trans (unhide Q0) qd)
  clear o0 o1 o2 c0 c7 F0 Q0
  generalize W0.drewN nq = W1 at *
  clear qd nq
  have o0 := (unhide F1).op.cell 0
  have o1 := (unhide F1).op.cell 1
  have o2 := (unhide F1).op.cell 2
  have c0 := (unhide F1).c0
  have c7 := (unhide F1).c7
  simp at o0 o1 o2
  go_wp2
  go_big_quiet (fail)
  have qd : Quiet W1 (W1.drewN nq) := (Chg.refl _ _).drewN nq
  have F2 := hide ((unhide F1).quiet qd)
  have Q2 := hide (Quiet.trans (unhide Q1) qd)
  clear o0 o1 o2 c0 c7 F1 Q1
  generalize W1.drewN nq = W2 at *
  clear qd nq
  have o0 := (unhide F2).op.cell 0
  have o1 := (unhide F2).op.cell 1
  have o2 := (unhide F2).op.cell 2
  have c0 := (unhide F2).c0
  have c7 := (unhide F2).c7
  simp at o0 o1 o2
  go_wp2
  go_big_quiet (fail)
  have qd : Quiet W2 (W2.drewN nq) := (Chg.refl _ _).drewN nq
  have F3 := hide ((unhide F2).quiet qd)
  have Q3 := hide (Quiet.trans (unhide Q2) qd)
  clear o0 o1 o2 c0 c7 F2 Q2
  generalize W2.drewN nq = W3 at *
  clear qd nq
  have o0 := (unhide F3).op.cell 0
  have o1 := (unhide F3).op.cell 1
  have o2 := (unhide F3).op.cell 2
  have c0 := (unhide F3).c0
  have c7 := (unhide F3).c7
  simp at o0 o1 o2
  go_wp2
  go_ret
  exact ⟨rfl, unhide Q3⟩

set_option maxHeartbeats 8000000 in
set_option maxRecDepth 100000 in
theorem owed_dup (w : World) (g : Nat) (vi vw : Value) (G : Gh) (H : GhR w g vi vw G) (a b c : Int) (s t : ByteArray) (hm : G.mode = -1) (h8 : G.ids.length < 8) (hd : a ∈ G.ids) :
    Calls Try.prog 22 #[ptr g, .agg #[.int .i64 1, .int .i64 a, .int .i64 b, .int .i64 c, .string s, .string t]] w fun e w' => e = .returned (.int .i64 3) ∧ Quiet w w' := by
  obtain ⟨ai, ci, rfl⟩ := H.ri.shape
  obtain ⟨W0, hW⟩ : ∃ W0, w.alloc (.cells #[.int .i64 1, .int .i64 a, .int .i64 b, .int .i64 c, .string s, .string t] 40) = W0 := ⟨_, rfl⟩
  have q0 : Quiet w W0 := by rw [← hW]; exact (Chg.refl _ _).alloc _
  have bo : Blk W0 w.heap.size 40 [.int .i64 1, .int .i64 a, .int .i64 b, .int .i64 c, .string s, .string t] := by rw [← hW]; exact Blk.new w 40 _
  obtain ⟨B, hB⟩ : ∃ B, w.heap.size = B := ⟨_, rfl⟩
  rw [hB] at bo
  have F0 : Hid (OwR W0 B g 1 a b c s t ai G.ids.length ci G.mode G.ids) := ⟨bo, q0.cell (H.blk.cell 0), q0.cell (H.blk.cell 7), H.ri.quiet q0⟩
  have Q0 := hide q0
  have hids : Hid True := trivial
  generalize G.ids = ids at *
  generalize G.mode = mode at *
  clear q0 bo H
  generalize hN : ids.length = n at *
  have hNH := hide hN
  clear hN
  unfold ptr
  subst hm
  have a1 : ¬ (8 : Int) ≤ (n : Int) := by omega
  have a1d : decide ((8 : Int) ≤ (n : Int)) = false := by simpa using a1
  have hn8 : n < 8 := by omega
  have o0 := (unhide F0).op.cell 0
  have o1 := (unhide F0).op.cell 1
  have o2 := (unhide F0).op.cell 2
  have c0 := (unhide F0).c0
  have c7 := (unhide F0).c7
  simp at o0 o1 o2
  go_enter Try.func22, Try.ntmps22
  go_wp2
  clear hW hB
  go_big_quiet (fail)
  have qd : Quiet W0 (W0.drewN nq) := (Chg.refl _ _).drewN nq
  have F1 := hide ((unhide F0).quiet qd)
  have Q1 := hide (Quiet.trans (unhide Q0) qd)
  clear o0 o1 o2 c0 c7 F0 Q0
  generalize W0.drewN nq = W1 at *
  clear qd nq
  have o0 := (unhide F1).op.cell 0
  have o1 := (unhide F1).op.cell 1
  have o2 := (unhide F1).op.cell 2
  have c0 := (unhide F1).c0
  have c7 := (unhide F1).c7
  simp at o0 o1 o2
  go_wp2
  go_big_quiet (fail)
  have qd : Quiet W1 (W1.drewN nq) := (Chg.refl _ _).drewN nq
  have F2 := hide ((unhide F1).quiet qd)
  have Q2 := hide (Quiet.trans (unhide Q1) qd)
  clear o0 o1 o2 c0 c7 F1 Q1
  generalize W1.drewN nq = W2 at *
  clear qd nq
  have o0 := (unhide F2).op.cell 0
  have o1 := (unhide F2).op.cell 1
  have o2 := (unhide F2).op.cell 2
  have c0 := (unhide F2).c0
  have c7 := (unhide F2).c7
  simp at o0 o1 o2
  go_wp2
  go_big_quiet (fail)
  have qd : Quiet W2 (W2.drewN nq) := (Chg.refl _ _).drewN nq
  have F3 := hide ((unhide F2).quiet qd)
  have Q3 := hide (Quiet.trans (unhide Q2) qd)
  clear o0 o1 o2 c0 c7 F2 Q2
  generalize W2.drewN nq = W3 at *
  clear qd nq
  have o0 := (unhide F3).op.cell 0
  have o1 := (unhide F3).op.cell 1
  have o2 := (unhide F3).op.cell 2
  have c0 := (unhide F3).c0
  have c7 := (unhide F3).c7
  simp at o0 o1 o2
  go_wp2
  go_loopw [5] (fun i wr => ∃ j : Nat, j ≤ n ∧ i = .int .i64 j ∧ (∀ i', i' < j → ∀ v, ids[i']? = some v → v ≠ a) ∧ OwR wr B g 1 a b c s t ai n ci (-1) ids ∧ Quiet w wr) (fun i _ => 9 - (intOf i).toNat)
  case atStart => exact ⟨0, Nat.zero_le _, rfl, fun i hi => by omega, unhide F3, unhide Q3⟩
  case round =>
    clear o0 o1 o2 c0 c7 F3 Q3
    obtain ⟨j, hj, rfl, hno, F4', Q4'⟩ := hrel
    have F4 := hide F4'
    have Q4 := hide Q4'
    clear F4' Q4'
    have hnoH := hide hno
    clear hno
    have i0 : (0 : Int) ≤ (j : Int) := by omega
    have o0 := (unhide F4).op.cell 0
    have o1 := (unhide F4).op.cell 1
    have o2 := (unhide F4).op.cell 2
    have c0 := (unhide F4).c0
    have c7 := (unhide F4).c7
    simp at o0 o1 o2
    by_cases hlt : j < n
    · have i1 : (j : Int) < (n : Int) := by omega
      have i1d : decide ((j : Int) < (n : Int)) = true := by simpa using i1
      obtain ⟨v, hv⟩ : ∃ v, ids[j]? = some v := ⟨_, List.getElem?_eq_getElem (by rw [unhide hNH]; exact hlt)⟩
      have hrow := (unhide F4).ri
      rcases hrow.form with ⟨_, hn0, _⟩ | ⟨ib, cp, sp, hvv, hb, _⟩
      · exfalso; omega
      · injection hvv with e1 e2 e3
        subst e1 e3
        have cj : wr.cell? ⟨ib, j, none⟩ = some (.int .i64 v) := by
          rw [hb.cell, List.getElem?_append_left (by rw [List.length_map, unhide hNH]; exact hlt), List.getElem?_map, hv]; rfl
        have cj' : wr.cell? ⟨ib, j * 1, none⟩ = some (.int .i64 v) := by rw [Nat.mul_one]; exact cj
        clear hrow hb
        by_cases he : v = a
        · have b1 : (v == a) = true := by simpa using he
          clear he
          go_wp2
          go_big_quiet (fail)
          have qd : Quiet wr (wr.drewN nq) := (Chg.refl _ _).drewN nq
          have F5 := hide ((unhide F4).quiet qd)
          have Q5 := hide (Quiet.trans (unhide Q4) qd)
          clear o0 o1 o2 c0 c7 F4 Q4 cj cj'
          generalize wr.drewN nq = W5 at *
          clear qd nq
          go_wp2
          go_ret
          exact ⟨rfl, unhide Q5⟩
        · have b1 : (v == a) = false := by simpa using he
          have hno2 : Hid (∀ i', i' < j + 1 → ∀ v, ids[i']? = some v → v ≠ a) := fun i' hi' v' hv' => by
            by_cases e : i' = j
            · subst e; rw [hv] at hv'; cases hv'; exact he
            · exact unhide hnoH i' (by omega) v' hv'
          clear he
          go_wp2
          go_big_quiet (fail)
          have qd : Quiet wr (wr.drewN nq) := (Chg.refl _ _).drewN nq
          have F5 := hide ((unhide F4).quiet qd)
          have Q5 := hide (Quiet.trans (unhide Q4) qd)
          clear o0 o1 o2 c0 c7 F4 Q4 cj cj'
          generalize wr.drewN nq = W5 at *
          clear qd nq
          go_wp2
          go_roundw
          case rel => exact ⟨j + 1, by omega, by go_num, unhide hno2, unhide F5, unhide Q5⟩
          case measure => simp [intOf]; omega
    · have i1 : ¬ (j : Int) < (n : Int) := by omega
      have i1d : decide ((j : Int) < (n : Int)) = false := by simpa using i1
      exfalso
      obtain ⟨i', hi', e⟩ := List.getElem_of_mem hd
      have h3 := unhide hNH
      exact unhide hnoH i' (by omega) a (by rw [List.getElem?_eq_getElem hi', e]) rfl

set_option maxHeartbeats 8000000 in
set_option maxRecDepth 100000 in
theorem owed_join (w : World) (g : Nat) (vi vw : Value) (G : Gh) (H : GhR w g vi vw G) (a b c : Int) (s t : ByteArray) (hm : G.mode = -1) (h8 : G.ids.length < 8) (hd : a ∉ G.ids) :
    Calls Try.prog 22 #[ptr g, .agg #[.int .i64 1, .int .i64 a, .int .i64 b, .int .i64 c, .string s, .string t]] w fun e w' => e = .returned (.int .i64 0) ∧ Quiet w w' := by
  obtain ⟨ai, ci, rfl⟩ := H.ri.shape
  obtain ⟨W0, hW⟩ : ∃ W0, w.alloc (.cells #[.int .i64 1, .int .i64 a, .int .i64 b, .int .i64 c, .string s, .string t] 40) = W0 := ⟨_, rfl⟩
  have q0 : Quiet w W0 := by rw [← hW]; exact (Chg.refl _ _).alloc _
  have bo : Blk W0 w.heap.size 40 [.int .i64 1, .int .i64 a, .int .i64 b, .int .i64 c, .string s, .string t] := by rw [← hW]; exact Blk.new w 40 _
  obtain ⟨B, hB⟩ : ∃ B, w.heap.size = B := ⟨_, rfl⟩
  rw [hB] at bo
  have F0 : Hid (OwR W0 B g 1 a b c s t ai G.ids.length ci G.mode G.ids) := ⟨bo, q0.cell (H.blk.cell 0), q0.cell (H.blk.cell 7), H.ri.quiet q0⟩
  have Q0 := hide q0
  have hids : Hid True := trivial
  generalize G.ids = ids at *
  generalize G.mode = mode at *
  clear q0 bo H
  generalize hN : ids.length = n at *
  have hNH := hide hN
  clear hN
  unfold ptr
  subst hm
  have a1 : ¬ (8 : Int) ≤ (n : Int) := by omega
  have a1d : decide ((8 : Int) ≤ (n : Int)) = false := by simpa using a1
  have hn8 : n < 8 := by omega
  have o0 := (unhide F0).op.cell 0
  have o1 := (unhide F0).op.cell 1
  have o2 := (unhide F0).op.cell 2
  have c0 := (unhide F0).c0
  have c7 := (unhide F0).c7
  simp at o0 o1 o2
  go_enter Try.func22, Try.ntmps22
  go_wp2
  clear hW hB
  go_big_quiet (fail)
  have qd : Quiet W0 (W0.drewN nq) := (Chg.refl _ _).drewN nq
  have F1 := hide ((unhide F0).quiet qd)
  have Q1 := hide (Quiet.trans (unhide Q0) qd)
  clear o0 o1 o2 c0 c7 F0 Q0
  generalize W0.drewN nq = W1 at *
  clear qd nq
  have o0 := (unhide F1).op.cell 0
  have o1 := (unhide F1).op.cell 1
  have o2 := (unhide F1).op.cell 2
  have c0 := (unhide F1).c0
  have c7 := (unhide F1).c7
  simp at o0 o1 o2
  go_wp2
  go_big_quiet (fail)
  have qd : Quiet W1 (W1.drewN nq) := (Chg.refl _ _).drewN nq
  have F2 := hide ((unhide F1).quiet qd)
  have Q2 := hide (Quiet.trans (unhide Q1) qd)
  clear o0 o1 o2 c0 c7 F1 Q1
  generalize W1.drewN nq = W2 at *
  clear qd nq
  have o0 := (unhide F2).op.cell 0
  have o1 := (unhide F2).op.cell 1
  have o2 := (unhide F2).op.cell 2
  have c0 := (unhide F2).c0
  have c7 := (unhide F2).c7
  simp at o0 o1 o2
  go_wp2
  go_big_quiet (fail)
  have qd : Quiet W2 (W2.drewN nq) := (Chg.refl _ _).drewN nq
  have F3 := hide ((unhide F2).quiet qd)
  have Q3 := hide (Quiet.trans (unhide Q2) qd)
  clear o0 o1 o2 c0 c7 F2 Q2
  generalize W2.drewN nq = W3 at *
  clear qd nq
  have o0 := (unhide F3).op.cell 0
  have o1 := (unhide F3).op.cell 1
  have o2 := (unhide F3).op.cell 2
  have c0 := (unhide F3).c0
  have c7 := (unhide F3).c7
  simp at o0 o1 o2
  go_wp2
  go_loopw [5] (fun i wr => ∃ j : Nat, j ≤ n ∧ i = .int .i64 j ∧ (∀ i', i' < j → ∀ v, ids[i']? = some v → v ≠ a) ∧ OwR wr B g 1 a b c s t ai n ci (-1) ids ∧ Quiet w wr) (fun i _ => 9 - (intOf i).toNat)
  case atStart => exact ⟨0, Nat.zero_le _, rfl, fun i hi => by omega, unhide F3, unhide Q3⟩
  case round =>
    clear o0 o1 o2 c0 c7 F3 Q3
    obtain ⟨j, hj, rfl, hno, F4', Q4'⟩ := hrel
    have F4 := hide F4'
    have Q4 := hide Q4'
    clear F4' Q4'
    have hnoH := hide hno
    clear hno
    have i0 : (0 : Int) ≤ (j : Int) := by omega
    have o0 := (unhide F4).op.cell 0
    have o1 := (unhide F4).op.cell 1
    have o2 := (unhide F4).op.cell 2
    have c0 := (unhide F4).c0
    have c7 := (unhide F4).c7
    simp at o0 o1 o2
    by_cases hlt : j < n
    · have i1 : (j : Int) < (n : Int) := by omega
      have i1d : decide ((j : Int) < (n : Int)) = true := by simpa using i1
      obtain ⟨v, hv⟩ : ∃ v, ids[j]? = some v := ⟨_, List.getElem?_eq_getElem (by rw [unhide hNH]; exact hlt)⟩
      have hrow := (unhide F4).ri
      rcases hrow.form with ⟨_, hn0, _⟩ | ⟨ib, cp, sp, hvv, hb, _⟩
      · exfalso; omega
      · injection hvv with e1 e2 e3
        subst e1 e3
        have cj : wr.cell? ⟨ib, j, none⟩ = some (.int .i64 v) := by
          rw [hb.cell, List.getElem?_append_left (by rw [List.length_map, unhide hNH]; exact hlt), List.getElem?_map, hv]; rfl
        have cj' : wr.cell? ⟨ib, j * 1, none⟩ = some (.int .i64 v) := by rw [Nat.mul_one]; exact cj
        clear hrow hb
        by_cases he : v = a
        · exfalso
          subst he
          exact hd (List.mem_of_getElem? hv)
        · have b1 : (v == a) = false := by simpa using he
          have hno2 : Hid (∀ i', i' < j + 1 → ∀ v, ids[i']? = some v → v ≠ a) := fun i' hi' v' hv' => by
            by_cases e : i' = j
            · subst e; rw [hv] at hv'; cases hv'; exact he
            · exact unhide hnoH i' (by omega) v' hv'
          clear he
          go_wp2
          go_big_quiet (fail)
          have qd : Quiet wr (wr.drewN nq) := (Chg.refl _ _).drewN nq
          have F5 := hide ((unhide F4).quiet qd)
          have Q5 := hide (Quiet.trans (unhide Q4) qd)
          clear o0 o1 o2 c0 c7 F4 Q4 cj cj'
          generalize wr.drewN nq = W5 at *
          clear qd nq
          go_wp2
          go_roundw
          case rel => exact ⟨j + 1, by omega, by go_num, unhide hno2, unhide F5, unhide Q5⟩
          case measure => simp [intOf]; omega
    · have i1 : ¬ (j : Int) < (n : Int) := by omega
      have i1d : decide ((j : Int) < (n : Int)) = false := by simpa using i1
      go_wp2
      go_ret
      exact ⟨rfl, unhide Q4⟩
end Go.Proofs.Qxb6500369a
