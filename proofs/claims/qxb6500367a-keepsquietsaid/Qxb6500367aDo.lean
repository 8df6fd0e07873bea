/-
  THE THIN PLAYERS Do AND DoM, KIND BY KIND, over whatever contract the callee has. (Laid by a small program of ours: gen_do.py.)
-/
import Derived.Test.Qxb6500367aWire
import Derived.Test.Qxb6500367aLibB
namespace Go.Proofs.Qxb6500367a
open Go.RowKit Go.Qx
set_option linter.unusedSimpArgs false
set_option linter.unusedVariables false

/-- An answer as a value. -/
def ansv (e n m : Int) (s : ByteArray) : Value := .agg #[.int .i64 e, .int .i64 n, .int .i64 m, .string s]

/-- The world in which a player calls: its step, its result, its answer are boxed. -/
def doW (w : World) (k a b c : Int) (s t : ByteArray) : World :=
  (((w.alloc (.cells #[.int .i64 k, .int .i64 a, .int .i64 b, .int .i64 c, .string s, .string t] 44)).alloc (.cells #[.int .i64 0, .int .i64 0, .int .i64 0, .string ⟨#[]⟩] 65)).alloc (.cells #[.int .i64 0, .int .i64 0, .int .i64 0, .string ⟨#[]⟩] 65))

theorem doW_quiet (w : World) (k a b c : Int) (s t : ByteArray) : Quiet w (doW w k a b c s t) := (((Chg.refl _ _).alloc _).alloc _).alloc _
theorem doW_size (w : World) (k a b c : Int) (s t : ByteArray) : (doW w k a b c s t).heap.size = w.heap.size + 3 := by unfold doW; simp only [World.size_alloc]

theorem doW_blks (w : World) (k a b c : Int) (s t : ByteArray) : Blk (doW w k a b c s t) (w.heap.size + 1) 65 [.int .i64 0, .int .i64 0, .int .i64 0, .string ⟨#[]⟩] ∧ Blk (doW w k a b c s t) (w.heap.size + 2) 65 [.int .i64 0, .int .i64 0, .int .i64 0, .string ⟨#[]⟩] := by
  constructor
  · have := (Blk.new (w.alloc (.cells #[.int .i64 k, .int .i64 a, .int .i64 b, .int .i64 c, .string s, .string t] 44)) 65 [.int .i64 0, .int .i64 0, .int .i64 0, .string ⟨#[]⟩]).alloc (.cells #[.int .i64 0, .int .i64 0, .int .i64 0, .string ⟨#[]⟩] 65)
    simp only [World.size_alloc] at this
    exact this
  · have := Blk.new ((w.alloc (.cells #[.int .i64 k, .int .i64 a, .int .i64 b, .int .i64 c, .string s, .string t] 44)).alloc (.cells #[.int .i64 0, .int .i64 0, .int .i64 0, .string ⟨#[]⟩] 65)) 65 [.int .i64 0, .int .i64 0, .int .i64 0, .string ⟨#[]⟩]
    simp only [World.size_alloc] at this
    exact this

/-- What a player leaves: the callee's world, but for the player's own two boxes. -/
def Did (S : Nat → Prop) (P : World → Prop) (w w' : World) : Prop :=
  Chg S w w' ∧ ∃ w1, P w1 ∧ Chg (fun x => x = w.heap.size + 1 ∨ x = w.heap.size + 2) w1 w'

set_option maxHeartbeats 1000000 in
theorem do_step_of (w : World) (l : Nat) (a b c : Int) (s t : ByteArray) (k N M E : Int) (k6 : (k == 6) = false) (k7 : (k == 7) = false) (k8 : (k == 8) = false) (k9 : (k == 9) = false) (k10 : (k == 10) = false) (P : World → Prop) (S : Nat → Prop) (hS : ∀ x, S x → x < w.heap.size)
    (h : ∀ W, Quiet w W → Calls Try.prog 20 #[ptr l, .int .i64 k, .int .i64 b, .int .i64 c] W fun e w1 => e = .returned (.tuple #[.int .i64 N, .int .i64 M, .int .i64 E]) ∧ Chg S W w1 ∧ P w1) :
    Calls Try.prog 30 #[ptr l, opv k a b c s t] w fun e w' => e = .returned (ansv E N M ⟨#[]⟩) ∧ Did S P w w' := by
  have hq := doW_quiet w k a b c s t
  obtain ⟨hb1, hb2⟩ := doW_blks w k a b c s t
  have hc := h _ hq
  clear h
  have hcH := hide hc
  clear hc
  unfold ptr opv at *
  go_enter Try.func30, Try.ntmps30
  go_wp2_with fail
  refine (unhide hcH).mono ?_
  rintro e w1 ⟨rfl, hch, hP⟩
  have b1 := hch.blk hb1 (fun h => by have := hS _ h; omega)
  have b2 := hch.blk hb2 (fun h => by have := hS _ h; omega)
  clear hb1 hb2 hcH
  have c1 := b1.cell
  have c2 := b2.cell
  have f1 := b1.frozen
  have f2 := b2.frozen
  have fin : ∀ w', Chg (fun x => x = w.heap.size + 1 ∨ x = w.heap.size + 2) w1 w' → Did S P w w' := by
    intro w' hw'
    refine ⟨?_, w1, hP, hw'⟩
    exact Chg.trans' (Chg.trans' (hq.chg S) hch (fun _ _ h => h)) hw' (fun i hi h => by omega)
  have finH := hide fin
  clear fin hq hP hch
  have n12 : w.heap.size + 1 ≠ w.heap.size + 2 := by omega
  go_wp2
  refine bodyPost_ret (v := ansv E N M ⟨#[]⟩) (results_blk (u := 65) (cs := [.int .i64 E, .int .i64 N, .int .i64 M, .string ⟨#[]⟩]) Try.results30 rfl Try.isAgg65 Try.sizeOf65 ?_) rfl ⟨rfl, unhide finH _ ?_⟩
  · exact (((((((b1.set_other n12 _).set_other n12 _).set_other n12 _).set 0 _).set 1 _).set 2 _).set 3 _)
  · exact (((((((Chg.refl (fun x => x = w.heap.size + 1 ∨ x = w.heap.size + 2) w1).setCell (.inl (.inr rfl)) _).setCell (.inl (.inr rfl)) _).setCell (.inl (.inr rfl)) _).setCell (.inl (.inl rfl)) _).setCell (.inl (.inl rfl)) _).setCell (.inl (.inl rfl)) _).setCell (.inl (.inl rfl)) _

set_option maxHeartbeats 1000000 in
theorem do_show_of (w : World) (l : Nat) (a b c : Int) (s t : ByteArray) (R : ByteArray) (P : World → Prop) (S : Nat → Prop) (hS : ∀ x, S x → x < w.heap.size)
    (h : ∀ W, Quiet w W → Calls Try.prog 21 #[ptr l] W fun e w1 => e = .returned (.string R) ∧ Chg S W w1 ∧ P w1) :
    Calls Try.prog 30 #[ptr l, opv 9 a b c s t] w fun e w' => e = .returned (ansv 0 0 0 R) ∧ Did S P w w' := by
  have hq := doW_quiet w 9 a b c s t
  obtain ⟨hb1, hb2⟩ := doW_blks w 9 a b c s t
  have hc := h _ hq
  clear h
  have hcH := hide hc
  clear hc
  unfold ptr opv at *
  go_enter Try.func30, Try.ntmps30
  go_wp2_with fail
  refine (unhide hcH).mono ?_
  rintro e w1 ⟨rfl, hch, hP⟩
  have b1 := hch.blk hb1 (fun h => by have := hS _ h; omega)
  have b2 := hch.blk hb2 (fun h => by have := hS _ h; omega)
  clear hb1 hb2 hcH
  have c1 := b1.cell
  have c2 := b2.cell
  have f1 := b1.frozen
  have f2 := b2.frozen
  have fin : ∀ w', Chg (fun x => x = w.heap.size + 1 ∨ x = w.heap.size + 2) w1 w' → Did S P w w' := by
    intro w' hw'
    refine ⟨?_, w1, hP, hw'⟩
    exact Chg.trans' (Chg.trans' (hq.chg S) hch (fun _ _ h => h)) hw' (fun i hi h => by omega)
  have finH := hide fin
  clear fin hq hP hch
  have n12 : w.heap.size + 1 ≠ w.heap.size + 2 := by omega
  go_wp2
  refine bodyPost_ret (v := ansv 0 0 0 R) (results_blk (u := 65) (cs := [.int .i64 0, .int .i64 0, .int .i64 0, .string R]) Try.results30 rfl Try.isAgg65 Try.sizeOf65 ?_) rfl ⟨rfl, unhide finH _ ?_⟩
  · exact (((((b1.set_other n12 _).set 0 _).set 1 _).set 2 _).set 3 _)
  · exact (((((Chg.refl (fun x => x = w.heap.size + 1 ∨ x = w.heap.size + 2) w1).setCell (.inl (.inr rfl)) _).setCell (.inl (.inl rfl)) _).setCell (.inl (.inl rfl)) _).setCell (.inl (.inl rfl)) _).setCell (.inl (.inl rfl)) _

set_option maxHeartbeats 1000000 in
theorem do_check_of (w : World) (l : Nat) (a b c : Int) (s t : ByteArray)  (P : World → Prop) (S : Nat → Prop) (hS : ∀ x, S x → x < w.heap.size)
    (h : ∀ W, Quiet w W → Calls Try.prog 47 #[ptr l] W fun e w1 => e = .returned (.bool true) ∧ Chg S W w1 ∧ P w1) :
    Calls Try.prog 30 #[ptr l, opv 10 a b c s t] w fun e w' => e = .returned (ansv 0 1 0 ⟨#[]⟩) ∧ Did S P w w' := by
  have hq := doW_quiet w 10 a b c s t
  obtain ⟨hb1, hb2⟩ := doW_blks w 10 a b c s t
  have hc := h _ hq
  clear h
  have hcH := hide hc
  clear hc
  unfold ptr opv at *
  go_enter Try.func30, Try.ntmps30
  go_wp2_with fail
  refine (unhide hcH).mono ?_
  rintro e w1 ⟨rfl, hch, hP⟩
  have b1 := hch.blk hb1 (fun h => by have := hS _ h; omega)
  have b2 := hch.blk hb2 (fun h => by have := hS _ h; omega)
  clear hb1 hb2 hcH
  have c1 := b1.cell
  have c2 := b2.cell
  have f1 := b1.frozen
  have f2 := b2.frozen
  have fin : ∀ w', Chg (fun x => x = w.heap.size + 1 ∨ x = w.heap.size + 2) w1 w' → Did S P w w' := by
    intro w' hw'
    refine ⟨?_, w1, hP, hw'⟩
    exact Chg.trans' (Chg.trans' (hq.chg S) hch (fun _ _ h => h)) hw' (fun i hi h => by omega)
  have finH := hide fin
  clear fin hq hP hch
  have n12 : w.heap.size + 1 ≠ w.heap.size + 2 := by omega
  go_wp2
  refine bodyPost_ret (v := ansv 0 1 0 ⟨#[]⟩) (results_blk (u := 65) (cs := [.int .i64 0, .int .i64 1, .int .i64 0, .string ⟨#[]⟩]) Try.results30 rfl Try.isAgg65 Try.sizeOf65 ?_) rfl ⟨rfl, unhide finH _ ?_⟩
  · exact (((((b1.set_other n12 _).set 0 _).set 1 _).set 2 _).set 3 _)
  · exact (((((Chg.refl (fun x => x = w.heap.size + 1 ∨ x = w.heap.size + 2) w1).setCell (.inl (.inr rfl)) _).setCell (.inl (.inl rfl)) _).setCell (.inl (.inl rfl)) _).setCell (.inl (.inl rfl)) _).setCell (.inl (.inl rfl)) _

set_option maxHeartbeats 1000000 in
theorem do_none6_of (w : World) (l : Nat) (a b c : Int) (s t : ByteArray) :
    Calls Try.prog 30 #[ptr l, opv 6 a b c s t] w fun e w' => e = .returned (ansv 0 0 0 ⟨#[]⟩) ∧ Quiet w w' := by
  have hq := doW_quiet w 6 a b c s t
  unfold ptr opv at *
  go_enter Try.func30, Try.ntmps30
  go_wp2
  refine bodyPost_ret (v := ansv 0 0 0 ⟨#[]⟩) (by simp [results, Try.results30, go_sem, ansv]) rfl ⟨rfl, ?_⟩
  exact hq

set_option maxHeartbeats 1000000 in
theorem do_none7_of (w : World) (l : Nat) (a b c : Int) (s t : ByteArray) :
    Calls Try.prog 30 #[ptr l, opv 7 a b c s t] w fun e w' => e = .returned (ansv 0 0 0 ⟨#[]⟩) ∧ Quiet w w' := by
  have hq := doW_quiet w 7 a b c s t
  unfold ptr opv at *
  go_enter Try.func30, Try.ntmps30
  go_wp2
  refine bodyPost_ret (v := ansv 0 0 0 ⟨#[]⟩) (by simp [results, Try.results30, go_sem, ansv]) rfl ⟨rfl, ?_⟩
  exact hq

set_option maxHeartbeats 1000000 in
theorem do_none8_of (w : World) (l : Nat) (a b c : Int) (s t : ByteArray) :
    Calls Try.prog 30 #[ptr l, opv 8 a b c s t] w fun e w' => e = .returned (ansv 0 0 0 ⟨#[]⟩) ∧ Quiet w w' := by
  have hq := doW_quiet w 8 a b c s t
  unfold ptr opv at *
  go_enter Try.func30, Try.ntmps30
  go_wp2
  refine bodyPost_ret (v := ansv 0 0 0 ⟨#[]⟩) (by simp [results, Try.results30, go_sem, ansv]) rfl ⟨rfl, ?_⟩
  exact hq

set_option maxHeartbeats 1000000 in
theorem dom_step_of (w : World) (l : Nat) (a b c : Int) (s t : ByteArray) (k N M E : Int) (k6 : (k == 6) = false) (k7 : (k == 7) = false) (k8 : (k == 8) = false) (k9 : (k == 9) = false) (k10 : (k == 10) = false) (P : World → Prop) (S : Nat → Prop) (hS : ∀ x, S x → x < w.heap.size)
    (h : ∀ W, Quiet w W → Calls Try.prog 50 #[ptr l, .int .i64 k, .int .i64 b, .int .i64 c] W fun e w1 => e = .returned (.tuple #[.int .i64 N, .int .i64 M, .int .i64 E]) ∧ Chg S W w1 ∧ P w1) :
    Calls Try.prog 31 #[ptr l, opv k a b c s t] w fun e w' => e = .returned (ansv E N M ⟨#[]⟩) ∧ Did S P w w' := by
  have hq := doW_quiet w k a b c s t
  obtain ⟨hb1, hb2⟩ := doW_blks w k a b c s t
  have hc := h _ hq
  clear h
  have hcH := hide hc
  clear hc
  unfold ptr opv at *
  go_enter Try.func31, Try.ntmps31
  go_wp2_with fail
  refine (unhide hcH).mono ?_
  rintro e w1 ⟨rfl, hch, hP⟩
  have b1 := hch.blk hb1 (fun h => by have := hS _ h; omega)
  have b2 := hch.blk hb2 (fun h => by have := hS _ h; omega)
  clear hb1 hb2 hcH
  have c1 := b1.cell
  have c2 := b2.cell
  have f1 := b1.frozen
  have f2 := b2.frozen
  have fin : ∀ w', Chg (fun x => x = w.heap.size + 1 ∨ x = w.heap.size + 2) w1 w' → Did S P w w' := by
    intro w' hw'
    refine ⟨?_, w1, hP, hw'⟩
    exact Chg.trans' (Chg.trans' (hq.chg S) hch (fun _ _ h => h)) hw' (fun i hi h => by omega)
  have finH := hide fin
  clear fin hq hP hch
  have n12 : w.heap.size + 1 ≠ w.heap.size + 2 := by omega
  go_wp2
  refine bodyPost_ret (v := ansv E N M ⟨#[]⟩) (results_blk (u := 65) (cs := [.int .i64 E, .int .i64 N, .int .i64 M, .string ⟨#[]⟩]) Try.results31 rfl Try.isAgg65 Try.sizeOf65 ?_) rfl ⟨rfl, unhide finH _ ?_⟩
  · exact (((((((b1.set_other n12 _).set_other n12 _).set_other n12 _).set 0 _).set 1 _).set 2 _).set 3 _)
  · exact (((((((Chg.refl (fun x => x = w.heap.size + 1 ∨ x = w.heap.size + 2) w1).setCell (.inl (.inr rfl)) _).setCell (.inl (.inr rfl)) _).setCell (.inl (.inr rfl)) _).setCell (.inl (.inl rfl)) _).setCell (.inl (.inl rfl)) _).setCell (.inl (.inl rfl)) _).setCell (.inl (.inl rfl)) _

set_option maxHeartbeats 1000000 in
theorem dom_show_of (w : World) (l : Nat) (a b c : Int) (s t : ByteArray) (R : ByteArray) (P : World → Prop) (S : Nat → Prop) (hS : ∀ x, S x → x < w.heap.size)
    (h : ∀ W, Quiet w W → Calls Try.prog 48 #[ptr l] W fun e w1 => e = .returned (.string R) ∧ Chg S W w1 ∧ P w1) :
    Calls Try.prog 31 #[ptr l, opv 9 a b c s t] w fun e w' => e = .returned (ansv 0 0 0 R) ∧ Did S P w w' := by
  have hq := doW_quiet w 9 a b c s t
  obtain ⟨hb1, hb2⟩ := doW_blks w 9 a b c s t
  have hc := h _ hq
  clear h
  have hcH := hide hc
  clear hc
  unfold ptr opv at *
  go_enter Try.func31, Try.ntmps31
  go_wp2_with fail
  refine (unhide hcH).mono ?_
  rintro e w1 ⟨rfl, hch, hP⟩
  have b1 := hch.blk hb1 (fun h => by have := hS _ h; omega)
  have b2 := hch.blk hb2 (fun h => by have := hS _ h; omega)
  clear hb1 hb2 hcH
  have c1 := b1.cell
  have c2 := b2.cell
  have f1 := b1.frozen
  have f2 := b2.frozen
  have fin : ∀ w', Chg (fun x => x = w.heap.size + 1 ∨ x = w.heap.size + 2) w1 w' → Did S P w w' := by
    intro w' hw'
    refine ⟨?_, w1, hP, hw'⟩
    exact Chg.trans' (Chg.trans' (hq.chg S) hch (fun _ _ h => h)) hw' (fun i hi h => by omega)
  have finH := hide fin
  clear fin hq hP hch
  have n12 : w.heap.size + 1 ≠ w.heap.size + 2 := by omega
  go_wp2
  refine bodyPost_ret (v := ansv 0 0 0 R) (results_blk (u := 65) (cs := [.int .i64 0, .int .i64 0, .int .i64 0, .string R]) Try.results31 rfl Try.isAgg65 Try.sizeOf65 ?_) rfl ⟨rfl, unhide finH _ ?_⟩
  · exact (((((b1.set_other n12 _).set 0 _).set 1 _).set 2 _).set 3 _)
  · exact (((((Chg.refl (fun x => x = w.heap.size + 1 ∨ x = w.heap.size + 2) w1).setCell (.inl (.inr rfl)) _).setCell (.inl (.inl rfl)) _).setCell (.inl (.inl rfl)) _).setCell (.inl (.inl rfl)) _).setCell (.inl (.inl rfl)) _

set_option maxHeartbeats 1000000 in
theorem dom_check_of (w : World) (l : Nat) (a b c : Int) (s t : ByteArray)  (P : World → Prop) (S : Nat → Prop) (hS : ∀ x, S x → x < w.heap.size)
    (h : ∀ W, Quiet w W → Calls Try.prog 49 #[ptr l] W fun e w1 => e = .returned (.bool true) ∧ Chg S W w1 ∧ P w1) :
    Calls Try.prog 31 #[ptr l, opv 10 a b c s t] w fun e w' => e = .returned (ansv 0 1 0 ⟨#[]⟩) ∧ Did S P w w' := by
  have hq := doW_quiet w 10 a b c s t
  obtain ⟨hb1, hb2⟩ := doW_blks w 10 a b c s t
  have hc := h _ hq
  clear h
  have hcH := hide hc
  clear hc
  unfold ptr opv at *
  go_enter Try.func31, Try.ntmps31
  go_wp2_with fail
  refine (unhide hcH).mono ?_
  rintro e w1 ⟨rfl, hch, hP⟩
  have b1 := hch.blk hb1 (fun h => by have := hS _ h; omega)
  have b2 := hch.blk hb2 (fun h => by have := hS _ h; omega)
  clear hb1 hb2 hcH
  have c1 := b1.cell
  have c2 := b2.cell
  have f1 := b1.frozen
  have f2 := b2.frozen
  have fin : ∀ w', Chg (fun x => x = w.heap.size + 1 ∨ x = w.heap.size + 2) w1 w' → Did S P w w' := by
    intro w' hw'
    refine ⟨?_, w1, hP, hw'⟩
    exact Chg.trans' (Chg.trans' (hq.chg S) hch (fun _ _ h => h)) hw' (fun i hi h => by omega)
  have finH := hide fin
  clear fin hq hP hch
  have n12 : w.heap.size + 1 ≠ w.heap.size + 2 := by omega
  go_wp2
  refine bodyPost_ret (v := ansv 0 1 0 ⟨#[]⟩) (results_blk (u := 65) (cs := [.int .i64 0, .int .i64 1, .int .i64 0, .string ⟨#[]⟩]) Try.results31 rfl Try.isAgg65 Try.sizeOf65 ?_) rfl ⟨rfl, unhide finH _ ?_⟩
  · exact (((((b1.set_other n12 _).set 0 _).set 1 _).set 2 _).set 3 _)
  · exact (((((Chg.refl (fun x => x = w.heap.size + 1 ∨ x = w.heap.size + 2) w1).setCell (.inl (.inr rfl)) _).setCell (.inl (.inl rfl)) _).setCell (.inl (.inl rfl)) _).setCell (.inl (.inl rfl)) _).setCell (.inl (.inl rfl)) _

set_option maxHeartbeats 1000000 in
theorem dom_none6_of (w : World) (l : Nat) (a b c : Int) (s t : ByteArray) :
    Calls Try.prog 31 #[ptr l, opv 6 a b c s t] w fun e w' => e = .returned (ansv 0 0 0 ⟨#[]⟩) ∧ Quiet w w' := by
  have hq := doW_quiet w 6 a b c s t
  unfold ptr opv at *
  go_enter Try.func31, Try.ntmps31
  go_wp2
  refine bodyPost_ret (v := ansv 0 0 0 ⟨#[]⟩) (by simp [results, Try.results31, go_sem, ansv]) rfl ⟨rfl, ?_⟩
  exact hq

set_option maxHeartbeats 1000000 in
theorem dom_none7_of (w : World) (l : Nat) (a b c : Int) (s t : ByteArray) :
    Calls Try.prog 31 #[ptr l, opv 7 a b c s t] w fun e w' => e = .returned (ansv 0 0 0 ⟨#[]⟩) ∧ Quiet w w' := by
  have hq := doW_quiet w 7 a b c s t
  unfold ptr opv at *
  go_enter Try.func31, Try.ntmps31
  go_wp2
  refine bodyPost_ret (v := ansv 0 0 0 ⟨#[]⟩) (by simp [results, Try.results31, go_sem, ansv]) rfl ⟨rfl, ?_⟩
  exact hq

set_option maxHeartbeats 1000000 in
theorem dom_none8_of (w : World) (l : Nat) (a b c : Int) (s t : ByteArray) :
    Calls Try.prog 31 #[ptr l, opv 8 a b c s t] w fun e w' => e = .returned (ansv 0 0 0 ⟨#[]⟩) ∧ Quiet w w' := by
  have hq := doW_quiet w 8 a b c s t
  unfold ptr opv at *
  go_enter Try.func31, Try.ntmps31
  go_wp2
  refine bodyPost_ret (v := ansv 0 0 0 ⟨#[]⟩) (by simp [results, Try.results31, go_sem, ansv]) rfl ⟨rfl, ?_⟩
  exact hq
end Go.Proofs.Qxb6500367a
