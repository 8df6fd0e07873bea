/-
  THE THIN PLAYERS Do AND DoM, KIND BY KIND, over whatever contract the callee has. (gen4do.py)
-/
import Derived.Test.Qxb6500364aPlain
import Derived.Test.Qxb6500364aLibB
namespace Go.Proofs.Qxb6500364a
open Go.RowKit Go.Qx
set_option linter.unusedSimpArgs false
set_option linter.unusedVariables false

/-- A step of the script as a value. -/
def opv (k a b c : Int) (s t : ByteArray) : Value := .agg #[.int .i64 k, .int .i64 a, .int .i64 b, .int .i64 c, .string s, .string t]

/-- An answer's cells. -/
def ansC (e n m : Int) (s : ByteArray) : List Value := [.int .i64 e, .int .i64 n, .int .i64 m, .string s]
def ansv (e n m : Int) (s : ByteArray) : Value := .agg (ansC e n m s).toArray

def doW (w : World) (k a b c : Int) (s t : ByteArray) : World :=
  (((w.alloc (.cells #[.int .i64 k, .int .i64 a, .int .i64 b, .int .i64 c, .string s, .string t] 32)).alloc (.cells #[.int .i64 0, .int .i64 0, .int .i64 0, .string ⟨#[]⟩] 36)).alloc (.cells #[.int .i64 0, .int .i64 0, .int .i64 0, .string ⟨#[]⟩] 36))

theorem doW_quiet (w : World) (k a b c : Int) (s t : ByteArray) : Quiet w (doW w k a b c s t) := (((Chg.refl _ _).alloc _).alloc _).alloc _

theorem doW_blks (w : World) (k a b c : Int) (s t : ByteArray) : Blk (doW w k a b c s t) (w.heap.size + 1) 36 [.int .i64 0, .int .i64 0, .int .i64 0, .string ⟨#[]⟩] ∧ Blk (doW w k a b c s t) (w.heap.size + 2) 36 [.int .i64 0, .int .i64 0, .int .i64 0, .string ⟨#[]⟩] :=
  ⟨(Blk.at_new (by simp)).alloc _, Blk.at_new (by simp)⟩

/-- What a player leaves: the callee's world, but for the player's own two boxes. -/
def Did (S : Nat → Prop) (P : World → Prop) (w w' : World) : Prop :=
  Chg S w w' ∧ ∃ w1, P w1 ∧ Chg (fun x => x = w.heap.size + 1 ∨ x = w.heap.size + 2) w1 w'

set_option maxRecDepth 100000 in
set_option maxHeartbeats 4000000 in
theorem do_link_of (w : World) (l : Nat) (a b c : Int) (s t : ByteArray) (E : Int) (P : World → Prop) (S : Nat → Prop) (hS : ∀ x, S x → x < w.heap.size)
    (h : ∀ W, Quiet w W → Calls Try.prog 25 #[ptr l, .int .i64 a, .int .i64 b, .int .i64 c] W fun e w1 => e = .returned (.int .i64 E) ∧ Chg S W w1 ∧ P w1) :
    Calls Try.prog 15 #[ptr l, opv 1 a b c s t] w fun e w' => e = .returned (ansv E 0 0 ⟨#[]⟩) ∧ Did S P w w' := by
  have hq := doW_quiet w 1 a b c s t
  obtain ⟨hb1, hb2⟩ := doW_blks w 1 a b c s t
  have hc := h _ hq
  clear h
  have hcH := hide hc
  clear hc
  unfold ptr opv at *
  go_enter Try.func15, Try.ntmps15
  go_wp2_with fail
  refine (unhide hcH).mono ?_
  rintro e w1 ⟨rfl, hch, hP⟩
  have b1 := hch.blk hb1 (fun h => by have := hS _ h; omega)
  have b2 := hch.blk hb2 (fun h => by have := hS _ h; omega)
  clear hb1 hb2 hcH
  have c1 := b1.cell
  have c2 := b2.cell
  have f1 := b1.frozen
  have f2 := b2.frozen
  have fin : ∀ w', Chg (fun x => x = w.heap.size + 1 ∨ x = w.heap.size + 2) w1 w' → Did S P w w' := by
    intro w' hw'
    refine ⟨?_, w1, hP, hw'⟩
    exact Chg.trans' (Chg.trans' (hq.chg S) hch (fun _ _ h => h)) hw' (fun i hi h => by omega)
  have finH := hide fin
  clear fin hq hP hch
  have n12 : w.heap.size + 1 ≠ w.heap.size + 2 := by omega
  go_wp2
  refine bodyPost_ret (v := ansv E 0 0 ⟨#[]⟩) (results_blk (u := 36) (cs := ansC E 0 0 ⟨#[]⟩) Try.results15 rfl Try.isAgg36 Try.sizeOf36 ?_) rfl ⟨rfl, unhide finH _ ?_⟩
  · exact (((((b1.set_other n12 _).set 0 _).set 1 _).set 2 _).set 3 _)
  · exact (((((Chg.refl (fun x => x = w.heap.size + 1 ∨ x = w.heap.size + 2) w1).setCell (.inl (.inr rfl)) _).setCell (.inl (.inl rfl)) _).setCell (.inl (.inl rfl)) _).setCell (.inl (.inl rfl)) _).setCell (.inl (.inl rfl)) _

set_option maxRecDepth 100000 in
set_option maxHeartbeats 4000000 in
theorem do_unlink_of (w : World) (l : Nat) (a b c : Int) (s t : ByteArray) (E : Int) (P : World → Prop) (S : Nat → Prop) (hS : ∀ x, S x → x < w.heap.size)
    (h : ∀ W, Quiet w W → Calls Try.prog 26 #[ptr l, .int .i64 a, .int .i64 b] W fun e w1 => e = .returned (.int .i64 E) ∧ Chg S W w1 ∧ P w1) :
    Calls Try.prog 15 #[ptr l, opv 2 a b c s t] w fun e w' => e = .returned (ansv E 0 0 ⟨#[]⟩) ∧ Did S P w w' := by
  have hq := doW_quiet w 2 a b c s t
  obtain ⟨hb1, hb2⟩ := doW_blks w 2 a b c s t
  have hc := h _ hq
  clear h
  have hcH := hide hc
  clear hc
  unfold ptr opv at *
  go_enter Try.func15, Try.ntmps15
  go_wp2_with fail
  refine (unhide hcH).mono ?_
  rintro e w1 ⟨rfl, hch, hP⟩
  have b1 := hch.blk hb1 (fun h => by have := hS _ h; omega)
  have b2 := hch.blk hb2 (fun h => by have := hS _ h; omega)
  clear hb1 hb2 hcH
  have c1 := b1.cell
  have c2 := b2.cell
  have f1 := b1.frozen
  have f2 := b2.frozen
  have fin : ∀ w', Chg (fun x => x = w.heap.size + 1 ∨ x = w.heap.size + 2) w1 w' → Did S P w w' := by
    intro w' hw'
    refine ⟨?_, w1, hP, hw'⟩
    exact Chg.trans' (Chg.trans' (hq.chg S) hch (fun _ _ h => h)) hw' (fun i hi h => by omega)
  have finH := hide fin
  clear fin hq hP hch
  have n12 : w.heap.size + 1 ≠ w.heap.size + 2 := by omega
  go_wp2
  refine bodyPost_ret (v := ansv E 0 0 ⟨#[]⟩) (results_blk (u := 36) (cs := ansC E 0 0 ⟨#[]⟩) Try.results15 rfl Try.isAgg36 Try.sizeOf36 ?_) rfl ⟨rfl, unhide finH _ ?_⟩
  · exact (((((b1.set_other n12 _).set 0 _).set 1 _).set 2 _).set 3 _)
  · exact (((((Chg.refl (fun x => x = w.heap.size + 1 ∨ x = w.heap.size + 2) w1).setCell (.inl (.inr rfl)) _).setCell (.inl (.inl rfl)) _).setCell (.inl (.inl rfl)) _).setCell (.inl (.inl rfl)) _).setCell (.inl (.inl rfl)) _

set_option maxRecDepth 100000 in
set_option maxHeartbeats 4000000 in
theorem do_deliver_of (w : World) (l : Nat) (a b c : Int) (s t : ByteArray) (E : Int) (P : World → Prop) (S : Nat → Prop) (hS : ∀ x, S x → x < w.heap.size)
    (h : ∀ W, Quiet w W → Calls Try.prog 27 #[ptr l, .int .i64 a, .int .i64 b] W fun e w1 => e = .returned (.int .i64 E) ∧ Chg S W w1 ∧ P w1) :
    Calls Try.prog 15 #[ptr l, opv 3 a b c s t] w fun e w' => e = .returned (ansv E 0 0 ⟨#[]⟩) ∧ Did S P w w' := by
  have hq := doW_quiet w 3 a b c s t
  obtain ⟨hb1, hb2⟩ := doW_blks w 3 a b c s t
  have hc := h _ hq
  clear h
  have hcH := hide hc
  clear hc
  unfold ptr opv at *
  go_enter Try.func15, Try.ntmps15
  go_wp2_with fail
  refine (unhide hcH).mono ?_
  rintro e w1 ⟨rfl, hch, hP⟩
  have b1 := hch.blk hb1 (fun h => by have := hS _ h; omega)
  have b2 := hch.blk hb2 (fun h => by have := hS _ h; omega)
  clear hb1 hb2 hcH
  have c1 := b1.cell
  have c2 := b2.cell
  have f1 := b1.frozen
  have f2 := b2.frozen
  have fin : ∀ w', Chg (fun x => x = w.heap.size + 1 ∨ x = w.heap.size + 2) w1 w' → Did S P w w' := by
    intro w' hw'
    refine ⟨?_, w1, hP, hw'⟩
    exact Chg.trans' (Chg.trans' (hq.chg S) hch (fun _ _ h => h)) hw' (fun i hi h => by omega)
  have finH := hide fin
  clear fin hq hP hch
  have n12 : w.heap.size + 1 ≠ w.heap.size + 2 := by omega
  go_wp2
  refine bodyPost_ret (v := ansv E 0 0 ⟨#[]⟩) (results_blk (u := 36) (cs := ansC E 0 0 ⟨#[]⟩) Try.results15 rfl Try.isAgg36 Try.sizeOf36 ?_) rfl ⟨rfl, unhide finH _ ?_⟩
  · exact (((((b1.set_other n12 _).set 0 _).set 1 _).set 2 _).set 3 _)
  · exact (((((Chg.refl (fun x => x = w.heap.size + 1 ∨ x = w.heap.size + 2) w1).setCell (.inl (.inr rfl)) _).setCell (.inl (.inl rfl)) _).setCell (.inl (.inl rfl)) _).setCell (.inl (.inl rfl)) _).setCell (.inl (.inl rfl)) _

set_option maxRecDepth 100000 in
set_option maxHeartbeats 4000000 in
theorem do_route_of (w : World) (l : Nat) (a b c : Int) (s t : ByteArray) (E N M : Int) (P : World → Prop) (S : Nat → Prop) (hS : ∀ x, S x → x < w.heap.size)
    (h : ∀ W, Quiet w W → Calls Try.prog 28 #[ptr l, .int .i64 a, .int .i64 b] W fun e w1 => e = .returned (.tuple #[.int .i64 N, .int .i64 M, .int .i64 E]) ∧ Chg S W w1 ∧ P w1) :
    Calls Try.prog 15 #[ptr l, opv 4 a b c s t] w fun e w' => e = .returned (ansv E N M ⟨#[]⟩) ∧ Did S P w w' := by
  have hq := doW_quiet w 4 a b c s t
  obtain ⟨hb1, hb2⟩ := doW_blks w 4 a b c s t
  have hc := h _ hq
  clear h
  have hcH := hide hc
  clear hc
  unfold ptr opv at *
  go_enter Try.func15, Try.ntmps15
  go_wp2_with fail
  refine (unhide hcH).mono ?_
  rintro e w1 ⟨rfl, hch, hP⟩
  have b1 := hch.blk hb1 (fun h => by have := hS _ h; omega)
  have b2 := hch.blk hb2 (fun h => by have := hS _ h; omega)
  clear hb1 hb2 hcH
  have c1 := b1.cell
  have c2 := b2.cell
  have f1 := b1.frozen
  have f2 := b2.frozen
  have fin : ∀ w', Chg (fun x => x = w.heap.size + 1 ∨ x = w.heap.size + 2) w1 w' → Did S P w w' := by
    intro w' hw'
    refine ⟨?_, w1, hP, hw'⟩
    exact Chg.trans' (Chg.trans' (hq.chg S) hch (fun _ _ h => h)) hw' (fun i hi h => by omega)
  have finH := hide fin
  clear fin hq hP hch
  have n12 : w.heap.size + 1 ≠ w.heap.size + 2 := by omega
  go_wp2
  refine bodyPost_ret (v := ansv E N M ⟨#[]⟩) (results_blk (u := 36) (cs := ansC E N M ⟨#[]⟩) Try.results15 rfl Try.isAgg36 Try.sizeOf36 ?_) rfl ⟨rfl, unhide finH _ ?_⟩
  · exact (((((((b1.set_other n12 _).set_other n12 _).set_other n12 _).set 0 _).set 1 _).set 2 _).set 3 _)
  · exact (((((((Chg.refl (fun x => x = w.heap.size + 1 ∨ x = w.heap.size + 2) w1).setCell (.inl (.inr rfl)) _).setCell (.inl (.inr rfl)) _).setCell (.inl (.inr rfl)) _).setCell (.inl (.inl rfl)) _).setCell (.inl (.inl rfl)) _).setCell (.inl (.inl rfl)) _).setCell (.inl (.inl rfl)) _

set_option maxRecDepth 100000 in
set_option maxHeartbeats 4000000 in
theorem do_show_of (w : World) (l : Nat) (a b c : Int) (s t : ByteArray) (R : ByteArray) (P : World → Prop) (S : Nat → Prop) (hS : ∀ x, S x → x < w.heap.size)
    (h : ∀ W, Quiet w W → Calls Try.prog 11 #[ptr l] W fun e w1 => e = .returned (.string R) ∧ Chg S W w1 ∧ P w1) :
    Calls Try.prog 15 #[ptr l, opv 5 a b c s t] w fun e w' => e = .returned (ansv 0 0 0 R) ∧ Did S P w w' := by
  have hq := doW_quiet w 5 a b c s t
  obtain ⟨hb1, hb2⟩ := doW_blks w 5 a b c s t
  have hc := h _ hq
  clear h
  have hcH := hide hc
  clear hc
  unfold ptr opv at *
  go_enter Try.func15, Try.ntmps15
  go_wp2_with fail
  refine (unhide hcH).mono ?_
  rintro e w1 ⟨rfl, hch, hP⟩
  have b1 := hch.blk hb1 (fun h => by have := hS _ h; omega)
  have b2 := hch.blk hb2 (fun h => by have := hS _ h; omega)
  clear hb1 hb2 hcH
  have c1 := b1.cell
  have c2 := b2.cell
  have f1 := b1.frozen
  have f2 := b2.frozen
  have fin : ∀ w', Chg (fun x => x = w.heap.size + 1 ∨ x = w.heap.size + 2) w1 w' → Did S P w w' := by
    intro w' hw'
    refine ⟨?_, w1, hP, hw'⟩
    exact Chg.trans' (Chg.trans' (hq.chg S) hch (fun _ _ h => h)) hw' (fun i hi h => by omega)
  have finH := hide fin
  clear fin hq hP hch
  have n12 : w.heap.size + 1 ≠ w.heap.size + 2 := by omega
  go_wp2
  refine bodyPost_ret (v := ansv 0 0 0 R) (results_blk (u := 36) (cs := ansC 0 0 0 R) Try.results15 rfl Try.isAgg36 Try.sizeOf36 ?_) rfl ⟨rfl, unhide finH _ ?_⟩
  · exact (((((b1.set_other n12 _).set 0 _).set 1 _).set 2 _).set 3 _)
  · exact (((((Chg.refl (fun x => x = w.heap.size + 1 ∨ x = w.heap.size + 2) w1).setCell (.inl (.inr rfl)) _).setCell (.inl (.inl rfl)) _).setCell (.inl (.inl rfl)) _).setCell (.inl (.inl rfl)) _).setCell (.inl (.inl rfl)) _

set_option maxRecDepth 100000 in
set_option maxHeartbeats 4000000 in
theorem do_check_of (w : World) (l : Nat) (a b c : Int) (s t : ByteArray)  (P : World → Prop) (S : Nat → Prop) (hS : ∀ x, S x → x < w.heap.size)
    (h : ∀ W, Quiet w W → Calls Try.prog 29 #[ptr l] W fun e w1 => e = .returned (.bool true) ∧ Chg S W w1 ∧ P w1) :
    Calls Try.prog 15 #[ptr l, opv 6 a b c s t] w fun e w' => e = .returned (ansv 0 1 0 ⟨#[]⟩) ∧ Did S P w w' := by
  have hq := doW_quiet w 6 a b c s t
  obtain ⟨hb1, hb2⟩ := doW_blks w 6 a b c s t
  have hc := h _ hq
  clear h
  have hcH := hide hc
  clear hc
  unfold ptr opv at *
  go_enter Try.func15, Try.ntmps15
  go_wp2_with fail
  refine (unhide hcH).mono ?_
  rintro e w1 ⟨rfl, hch, hP⟩
  have b1 := hch.blk hb1 (fun h => by have := hS _ h; omega)
  have b2 := hch.blk hb2 (fun h => by have := hS _ h; omega)
  clear hb1 hb2 hcH
  have c1 := b1.cell
  have c2 := b2.cell
  have f1 := b1.frozen
  have f2 := b2.frozen
  have fin : ∀ w', Chg (fun x => x = w.heap.size + 1 ∨ x = w.heap.size + 2) w1 w' → Did S P w w' := by
    intro w' hw'
    refine ⟨?_, w1, hP, hw'⟩
    exact Chg.trans' (Chg.trans' (hq.chg S) hch (fun _ _ h => h)) hw' (fun i hi h => by omega)
  have finH := hide fin
  clear fin hq hP hch
  have n12 : w.heap.size + 1 ≠ w.heap.size + 2 := by omega
  go_wp2
  refine bodyPost_ret (v := ansv 0 1 0 ⟨#[]⟩) (results_blk (u := 36) (cs := ansC 0 1 0 ⟨#[]⟩) Try.results15 rfl Try.isAgg36 Try.sizeOf36 ?_) rfl ⟨rfl, unhide finH _ ?_⟩
  · exact (((((b1.set_other n12 _).set 0 _).set 1 _).set 2 _).set 3 _)
  · exact (((((Chg.refl (fun x => x = w.heap.size + 1 ∨ x = w.heap.size + 2) w1).setCell (.inl (.inr rfl)) _).setCell (.inl (.inl rfl)) _).setCell (.inl (.inl rfl)) _).setCell (.inl (.inl rfl)) _).setCell (.inl (.inl rfl)) _

set_option maxRecDepth 100000 in
set_option maxHeartbeats 4000000 in
theorem do_none_of (w : World) (l : Nat) (k a b c : Int) (s t : ByteArray) (h1 : (k == 1) = false) (h2 : (k == 2) = false) (h3 : (k == 3) = false) (h4 : (k == 4) = false) (h5 : (k == 5) = false) (h6 : (k == 6) = false) :
    Calls Try.prog 15 #[ptr l, opv k a b c s t] w fun e w' => e = .returned (ansv 0 0 0 ⟨#[]⟩) ∧ Quiet w w' := by
  have hq := doW_quiet w k a b c s t
  unfold ptr opv at *
  go_enter Try.func15, Try.ntmps15
  go_wp2
  refine bodyPost_ret (v := ansv 0 0 0 ⟨#[]⟩) (by simp [results, Try.results15, go_sem, ansv, ansC]) rfl ⟨rfl, ?_⟩
  exact hq

set_option maxRecDepth 100000 in
set_option maxHeartbeats 4000000 in
theorem dom_link_of (w : World) (l : Nat) (a b c : Int) (s t : ByteArray) (E : Int) (P : World → Prop) (S : Nat → Prop) (hS : ∀ x, S x → x < w.heap.size)
    (h : ∀ W, Quiet w W → Calls Try.prog 33 #[ptr l, .int .i64 a, .int .i64 b, .int .i64 c] W fun e w1 => e = .returned (.int .i64 E) ∧ Chg S W w1 ∧ P w1) :
    Calls Try.prog 21 #[ptr l, opv 1 a b c s t] w fun e w' => e = .returned (ansv E 0 0 ⟨#[]⟩) ∧ Did S P w w' := by
  have hq := doW_quiet w 1 a b c s t
  obtain ⟨hb1, hb2⟩ := doW_blks w 1 a b c s t
  have hc := h _ hq
  clear h
  have hcH := hide hc
  clear hc
  unfold ptr opv at *
  go_enter Try.func21, Try.ntmps21
  go_wp2_with fail
  refine (unhide hcH).mono ?_
  rintro e w1 ⟨rfl, hch, hP⟩
  have b1 := hch.blk hb1 (fun h => by have := hS _ h; omega)
  have b2 := hch.blk hb2 (fun h => by have := hS _ h; omega)
  clear hb1 hb2 hcH
  have c1 := b1.cell
  have c2 := b2.cell
  have f1 := b1.frozen
  have f2 := b2.frozen
  have fin : ∀ w', Chg (fun x => x = w.heap.size + 1 ∨ x = w.heap.size + 2) w1 w' → Did S P w w' := by
    intro w' hw'
    refine ⟨?_, w1, hP, hw'⟩
    exact Chg.trans' (Chg.trans' (hq.chg S) hch (fun _ _ h => h)) hw' (fun i hi h => by omega)
  have finH := hide fin
  clear fin hq hP hch
  have n12 : w.heap.size + 1 ≠ w.heap.size + 2 := by omega
  go_wp2
  refine bodyPost_ret (v := ansv E 0 0 ⟨#[]⟩) (results_blk (u := 36) (cs := ansC E 0 0 ⟨#[]⟩) Try.results21 rfl Try.isAgg36 Try.sizeOf36 ?_) rfl ⟨rfl, unhide finH _ ?_⟩
  · exact (((((b1.set_other n12 _).set 0 _).set 1 _).set 2 _).set 3 _)
  · exact (((((Chg.refl (fun x => x = w.heap.size + 1 ∨ x = w.heap.size + 2) w1).setCell (.inl (.inr rfl)) _).setCell (.inl (.inl rfl)) _).setCell (.inl (.inl rfl)) _).setCell (.inl (.inl rfl)) _).setCell (.inl (.inl rfl)) _

set_option maxRecDepth 100000 in
set_option maxHeartbeats 4000000 in
theorem dom_unlink_of (w : World) (l : Nat) (a b c : Int) (s t : ByteArray) (E : Int) (P : World → Prop) (S : Nat → Prop) (hS : ∀ x, S x → x < w.heap.size)
    (h : ∀ W, Quiet w W → Calls Try.prog 34 #[ptr l, .int .i64 a, .int .i64 b] W fun e w1 => e = .returned (.int .i64 E) ∧ Chg S W w1 ∧ P w1) :
    Calls Try.prog 21 #[ptr l, opv 2 a b c s t] w fun e w' => e = .returned (ansv E 0 0 ⟨#[]⟩) ∧ Did S P w w' := by
  have hq := doW_quiet w 2 a b c s t
  obtain ⟨hb1, hb2⟩ := doW_blks w 2 a b c s t
  have hc := h _ hq
  clear h
  have hcH := hide hc
  clear hc
  unfold ptr opv at *
  go_enter Try.func21, Try.ntmps21
  go_wp2_with fail
  refine (unhide hcH).mono ?_
  rintro e w1 ⟨rfl, hch, hP⟩
  have b1 := hch.blk hb1 (fun h => by have := hS _ h; omega)
  have b2 := hch.blk hb2 (fun h => by have := hS _ h; omega)
  clear hb1 hb2 hcH
  have c1 := b1.cell
  have c2 := b2.cell
  have f1 := b1.frozen
  have f2 := b2.frozen
  have fin : ∀ w', Chg (fun x => x = w.heap.size + 1 ∨ x = w.heap.size + 2) w1 w' → Did S P w w' := by
    intro w' hw'
    refine ⟨?_, w1, hP, hw'⟩
    exact Chg.trans' (Chg.trans' (hq.chg S) hch (fun _ _ h => h)) hw' (fun i hi h => by omega)
  have finH := hide fin
  clear fin hq hP hch
  have n12 : w.heap.size + 1 ≠ w.heap.size + 2 := by omega
  go_wp2
  refine bodyPost_ret (v := ansv E 0 0 ⟨#[]⟩) (results_blk (u := 36) (cs := ansC E 0 0 ⟨#[]⟩) Try.results21 rfl Try.isAgg36 Try.sizeOf36 ?_) rfl ⟨rfl, unhide finH _ ?_⟩
  · exact (((((b1.set_other n12 _).set 0 _).set 1 _).set 2 _).set 3 _)
  · exact (((((Chg.refl (fun x => x = w.heap.size + 1 ∨ x = w.heap.size + 2) w1).setCell (.inl (.inr rfl)) _).setCell (.inl (.inl rfl)) _).setCell (.inl (.inl rfl)) _).setCell (.inl (.inl rfl)) _).setCell (.inl (.inl rfl)) _

set_option maxRecDepth 100000 in
set_option maxHeartbeats 4000000 in
theorem dom_deliver_of (w : World) (l : Nat) (a b c : Int) (s t : ByteArray) (E : Int) (P : World → Prop) (S : Nat → Prop) (hS : ∀ x, S x → x < w.heap.size)
    (h : ∀ W, Quiet w W → Calls Try.prog 35 #[ptr l, .int .i64 a, .int .i64 b] W fun e w1 => e = .returned (.int .i64 E) ∧ Chg S W w1 ∧ P w1) :
    Calls Try.prog 21 #[ptr l, opv 3 a b c s t] w fun e w' => e = .returned (ansv E 0 0 ⟨#[]⟩) ∧ Did S P w w' := by
  have hq := doW_quiet w 3 a b c s t
  obtain ⟨hb1, hb2⟩ := doW_blks w 3 a b c s t
  have hc := h _ hq
  clear h
  have hcH := hide hc
  clear hc
  unfold ptr opv at *
  go_enter Try.func21, Try.ntmps21
  go_wp2_with fail
  refine (unhide hcH).mono ?_
  rintro e w1 ⟨rfl, hch, hP⟩
  have b1 := hch.blk hb1 (fun h => by have := hS _ h; omega)
  have b2 := hch.blk hb2 (fun h => by have := hS _ h; omega)
  clear hb1 hb2 hcH
  have c1 := b1.cell
  have c2 := b2.cell
  have f1 := b1.frozen
  have f2 := b2.frozen
  have fin : ∀ w', Chg (fun x => x = w.heap.size + 1 ∨ x = w.heap.size + 2) w1 w' → Did S P w w' := by
    intro w' hw'
    refine ⟨?_, w1, hP, hw'⟩
    exact Chg.trans' (Chg.trans' (hq.chg S) hch (fun _ _ h => h)) hw' (fun i hi h => by omega)
  have finH := hide fin
  clear fin hq hP hch
  have n12 : w.heap.size + 1 ≠ w.heap.size + 2 := by omega
  go_wp2
  refine bodyPost_ret (v := ansv E 0 0 ⟨#[]⟩) (results_blk (u := 36) (cs := ansC E 0 0 ⟨#[]⟩) Try.results21 rfl Try.isAgg36 Try.sizeOf36 ?_) rfl ⟨rfl, unhide finH _ ?_⟩
  · exact (((((b1.set_other n12 _).set 0 _).set 1 _).set 2 _).set 3 _)
  · exact (((((Chg.refl (fun x => x = w.heap.size + 1 ∨ x = w.heap.size + 2) w1).setCell (.inl (.inr rfl)) _).setCell (.inl (.inl rfl)) _).setCell (.inl (.inl rfl)) _).setCell (.inl (.inl rfl)) _).setCell (.inl (.inl rfl)) _

set_option maxRecDepth 100000 in
set_option maxHeartbeats 4000000 in
theorem dom_route_of (w : World) (l : Nat) (a b c : Int) (s t : ByteArray) (E N M : Int) (P : World → Prop) (S : Nat → Prop) (hS : ∀ x, S x → x < w.heap.size)
    (h : ∀ W, Quiet w W → Calls Try.prog 36 #[ptr l, .int .i64 a, .int .i64 b] W fun e w1 => e = .returned (.tuple #[.int .i64 N, .int .i64 M, .int .i64 E]) ∧ Chg S W w1 ∧ P w1) :
    Calls Try.prog 21 #[ptr l, opv 4 a b c s t] w fun e w' => e = .returned (ansv E N M ⟨#[]⟩) ∧ Did S P w w' := by
  have hq := doW_quiet w 4 a b c s t
  obtain ⟨hb1, hb2⟩ := doW_blks w 4 a b c s t
  have hc := h _ hq
  clear h
  have hcH := hide hc
  clear hc
  unfold ptr opv at *
  go_enter Try.func21, Try.ntmps21
  go_wp2_with fail
  refine (unhide hcH).mono ?_
  rintro e w1 ⟨rfl, hch, hP⟩
  have b1 := hch.blk hb1 (fun h => by have := hS _ h; omega)
  have b2 := hch.blk hb2 (fun h => by have := hS _ h; omega)
  clear hb1 hb2 hcH
  have c1 := b1.cell
  have c2 := b2.cell
  have f1 := b1.frozen
  have f2 := b2.frozen
  have fin : ∀ w', Chg (fun x => x = w.heap.size + 1 ∨ x = w.heap.size + 2) w1 w' → Did S P w w' := by
    intro w' hw'
    refine ⟨?_, w1, hP, hw'⟩
    exact Chg.trans' (Chg.trans' (hq.chg S) hch (fun _ _ h => h)) hw' (fun i hi h => by omega)
  have finH := hide fin
  clear fin hq hP hch
  have n12 : w.heap.size + 1 ≠ w.heap.size + 2 := by omega
  go_wp2
  refine bodyPost_ret (v := ansv E N M ⟨#[]⟩) (results_blk (u := 36) (cs := ansC E N M ⟨#[]⟩) Try.results21 rfl Try.isAgg36 Try.sizeOf36 ?_) rfl ⟨rfl, unhide finH _ ?_⟩
  · exact (((((((b1.set_other n12 _).set_other n12 _).set_other n12 _).set 0 _).set 1 _).set 2 _).set 3 _)
  · exact (((((((Chg.refl (fun x => x = w.heap.size + 1 ∨ x = w.heap.size + 2) w1).setCell (.inl (.inr rfl)) _).setCell (.inl (.inr rfl)) _).setCell (.inl (.inr rfl)) _).setCell (.inl (.inl rfl)) _).setCell (.inl (.inl rfl)) _).setCell (.inl (.inl rfl)) _).setCell (.inl (.inl rfl)) _

set_option maxRecDepth 100000 in
set_option maxHeartbeats 4000000 in
theorem dom_show_of (w : World) (l : Nat) (a b c : Int) (s t : ByteArray) (R : ByteArray) (P : World → Prop) (S : Nat → Prop) (hS : ∀ x, S x → x < w.heap.size)
    (h : ∀ W, Quiet w W → Calls Try.prog 32 #[ptr l] W fun e w1 => e = .returned (.string R) ∧ Chg S W w1 ∧ P w1) :
    Calls Try.prog 21 #[ptr l, opv 5 a b c s t] w fun e w' => e = .returned (ansv 0 0 0 R) ∧ Did S P w w' := by
  have hq := doW_quiet w 5 a b c s t
  obtain ⟨hb1, hb2⟩ := doW_blks w 5 a b c s t
  have hc := h _ hq
  clear h
  have hcH := hide hc
  clear hc
  unfold ptr opv at *
  go_enter Try.func21, Try.ntmps21
  go_wp2_with fail
  refine (unhide hcH).mono ?_
  rintro e w1 ⟨rfl, hch, hP⟩
  have b1 := hch.blk hb1 (fun h => by have := hS _ h; omega)
  have b2 := hch.blk hb2 (fun h => by have := hS _ h; omega)
  clear hb1 hb2 hcH
  have c1 := b1.cell
  have c2 := b2.cell
  have f1 := b1.frozen
  have f2 := b2.frozen
  have fin : ∀ w', Chg (fun x => x = w.heap.size + 1 ∨ x = w.heap.size + 2) w1 w' → Did S P w w' := by
    intro w' hw'
    refine ⟨?_, w1, hP, hw'⟩
    exact Chg.trans' (Chg.trans' (hq.chg S) hch (fun _ _ h => h)) hw' (fun i hi h => by omega)
  have finH := hide fin
  clear fin hq hP hch
  have n12 : w.heap.size + 1 ≠ w.heap.size + 2 := by omega
  go_wp2
  refine bodyPost_ret (v := ansv 0 0 0 R) (results_blk (u := 36) (cs := ansC 0 0 0 R) Try.results21 rfl Try.isAgg36 Try.sizeOf36 ?_) rfl ⟨rfl, unhide finH _ ?_⟩
  · exact (((((b1.set_other n12 _).set 0 _).set 1 _).set 2 _).set 3 _)
  · exact (((((Chg.refl (fun x => x = w.heap.size + 1 ∨ x = w.heap.size + 2) w1).setCell (.inl (.inr rfl)) _).setCell (.inl (.inl rfl)) _).setCell (.inl (.inl rfl)) _).setCell (.inl (.inl rfl)) _).setCell (.inl (.inl rfl)) _

set_option maxRecDepth 100000 in
set_option maxHeartbeats 4000000 in
theorem dom_check_of (w : World) (l : Nat) (a b c : Int) (s t : ByteArray)  (P : World → Prop) (S : Nat → Prop) (hS : ∀ x, S x → x < w.heap.size)
    (h : ∀ W, Quiet w W → Calls Try.prog 37 #[ptr l] W fun e w1 => e = .returned (.bool true) ∧ Chg S W w1 ∧ P w1) :
    Calls Try.prog 21 #[ptr l, opv 6 a b c s t] w fun e w' => e = .returned (ansv 0 1 0 ⟨#[]⟩) ∧ Did S P w w' := by
  have hq := doW_quiet w 6 a b c s t
  obtain ⟨hb1, hb2⟩ := doW_blks w 6 a b c s t
  have hc := h _ hq
  clear h
  have hcH := hide hc
  clear hc
  unfold ptr opv at *
  go_enter Try.func21, Try.ntmps21
  go_wp2_with fail
  refine (unhide hcH).mono ?_
  rintro e w1 ⟨rfl, hch, hP⟩
  have b1 := hch.blk hb1 (fun h => by have := hS _ h; omega)
  have b2 := hch.blk hb2 (fun h => by have := hS _ h; omega)
  clear hb1 hb2 hcH
  have c1 := b1.cell
  have c2 := b2.cell
  have f1 := b1.frozen
  have f2 := b2.frozen
  have fin : ∀ w', Chg (fun x => x = w.heap.size + 1 ∨ x = w.heap.size + 2) w1 w' → Did S P w w' := by
    intro w' hw'
    refine ⟨?_, w1, hP, hw'⟩
    exact Chg.trans' (Chg.trans' (hq.chg S) hch (fun _ _ h => h)) hw' (fun i hi h => by omega)
  have finH := hide fin
  clear fin hq hP hch
  have n12 : w.heap.size + 1 ≠ w.heap.size + 2 := by omega
  go_wp2
  refine bodyPost_ret (v := ansv 0 1 0 ⟨#[]⟩) (results_blk (u := 36) (cs := ansC 0 1 0 ⟨#[]⟩) Try.results21 rfl Try.isAgg36 Try.sizeOf36 ?_) rfl ⟨rfl, unhide finH _ ?_⟩
  · exact (((((b1.set_other n12 _).set 0 _).set 1 _).set 2 _).set 3 _)
  · exact (((((Chg.refl (fun x => x = w.heap.size + 1 ∨ x = w.heap.size + 2) w1).setCell (.inl (.inr rfl)) _).setCell (.inl (.inl rfl)) _).setCell (.inl (.inl rfl)) _).setCell (.inl (.inl rfl)) _).setCell (.inl (.inl rfl)) _

set_option maxRecDepth 100000 in
set_option maxHeartbeats 4000000 in
theorem dom_none_of (w : World) (l : Nat) (k a b c : Int) (s t : ByteArray) (h1 : (k == 1) = false) (h2 : (k == 2) = false) (h3 : (k == 3) = false) (h4 : (k == 4) = false) (h5 : (k == 5) = false) (h6 : (k == 6) = false) :
    Calls Try.prog 21 #[ptr l, opv k a b c s t] w fun e w' => e = .returned (ansv 0 0 0 ⟨#[]⟩) ∧ Quiet w w' := by
  have hq := doW_quiet w k a b c s t
  unfold ptr opv at *
  go_enter Try.func21, Try.ntmps21
  go_wp2
  refine bodyPost_ret (v := ansv 0 0 0 ⟨#[]⟩) (by simp [results, Try.results21, go_sem, ansv, ansC]) rfl ⟨rfl, ?_⟩
  exact hq
end Go.Proofs.Qxb6500364a
