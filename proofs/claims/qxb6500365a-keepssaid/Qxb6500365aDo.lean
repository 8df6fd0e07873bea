/-
  THE THIN PLAYER Do, KIND BY KIND, over whatever contract the callee has. (gen65do.py)
-/
import Derived.Test.Qxb6500365aPlain
import Derived.Test.Qxb6500365aRow
namespace Go.Proofs.Qxb6500365a
open Go.RowKit Go.Qx
set_option linter.unusedSimpArgs false
set_option linter.unusedVariables false

def ptr (a : Nat) : Value := .pointer (some ⟨a, 0, none⟩)

/-- A step of the script as a value. -/
def opv (k a b c : Int) (s t : ByteArray) : Value := .agg #[.int .i64 k, .int .i64 a, .int .i64 b, .int .i64 c, .string s, .string t]

/-- An answer's cells. -/
def ansC (e n m : Int) (s : ByteArray) : List Value := [.int .i64 e, .int .i64 n, .int .i64 m, .string s]
def ansv (e n m : Int) (s : ByteArray) : Value := .agg (ansC e n m s).toArray

def doW (w : World) (k a b c : Int) (s t : ByteArray) : World :=
  (((w.alloc (.cells #[.int .i64 k, .int .i64 a, .int .i64 b, .int .i64 c, .string s, .string t] 32)).alloc (.cells #[.int .i64 0, .int .i64 0, .int .i64 0, .string ⟨#[]⟩] 42)).alloc (.cells #[.int .i64 0, .int .i64 0, .int .i64 0, .string ⟨#[]⟩] 42))

theorem doW_quiet (w : World) (k a b c : Int) (s t : ByteArray) : Quiet w (doW w k a b c s t) := (((Chg.refl _ _).alloc _).alloc _).alloc _

theorem doW_blks (w : World) (k a b c : Int) (s t : ByteArray) : Blk (doW w k a b c s t) (w.heap.size + 1) 42 [.int .i64 0, .int .i64 0, .int .i64 0, .string ⟨#[]⟩] ∧ Blk (doW w k a b c s t) (w.heap.size + 2) 42 [.int .i64 0, .int .i64 0, .int .i64 0, .string ⟨#[]⟩] :=
  ⟨(Blk.at_new (by simp)).alloc _, Blk.at_new (by simp)⟩

/-- What a player leaves: the callee's world, but for the player's own two boxes. -/
def Did (S : Nat → Prop) (P : World → Prop) (w w' : World) : Prop :=
  Chg S w w' ∧ ∃ w1, P w1 ∧ Chg (fun x => x = w.heap.size + 1 ∨ x = w.heap.size + 2) w1 w'

set_option maxRecDepth 100000 in
set_option maxHeartbeats 4000000 in
theorem do_denom_of (w : World) (l : Nat) (a b c : Int) (s t : ByteArray) (E : Int) (P : World → Prop) (S : Nat → Prop) (hS : ∀ x, S x → x < w.heap.size)
    (h : ∀ W, Quiet w W → Calls Try.prog 22 #[ptr l, .int .i64 a] W fun e w1 => e = .returned (.int .i64 E) ∧ Chg S W w1 ∧ P w1) :
    Calls Try.prog 13 #[ptr l, opv 1 a b c s t] w fun e w' => e = .returned (ansv E 0 0 ⟨#[]⟩) ∧ Did S P w w' := by
  have hq := doW_quiet w 1 a b c s t
  obtain ⟨hb1, hb2⟩ := doW_blks w 1 a b c s t
  have hc := h _ hq
  clear h
  have hcH := hide hc
  clear hc
  unfold ptr opv at *
  go_enter Try.func13, Try.ntmps13
  go_wp2_with fail
  refine (unhide hcH).mono ?_
  rintro e w1 ⟨rfl, hch, hP⟩
  have b1 := hch.blk hb1 (fun h => by have := hS _ h; omega)
  have b2 := hch.blk hb2 (fun h => by have := hS _ h; omega)
  clear hb1 hb2 hcH
  have c1 := b1.cell
  have c2 := b2.cell
  have f1 := b1.frozen
  have f2 := b2.frozen
  have fin : ∀ w', Chg (fun x => x = w.heap.size + 1 ∨ x = w.heap.size + 2) w1 w' → Did S P w w' := by
    intro w' hw'
    refine ⟨?_, w1, hP, hw'⟩
    exact Chg.trans' (Chg.trans' (hq.chg S) hch (fun _ _ h => h)) hw' (fun i hi h => by omega)
  have finH := hide fin
  clear fin hq hP hch
  have n12 : w.heap.size + 1 ≠ w.heap.size + 2 := by omega
  go_wp2
  refine bodyPost_ret (v := ansv E 0 0 ⟨#[]⟩) (results_blk (u := 42) (cs := ansC E 0 0 ⟨#[]⟩) Try.results13 rfl Try.isAgg42 Try.sizeOf42 ?_) rfl ⟨rfl, unhide finH _ ?_⟩
  · exact (((((b1.set_other n12 _).set 0 _).set 1 _).set 2 _).set 3 _)
  · exact (((((Chg.refl (fun x => x = w.heap.size + 1 ∨ x = w.heap.size + 2) w1).setCell (.inl (.inr rfl)) _).setCell (.inl (.inl rfl)) _).setCell (.inl (.inl rfl)) _).setCell (.inl (.inl rfl)) _).setCell (.inl (.inl rfl)) _

set_option maxRecDepth 100000 in
set_option maxHeartbeats 4000000 in
theorem do_feed_of (w : World) (l : Nat) (a b c : Int) (s t : ByteArray) (E : Int) (P : World → Prop) (S : Nat → Prop) (hS : ∀ x, S x → x < w.heap.size)
    (h : ∀ W, Quiet w W → Calls Try.prog 23 #[ptr l, .int .i64 a, .int .i64 b, .int .i64 c] W fun e w1 => e = .returned (.int .i64 E) ∧ Chg S W w1 ∧ P w1) :
    Calls Try.prog 13 #[ptr l, opv 2 a b c s t] w fun e w' => e = .returned (ansv E 0 0 ⟨#[]⟩) ∧ Did S P w w' := by
  have hq := doW_quiet w 2 a b c s t
  obtain ⟨hb1, hb2⟩ := doW_blks w 2 a b c s t
  have hc := h _ hq
  clear h
  have hcH := hide hc
  clear hc
  unfold ptr opv at *
  go_enter Try.func13, Try.ntmps13
  go_wp2_with fail
  refine (unhide hcH).mono ?_
  rintro e w1 ⟨rfl, hch, hP⟩
  have b1 := hch.blk hb1 (fun h => by have := hS _ h; omega)
  have b2 := hch.blk hb2 (fun h => by have := hS _ h; omega)
  clear hb1 hb2 hcH
  have c1 := b1.cell
  have c2 := b2.cell
  have f1 := b1.frozen
  have f2 := b2.frozen
  have fin : ∀ w', Chg (fun x => x = w.heap.size + 1 ∨ x = w.heap.size + 2) w1 w' → Did S P w w' := by
    intro w' hw'
    refine ⟨?_, w1, hP, hw'⟩
    exact Chg.trans' (Chg.trans' (hq.chg S) hch (fun _ _ h => h)) hw' (fun i hi h => by omega)
  have finH := hide fin
  clear fin hq hP hch
  have n12 : w.heap.size + 1 ≠ w.heap.size + 2 := by omega
  go_wp2
  refine bodyPost_ret (v := ansv E 0 0 ⟨#[]⟩) (results_blk (u := 42) (cs := ansC E 0 0 ⟨#[]⟩) Try.results13 rfl Try.isAgg42 Try.sizeOf42 ?_) rfl ⟨rfl, unhide finH _ ?_⟩
  · exact (((((b1.set_other n12 _).set 0 _).set 1 _).set 2 _).set 3 _)
  · exact (((((Chg.refl (fun x => x = w.heap.size + 1 ∨ x = w.heap.size + 2) w1).setCell (.inl (.inr rfl)) _).setCell (.inl (.inl rfl)) _).setCell (.inl (.inl rfl)) _).setCell (.inl (.inl rfl)) _).setCell (.inl (.inl rfl)) _

set_option maxRecDepth 100000 in
set_option maxHeartbeats 4000000 in
theorem do_odd_of (w : World) (l : Nat) (a b c : Int) (s t : ByteArray) (E : Int) (P : World → Prop) (S : Nat → Prop) (hS : ∀ x, S x → x < w.heap.size)
    (h : ∀ W, Quiet w W → Calls Try.prog 24 #[ptr l, .int .i64 a] W fun e w1 => e = .returned (.int .i64 E) ∧ Chg S W w1 ∧ P w1) :
    Calls Try.prog 13 #[ptr l, opv 3 a b c s t] w fun e w' => e = .returned (ansv E 0 0 ⟨#[]⟩) ∧ Did S P w w' := by
  have hq := doW_quiet w 3 a b c s t
  obtain ⟨hb1, hb2⟩ := doW_blks w 3 a b c s t
  have hc := h _ hq
  clear h
  have hcH := hide hc
  clear hc
  unfold ptr opv at *
  go_enter Try.func13, Try.ntmps13
  go_wp2_with fail
  refine (unhide hcH).mono ?_
  rintro e w1 ⟨rfl, hch, hP⟩
  have b1 := hch.blk hb1 (fun h => by have := hS _ h; omega)
  have b2 := hch.blk hb2 (fun h => by have := hS _ h; omega)
  clear hb1 hb2 hcH
  have c1 := b1.cell
  have c2 := b2.cell
  have f1 := b1.frozen
  have f2 := b2.frozen
  have fin : ∀ w', Chg (fun x => x = w.heap.size + 1 ∨ x = w.heap.size + 2) w1 w' → Did S P w w' := by
    intro w' hw'
    refine ⟨?_, w1, hP, hw'⟩
    exact Chg.trans' (Chg.trans' (hq.chg S) hch (fun _ _ h => h)) hw' (fun i hi h => by omega)
  have finH := hide fin
  clear fin hq hP hch
  have n12 : w.heap.size + 1 ≠ w.heap.size + 2 := by omega
  go_wp2
  refine bodyPost_ret (v := ansv E 0 0 ⟨#[]⟩) (results_blk (u := 42) (cs := ansC E 0 0 ⟨#[]⟩) Try.results13 rfl Try.isAgg42 Try.sizeOf42 ?_) rfl ⟨rfl, unhide finH _ ?_⟩
  · exact (((((b1.set_other n12 _).set 0 _).set 1 _).set 2 _).set 3 _)
  · exact (((((Chg.refl (fun x => x = w.heap.size + 1 ∨ x = w.heap.size + 2) w1).setCell (.inl (.inr rfl)) _).setCell (.inl (.inl rfl)) _).setCell (.inl (.inl rfl)) _).setCell (.inl (.inl rfl)) _).setCell (.inl (.inl rfl)) _

set_option maxRecDepth 100000 in
set_option maxHeartbeats 4000000 in
theorem do_quote_of (w : World) (l : Nat) (a b c : Int) (s t : ByteArray) (E : Int) (P : World → Prop) (S : Nat → Prop) (hS : ∀ x, S x → x < w.heap.size)
    (h : ∀ W, Quiet w W → Calls Try.prog 25 #[ptr l, .int .i64 a] W fun e w1 => e = .returned (.int .i64 E) ∧ Chg S W w1 ∧ P w1) :
    Calls Try.prog 13 #[ptr l, opv 4 a b c s t] w fun e w' => e = .returned (ansv E 0 0 ⟨#[]⟩) ∧ Did S P w w' := by
  have hq := doW_quiet w 4 a b c s t
  obtain ⟨hb1, hb2⟩ := doW_blks w 4 a b c s t
  have hc := h _ hq
  clear h
  have hcH := hide hc
  clear hc
  unfold ptr opv at *
  go_enter Try.func13, Try.ntmps13
  go_wp2_with fail
  refine (unhide hcH).mono ?_
  rintro e w1 ⟨rfl, hch, hP⟩
  have b1 := hch.blk hb1 (fun h => by have := hS _ h; omega)
  have b2 := hch.blk hb2 (fun h => by have := hS _ h; omega)
  clear hb1 hb2 hcH
  have c1 := b1.cell
  have c2 := b2.cell
  have f1 := b1.frozen
  have f2 := b2.frozen
  have fin : ∀ w', Chg (fun x => x = w.heap.size + 1 ∨ x = w.heap.size + 2) w1 w' → Did S P w w' := by
    intro w' hw'
    refine ⟨?_, w1, hP, hw'⟩
    exact Chg.trans' (Chg.trans' (hq.chg S) hch (fun _ _ h => h)) hw' (fun i hi h => by omega)
  have finH := hide fin
  clear fin hq hP hch
  have n12 : w.heap.size + 1 ≠ w.heap.size + 2 := by omega
  go_wp2
  refine bodyPost_ret (v := ansv E 0 0 ⟨#[]⟩) (results_blk (u := 42) (cs := ansC E 0 0 ⟨#[]⟩) Try.results13 rfl Try.isAgg42 Try.sizeOf42 ?_) rfl ⟨rfl, unhide finH _ ?_⟩
  · exact (((((b1.set_other n12 _).set 0 _).set 1 _).set 2 _).set 3 _)
  · exact (((((Chg.refl (fun x => x = w.heap.size + 1 ∨ x = w.heap.size + 2) w1).setCell (.inl (.inr rfl)) _).setCell (.inl (.inl rfl)) _).setCell (.inl (.inl rfl)) _).setCell (.inl (.inl rfl)) _).setCell (.inl (.inl rfl)) _

set_option maxRecDepth 100000 in
set_option maxHeartbeats 4000000 in
theorem do_size_of (w : World) (l : Nat) (a b c : Int) (s t : ByteArray) (E : Int) (P : World → Prop) (S : Nat → Prop) (hS : ∀ x, S x → x < w.heap.size)
    (h : ∀ W, Quiet w W → Calls Try.prog 26 #[ptr l, .int .i64 a] W fun e w1 => e = .returned (.int .i64 E) ∧ Chg S W w1 ∧ P w1) :
    Calls Try.prog 13 #[ptr l, opv 5 a b c s t] w fun e w' => e = .returned (ansv E 0 0 ⟨#[]⟩) ∧ Did S P w w' := by
  have hq := doW_quiet w 5 a b c s t
  obtain ⟨hb1, hb2⟩ := doW_blks w 5 a b c s t
  have hc := h _ hq
  clear h
  have hcH := hide hc
  clear hc
  unfold ptr opv at *
  go_enter Try.func13, Try.ntmps13
  go_wp2_with fail
  refine (unhide hcH).mono ?_
  rintro e w1 ⟨rfl, hch, hP⟩
  have b1 := hch.blk hb1 (fun h => by have := hS _ h; omega)
  have b2 := hch.blk hb2 (fun h => by have := hS _ h; omega)
  clear hb1 hb2 hcH
  have c1 := b1.cell
  have c2 := b2.cell
  have f1 := b1.frozen
  have f2 := b2.frozen
  have fin : ∀ w', Chg (fun x => x = w.heap.size + 1 ∨ x = w.heap.size + 2) w1 w' → Did S P w w' := by
    intro w' hw'
    refine ⟨?_, w1, hP, hw'⟩
    exact Chg.trans' (Chg.trans' (hq.chg S) hch (fun _ _ h => h)) hw' (fun i hi h => by omega)
  have finH := hide fin
  clear fin hq hP hch
  have n12 : w.heap.size + 1 ≠ w.heap.size + 2 := by omega
  go_wp2
  refine bodyPost_ret (v := ansv E 0 0 ⟨#[]⟩) (results_blk (u := 42) (cs := ansC E 0 0 ⟨#[]⟩) Try.results13 rfl Try.isAgg42 Try.sizeOf42 ?_) rfl ⟨rfl, unhide finH _ ?_⟩
  · exact (((((b1.set_other n12 _).set 0 _).set 1 _).set 2 _).set 3 _)
  · exact (((((Chg.refl (fun x => x = w.heap.size + 1 ∨ x = w.heap.size + 2) w1).setCell (.inl (.inr rfl)) _).setCell (.inl (.inl rfl)) _).setCell (.inl (.inl rfl)) _).setCell (.inl (.inl rfl)) _).setCell (.inl (.inl rfl)) _

set_option maxRecDepth 100000 in
set_option maxHeartbeats 4000000 in
theorem do_ticks_of (w : World) (l : Nat) (a b c : Int) (s t : ByteArray) (E N : Int) (P : World → Prop) (S : Nat → Prop) (hS : ∀ x, S x → x < w.heap.size)
    (h : ∀ W, Quiet w W → Calls Try.prog 19 #[ptr l] W fun e w1 => e = .returned (.tuple #[.int .i64 N, .int .i64 E]) ∧ Chg S W w1 ∧ P w1) :
    Calls Try.prog 13 #[ptr l, opv 6 a b c s t] w fun e w' => e = .returned (ansv E N 0 ⟨#[]⟩) ∧ Did S P w w' := by
  have hq := doW_quiet w 6 a b c s t
  obtain ⟨hb1, hb2⟩ := doW_blks w 6 a b c s t
  have hc := h _ hq
  clear h
  have hcH := hide hc
  clear hc
  unfold ptr opv at *
  go_enter Try.func13, Try.ntmps13
  go_wp2_with fail
  refine (unhide hcH).mono ?_
  rintro e w1 ⟨rfl, hch, hP⟩
  have b1 := hch.blk hb1 (fun h => by have := hS _ h; omega)
  have b2 := hch.blk hb2 (fun h => by have := hS _ h; omega)
  clear hb1 hb2 hcH
  have c1 := b1.cell
  have c2 := b2.cell
  have f1 := b1.frozen
  have f2 := b2.frozen
  have fin : ∀ w', Chg (fun x => x = w.heap.size + 1 ∨ x = w.heap.size + 2) w1 w' → Did S P w w' := by
    intro w' hw'
    refine ⟨?_, w1, hP, hw'⟩
    exact Chg.trans' (Chg.trans' (hq.chg S) hch (fun _ _ h => h)) hw' (fun i hi h => by omega)
  have finH := hide fin
  clear fin hq hP hch
  have n12 : w.heap.size + 1 ≠ w.heap.size + 2 := by omega
  go_wp2
  refine bodyPost_ret (v := ansv E N 0 ⟨#[]⟩) (results_blk (u := 42) (cs := ansC E N 0 ⟨#[]⟩) Try.results13 rfl Try.isAgg42 Try.sizeOf42 ?_) rfl ⟨rfl, unhide finH _ ?_⟩
  · exact ((((((b1.set_other n12 _).set_other n12 _).set 0 _).set 1 _).set 2 _).set 3 _)
  · exact ((((((Chg.refl (fun x => x = w.heap.size + 1 ∨ x = w.heap.size + 2) w1).setCell (.inl (.inr rfl)) _).setCell (.inl (.inr rfl)) _).setCell (.inl (.inl rfl)) _).setCell (.inl (.inl rfl)) _).setCell (.inl (.inl rfl)) _).setCell (.inl (.inl rfl)) _

set_option maxRecDepth 100000 in
set_option maxHeartbeats 4000000 in
theorem do_take_of (w : World) (l : Nat) (a b c : Int) (s t : ByteArray) (E : Int) (P : World → Prop) (S : Nat → Prop) (hS : ∀ x, S x → x < w.heap.size)
    (h : ∀ W, Quiet w W → Calls Try.prog 27 #[ptr l] W fun e w1 => e = .returned (.int .i64 E) ∧ Chg S W w1 ∧ P w1) :
    Calls Try.prog 13 #[ptr l, opv 7 a b c s t] w fun e w' => e = .returned (ansv E 0 0 ⟨#[]⟩) ∧ Did S P w w' := by
  have hq := doW_quiet w 7 a b c s t
  obtain ⟨hb1, hb2⟩ := doW_blks w 7 a b c s t
  have hc := h _ hq
  clear h
  have hcH := hide hc
  clear hc
  unfold ptr opv at *
  go_enter Try.func13, Try.ntmps13
  go_wp2_with fail
  refine (unhide hcH).mono ?_
  rintro e w1 ⟨rfl, hch, hP⟩
  have b1 := hch.blk hb1 (fun h => by have := hS _ h; omega)
  have b2 := hch.blk hb2 (fun h => by have := hS _ h; omega)
  clear hb1 hb2 hcH
  have c1 := b1.cell
  have c2 := b2.cell
  have f1 := b1.frozen
  have f2 := b2.frozen
  have fin : ∀ w', Chg (fun x => x = w.heap.size + 1 ∨ x = w.heap.size + 2) w1 w' → Did S P w w' := by
    intro w' hw'
    refine ⟨?_, w1, hP, hw'⟩
    exact Chg.trans' (Chg.trans' (hq.chg S) hch (fun _ _ h => h)) hw' (fun i hi h => by omega)
  have finH := hide fin
  clear fin hq hP hch
  have n12 : w.heap.size + 1 ≠ w.heap.size + 2 := by omega
  go_wp2
  refine bodyPost_ret (v := ansv E 0 0 ⟨#[]⟩) (results_blk (u := 42) (cs := ansC E 0 0 ⟨#[]⟩) Try.results13 rfl Try.isAgg42 Try.sizeOf42 ?_) rfl ⟨rfl, unhide finH _ ?_⟩
  · exact (((((b1.set_other n12 _).set 0 _).set 1 _).set 2 _).set 3 _)
  · exact (((((Chg.refl (fun x => x = w.heap.size + 1 ∨ x = w.heap.size + 2) w1).setCell (.inl (.inr rfl)) _).setCell (.inl (.inl rfl)) _).setCell (.inl (.inl rfl)) _).setCell (.inl (.inl rfl)) _).setCell (.inl (.inl rfl)) _

set_option maxRecDepth 100000 in
set_option maxHeartbeats 4000000 in
theorem do_sum_of (w : World) (l : Nat) (a b c : Int) (s t : ByteArray) (E N : Int) (P : World → Prop) (S : Nat → Prop) (hS : ∀ x, S x → x < w.heap.size)
    (h : ∀ W, Quiet w W → Calls Try.prog 20 #[ptr l] W fun e w1 => e = .returned (.tuple #[.int .i64 N, .int .i64 E]) ∧ Chg S W w1 ∧ P w1) :
    Calls Try.prog 13 #[ptr l, opv 8 a b c s t] w fun e w' => e = .returned (ansv E N 0 ⟨#[]⟩) ∧ Did S P w w' := by
  have hq := doW_quiet w 8 a b c s t
  obtain ⟨hb1, hb2⟩ := doW_blks w 8 a b c s t
  have hc := h _ hq
  clear h
  have hcH := hide hc
  clear hc
  unfold ptr opv at *
  go_enter Try.func13, Try.ntmps13
  go_wp2_with fail
  refine (unhide hcH).mono ?_
  rintro e w1 ⟨rfl, hch, hP⟩
  have b1 := hch.blk hb1 (fun h => by have := hS _ h; omega)
  have b2 := hch.blk hb2 (fun h => by have := hS _ h; omega)
  clear hb1 hb2 hcH
  have c1 := b1.cell
  have c2 := b2.cell
  have f1 := b1.frozen
  have f2 := b2.frozen
  have fin : ∀ w', Chg (fun x => x = w.heap.size + 1 ∨ x = w.heap.size + 2) w1 w' → Did S P w w' := by
    intro w' hw'
    refine ⟨?_, w1, hP, hw'⟩
    exact Chg.trans' (Chg.trans' (hq.chg S) hch (fun _ _ h => h)) hw' (fun i hi h => by omega)
  have finH := hide fin
  clear fin hq hP hch
  have n12 : w.heap.size + 1 ≠ w.heap.size + 2 := by omega
  go_wp2
  refine bodyPost_ret (v := ansv E N 0 ⟨#[]⟩) (results_blk (u := 42) (cs := ansC E N 0 ⟨#[]⟩) Try.results13 rfl Try.isAgg42 Try.sizeOf42 ?_) rfl ⟨rfl, unhide finH _ ?_⟩
  · exact ((((((b1.set_other n12 _).set_other n12 _).set 0 _).set 1 _).set 2 _).set 3 _)
  · exact ((((((Chg.refl (fun x => x = w.heap.size + 1 ∨ x = w.heap.size + 2) w1).setCell (.inl (.inr rfl)) _).setCell (.inl (.inr rfl)) _).setCell (.inl (.inl rfl)) _).setCell (.inl (.inl rfl)) _).setCell (.inl (.inl rfl)) _).setCell (.inl (.inl rfl)) _

set_option maxRecDepth 100000 in
set_option maxHeartbeats 4000000 in
theorem do_vwap_of (w : World) (l : Nat) (a b c : Int) (s t : ByteArray) (E N : Int) (P : World → Prop) (S : Nat → Prop) (hS : ∀ x, S x → x < w.heap.size)
    (h : ∀ W, Quiet w W → Calls Try.prog 28 #[ptr l] W fun e w1 => e = .returned (.tuple #[.int .i64 N, .int .i64 E]) ∧ Chg S W w1 ∧ P w1) :
    Calls Try.prog 13 #[ptr l, opv 9 a b c s t] w fun e w' => e = .returned (ansv E N 0 ⟨#[]⟩) ∧ Did S P w w' := by
  have hq := doW_quiet w 9 a b c s t
  obtain ⟨hb1, hb2⟩ := doW_blks w 9 a b c s t
  have hc := h _ hq
  clear h
  have hcH := hide hc
  clear hc
  unfold ptr opv at *
  go_enter Try.func13, Try.ntmps13
  go_wp2_with fail
  refine (unhide hcH).mono ?_
  rintro e w1 ⟨rfl, hch, hP⟩
  have b1 := hch.blk hb1 (fun h => by have := hS _ h; omega)
  have b2 := hch.blk hb2 (fun h => by have := hS _ h; omega)
  clear hb1 hb2 hcH
  have c1 := b1.cell
  have c2 := b2.cell
  have f1 := b1.frozen
  have f2 := b2.frozen
  have fin : ∀ w', Chg (fun x => x = w.heap.size + 1 ∨ x = w.heap.size + 2) w1 w' → Did S P w w' := by
    intro w' hw'
    refine ⟨?_, w1, hP, hw'⟩
    exact Chg.trans' (Chg.trans' (hq.chg S) hch (fun _ _ h => h)) hw' (fun i hi h => by omega)
  have finH := hide fin
  clear fin hq hP hch
  have n12 : w.heap.size + 1 ≠ w.heap.size + 2 := by omega
  go_wp2
  refine bodyPost_ret (v := ansv E N 0 ⟨#[]⟩) (results_blk (u := 42) (cs := ansC E N 0 ⟨#[]⟩) Try.results13 rfl Try.isAgg42 Try.sizeOf42 ?_) rfl ⟨rfl, unhide finH _ ?_⟩
  · exact ((((((b1.set_other n12 _).set_other n12 _).set 0 _).set 1 _).set 2 _).set 3 _)
  · exact ((((((Chg.refl (fun x => x = w.heap.size + 1 ∨ x = w.heap.size + 2) w1).setCell (.inl (.inr rfl)) _).setCell (.inl (.inr rfl)) _).setCell (.inl (.inl rfl)) _).setCell (.inl (.inl rfl)) _).setCell (.inl (.inl rfl)) _).setCell (.inl (.inl rfl)) _

set_option maxRecDepth 100000 in
set_option maxHeartbeats 4000000 in
theorem do_tenths_of (w : World) (l : Nat) (a b c : Int) (s t : ByteArray) (N : Int) (P : World → Prop) (S : Nat → Prop) (hS : ∀ x, S x → x < w.heap.size)
    (h : ∀ W, Quiet w W → Calls Try.prog 29 #[ptr l] W fun e w1 => e = .returned (.int .i64 N) ∧ Chg S W w1 ∧ P w1) :
    Calls Try.prog 13 #[ptr l, opv 10 a b c s t] w fun e w' => e = .returned (ansv 0 N 0 ⟨#[]⟩) ∧ Did S P w w' := by
  have hq := doW_quiet w 10 a b c s t
  obtain ⟨hb1, hb2⟩ := doW_blks w 10 a b c s t
  have hc := h _ hq
  clear h
  have hcH := hide hc
  clear hc
  unfold ptr opv at *
  go_enter Try.func13, Try.ntmps13
  go_wp2_with fail
  refine (unhide hcH).mono ?_
  rintro e w1 ⟨rfl, hch, hP⟩
  have b1 := hch.blk hb1 (fun h => by have := hS _ h; omega)
  have b2 := hch.blk hb2 (fun h => by have := hS _ h; omega)
  clear hb1 hb2 hcH
  have c1 := b1.cell
  have c2 := b2.cell
  have f1 := b1.frozen
  have f2 := b2.frozen
  have fin : ∀ w', Chg (fun x => x = w.heap.size + 1 ∨ x = w.heap.size + 2) w1 w' → Did S P w w' := by
    intro w' hw'
    refine ⟨?_, w1, hP, hw'⟩
    exact Chg.trans' (Chg.trans' (hq.chg S) hch (fun _ _ h => h)) hw' (fun i hi h => by omega)
  have finH := hide fin
  clear fin hq hP hch
  have n12 : w.heap.size + 1 ≠ w.heap.size + 2 := by omega
  go_wp2
  refine bodyPost_ret (v := ansv 0 N 0 ⟨#[]⟩) (results_blk (u := 42) (cs := ansC 0 N 0 ⟨#[]⟩) Try.results13 rfl Try.isAgg42 Try.sizeOf42 ?_) rfl ⟨rfl, unhide finH _ ?_⟩
  · exact (((((b1.set_other n12 _).set 0 _).set 1 _).set 2 _).set 3 _)
  · exact (((((Chg.refl (fun x => x = w.heap.size + 1 ∨ x = w.heap.size + 2) w1).setCell (.inl (.inr rfl)) _).setCell (.inl (.inl rfl)) _).setCell (.inl (.inl rfl)) _).setCell (.inl (.inl rfl)) _).setCell (.inl (.inl rfl)) _

set_option maxRecDepth 100000 in
set_option maxHeartbeats 4000000 in
theorem do_show_of (w : World) (l : Nat) (a b c : Int) (s t : ByteArray) (R : ByteArray) (P : World → Prop) (S : Nat → Prop) (hS : ∀ x, S x → x < w.heap.size)
    (h : ∀ W, Quiet w W → Calls Try.prog 12 #[ptr l] W fun e w1 => e = .returned (.string R) ∧ Chg S W w1 ∧ P w1) :
    Calls Try.prog 13 #[ptr l, opv 11 a b c s t] w fun e w' => e = .returned (ansv 0 0 0 R) ∧ Did S P w w' := by
  have hq := doW_quiet w 11 a b c s t
  obtain ⟨hb1, hb2⟩ := doW_blks w 11 a b c s t
  have hc := h _ hq
  clear h
  have hcH := hide hc
  clear hc
  unfold ptr opv at *
  go_enter Try.func13, Try.ntmps13
  go_wp2_with fail
  refine (unhide hcH).mono ?_
  rintro e w1 ⟨rfl, hch, hP⟩
  have b1 := hch.blk hb1 (fun h => by have := hS _ h; omega)
  have b2 := hch.blk hb2 (fun h => by have := hS _ h; omega)
  clear hb1 hb2 hcH
  have c1 := b1.cell
  have c2 := b2.cell
  have f1 := b1.frozen
  have f2 := b2.frozen
  have fin : ∀ w', Chg (fun x => x = w.heap.size + 1 ∨ x = w.heap.size + 2) w1 w' → Did S P w w' := by
    intro w' hw'
    refine ⟨?_, w1, hP, hw'⟩
    exact Chg.trans' (Chg.trans' (hq.chg S) hch (fun _ _ h => h)) hw' (fun i hi h => by omega)
  have finH := hide fin
  clear fin hq hP hch
  have n12 : w.heap.size + 1 ≠ w.heap.size + 2 := by omega
  go_wp2
  refine bodyPost_ret (v := ansv 0 0 0 R) (results_blk (u := 42) (cs := ansC 0 0 0 R) Try.results13 rfl Try.isAgg42 Try.sizeOf42 ?_) rfl ⟨rfl, unhide finH _ ?_⟩
  · exact (((((b1.set_other n12 _).set 0 _).set 1 _).set 2 _).set 3 _)
  · exact (((((Chg.refl (fun x => x = w.heap.size + 1 ∨ x = w.heap.size + 2) w1).setCell (.inl (.inr rfl)) _).setCell (.inl (.inl rfl)) _).setCell (.inl (.inl rfl)) _).setCell (.inl (.inl rfl)) _).setCell (.inl (.inl rfl)) _

set_option maxRecDepth 100000 in
set_option maxHeartbeats 4000000 in
theorem do_check_of (w : World) (l : Nat) (a b c : Int) (s t : ByteArray)  (P : World → Prop) (S : Nat → Prop) (hS : ∀ x, S x → x < w.heap.size)
    (h : ∀ W, Quiet w W → Calls Try.prog 30 #[ptr l] W fun e w1 => e = .returned (.bool true) ∧ Chg S W w1 ∧ P w1) :
    Calls Try.prog 13 #[ptr l, opv 12 a b c s t] w fun e w' => e = .returned (ansv 0 1 0 ⟨#[]⟩) ∧ Did S P w w' := by
  have hq := doW_quiet w 12 a b c s t
  obtain ⟨hb1, hb2⟩ := doW_blks w 12 a b c s t
  have hc := h _ hq
  clear h
  have hcH := hide hc
  clear hc
  unfold ptr opv at *
  go_enter Try.func13, Try.ntmps13
  go_wp2_with fail
  refine (unhide hcH).mono ?_
  rintro e w1 ⟨rfl, hch, hP⟩
  have b1 := hch.blk hb1 (fun h => by have := hS _ h; omega)
  have b2 := hch.blk hb2 (fun h => by have := hS _ h; omega)
  clear hb1 hb2 hcH
  have c1 := b1.cell
  have c2 := b2.cell
  have f1 := b1.frozen
  have f2 := b2.frozen
  have fin : ∀ w', Chg (fun x => x = w.heap.size + 1 ∨ x = w.heap.size + 2) w1 w' → Did S P w w' := by
    intro w' hw'
    refine ⟨?_, w1, hP, hw'⟩
    exact Chg.trans' (Chg.trans' (hq.chg S) hch (fun _ _ h => h)) hw' (fun i hi h => by omega)
  have finH := hide fin
  clear fin hq hP hch
  have n12 : w.heap.size + 1 ≠ w.heap.size + 2 := by omega
  go_wp2
  refine bodyPost_ret (v := ansv 0 1 0 ⟨#[]⟩) (results_blk (u := 42) (cs := ansC 0 1 0 ⟨#[]⟩) Try.results13 rfl Try.isAgg42 Try.sizeOf42 ?_) rfl ⟨rfl, unhide finH _ ?_⟩
  · exact (((((b1.set_other n12 _).set 0 _).set 1 _).set 2 _).set 3 _)
  · exact (((((Chg.refl (fun x => x = w.heap.size + 1 ∨ x = w.heap.size + 2) w1).setCell (.inl (.inr rfl)) _).setCell (.inl (.inl rfl)) _).setCell (.inl (.inl rfl)) _).setCell (.inl (.inl rfl)) _).setCell (.inl (.inl rfl)) _

set_option maxRecDepth 100000 in
set_option maxHeartbeats 4000000 in
theorem do_none_of (w : World) (l : Nat) (k a b c : Int) (s t : ByteArray) (h1 : (k == 1) = false) (h2 : (k == 2) = false) (h3 : (k == 3) = false) (h4 : (k == 4) = false) (h5 : (k == 5) = false) (h6 : (k == 6) = false) (h7 : (k == 7) = false) (h8 : (k == 8) = false) (h9 : (k == 9) = false) (h10 : (k == 10) = false) (h11 : (k == 11) = false) (h12 : (k == 12) = false) :
    Calls Try.prog 13 #[ptr l, opv k a b c s t] w fun e w' => e = .returned (ansv 0 0 0 ⟨#[]⟩) ∧ Quiet w w' := by
  have hq := doW_quiet w k a b c s t
  unfold ptr opv at *
  go_enter Try.func13, Try.ntmps13
  go_wp2
  refine bodyPost_ret (v := ansv 0 0 0 ⟨#[]⟩) (by simp [results, Try.results13, go_sem, ansv, ansC]) rfl ⟨rfl, ?_⟩
  exact hq
end Go.Proofs.Qxb6500365a
