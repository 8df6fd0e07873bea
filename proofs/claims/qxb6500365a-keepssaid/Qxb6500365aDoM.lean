/-
  THE THIN PLAYER DoM, KIND BY KIND, over whatever contract the callee has. (gen65do.py)
-/
import Derived.Test.Qxb6500365aDo
namespace Go.Proofs.Qxb6500365a
open Go.RowKit Go.Qx
set_option linter.unusedSimpArgs false
set_option linter.unusedVariables false

set_option maxRecDepth 100000 in
set_option maxHeartbeats 4000000 in
theorem dom_denom_of (w : World) (l : Nat) (a b c : Int) (s t : ByteArray) (E : Int) (P : World → Prop) (S : Nat → Prop) (hS : ∀ x, S x → x < w.heap.size)
    (h : ∀ W, Quiet w W → Calls Try.prog 38 #[ptr l, .int .i64 a] W fun e w1 => e = .returned (.int .i64 E) ∧ Chg S W w1 ∧ P w1) :
    Calls Try.prog 18 #[ptr l, opv 1 a b c s t] w fun e w' => e = .returned (ansv E 0 0 ⟨#[]⟩) ∧ Did S P w w' := by
  have hq := doW_quiet w 1 a b c s t
  obtain ⟨hb1, hb2⟩ := doW_blks w 1 a b c s t
  have hc := h _ hq
  clear h
  have hcH := hide hc
  clear hc
  unfold ptr opv at *
  go_enter Try.func18, Try.ntmps18
  go_wp2_with fail
  refine (unhide hcH).mono ?_
  rintro e w1 ⟨rfl, hch, hP⟩
  have b1 := hch.blk hb1 (fun h => by have := hS _ h; omega)
  have b2 := hch.blk hb2 (fun h => by have := hS _ h; omega)
  clear hb1 hb2 hcH
  have c1 := b1.cell
  have c2 := b2.cell
  have f1 := b1.frozen
  have f2 := b2.frozen
  have fin : ∀ w', Chg (fun x => x = w.heap.size + 1 ∨ x = w.heap.size + 2) w1 w' → Did S P w w' := by
    intro w' hw'
    refine ⟨?_, w1, hP, hw'⟩
    exact Chg.trans' (Chg.trans' (hq.chg S) hch (fun _ _ h => h)) hw' (fun i hi h => by omega)
  have finH := hide fin
  clear fin hq hP hch
  have n12 : w.heap.size + 1 ≠ w.heap.size + 2 := by omega
  go_wp2
  refine bodyPost_ret (v := ansv E 0 0 ⟨#[]⟩) (results_blk (u := 42) (cs := ansC E 0 0 ⟨#[]⟩) Try.results18 rfl Try.isAgg42 Try.sizeOf42 ?_) rfl ⟨rfl, unhide finH _ ?_⟩
  · exact (((((b1.set_other n12 _).set 0 _).set 1 _).set 2 _).set 3 _)
  · exact (((((Chg.refl (fun x => x = w.heap.size + 1 ∨ x = w.heap.size + 2) w1).setCell (.inl (.inr rfl)) _).setCell (.inl (.inl rfl)) _).setCell (.inl (.inl rfl)) _).setCell (.inl (.inl rfl)) _).setCell (.inl (.inl rfl)) _

set_option maxRecDepth 100000 in
set_option maxHeartbeats 4000000 in
theorem dom_feed_of (w : World) (l : Nat) (a b c : Int) (s t : ByteArray) (E : Int) (P : World → Prop) (S : Nat → Prop) (hS : ∀ x, S x → x < w.heap.size)
    (h : ∀ W, Quiet w W → Calls Try.prog 39 #[ptr l, .int .i64 a, .int .i64 b, .int .i64 c] W fun e w1 => e = .returned (.int .i64 E) ∧ Chg S W w1 ∧ P w1) :
    Calls Try.prog 18 #[ptr l, opv 2 a b c s t] w fun e w' => e = .returned (ansv E 0 0 ⟨#[]⟩) ∧ Did S P w w' := by
  have hq := doW_quiet w 2 a b c s t
  obtain ⟨hb1, hb2⟩ := doW_blks w 2 a b c s t
  have hc := h _ hq
  clear h
  have hcH := hide hc
  clear hc
  unfold ptr opv at *
  go_enter Try.func18, Try.ntmps18
  go_wp2_with fail
  refine (unhide hcH).mono ?_
  rintro e w1 ⟨rfl, hch, hP⟩
  have b1 := hch.blk hb1 (fun h => by have := hS _ h; omega)
  have b2 := hch.blk hb2 (fun h => by have := hS _ h; omega)
  clear hb1 hb2 hcH
  have c1 := b1.cell
  have c2 := b2.cell
  have f1 := b1.frozen
  have f2 := b2.frozen
  have fin : ∀ w', Chg (fun x => x = w.heap.size + 1 ∨ x = w.heap.size + 2) w1 w' → Did S P w w' := by
    intro w' hw'
    refine ⟨?_, w1, hP, hw'⟩
    exact Chg.trans' (Chg.trans' (hq.chg S) hch (fun _ _ h => h)) hw' (fun i hi h => by omega)
  have finH := hide fin
  clear fin hq hP hch
  have n12 : w.heap.size + 1 ≠ w.heap.size + 2 := by omega
  go_wp2
  refine bodyPost_ret (v := ansv E 0 0 ⟨#[]⟩) (results_blk (u := 42) (cs := ansC E 0 0 ⟨#[]⟩) Try.results18 rfl Try.isAgg42 Try.sizeOf42 ?_) rfl ⟨rfl, unhide finH _ ?_⟩
  · exact (((((b1.set_other n12 _).set 0 _).set 1 _).set 2 _).set 3 _)
  · exact (((((Chg.refl (fun x => x = w.heap.size + 1 ∨ x = w.heap.size + 2) w1).setCell (.inl (.inr rfl)) _).setCell (.inl (.inl rfl)) _).setCell (.inl (.inl rfl)) _).setCell (.inl (.inl rfl)) _).setCell (.inl (.inl rfl)) _

set_option maxRecDepth 100000 in
set_option maxHeartbeats 4000000 in
theorem dom_odd_of (w : World) (l : Nat) (a b c : Int) (s t : ByteArray) (E : Int) (P : World → Prop) (S : Nat → Prop) (hS : ∀ x, S x → x < w.heap.size)
    (h : ∀ W, Quiet w W → Calls Try.prog 40 #[ptr l, .int .i64 a] W fun e w1 => e = .returned (.int .i64 E) ∧ Chg S W w1 ∧ P w1) :
    Calls Try.prog 18 #[ptr l, opv 3 a b c s t] w fun e w' => e = .returned (ansv E 0 0 ⟨#[]⟩) ∧ Did S P w w' := by
  have hq := doW_quiet w 3 a b c s t
  obtain ⟨hb1, hb2⟩ := doW_blks w 3 a b c s t
  have hc := h _ hq
  clear h
  have hcH := hide hc
  clear hc
  unfold ptr opv at *
  go_enter Try.func18, Try.ntmps18
  go_wp2_with fail
  refine (unhide hcH).mono ?_
  rintro e w1 ⟨rfl, hch, hP⟩
  have b1 := hch.blk hb1 (fun h => by have := hS _ h; omega)
  have b2 := hch.blk hb2 (fun h => by have := hS _ h; omega)
  clear hb1 hb2 hcH
  have c1 := b1.cell
  have c2 := b2.cell
  have f1 := b1.frozen
  have f2 := b2.frozen
  have fin : ∀ w', Chg (fun x => x = w.heap.size + 1 ∨ x = w.heap.size + 2) w1 w' → Did S P w w' := by
    intro w' hw'
    refine ⟨?_, w1, hP, hw'⟩
    exact Chg.trans' (Chg.trans' (hq.chg S) hch (fun _ _ h => h)) hw' (fun i hi h => by omega)
  have finH := hide fin
  clear fin hq hP hch
  have n12 : w.heap.size + 1 ≠ w.heap.size + 2 := by omega
  go_wp2
  refine bodyPost_ret (v := ansv E 0 0 ⟨#[]⟩) (results_blk (u := 42) (cs := ansC E 0 0 ⟨#[]⟩) Try.results18 rfl Try.isAgg42 Try.sizeOf42 ?_) rfl ⟨rfl, unhide finH _ ?_⟩
  · exact (((((b1.set_other n12 _).set 0 _).set 1 _).set 2 _).set 3 _)
  · exact (((((Chg.refl (fun x => x = w.heap.size + 1 ∨ x = w.heap.size + 2) w1).setCell (.inl (.inr rfl)) _).setCell (.inl (.inl rfl)) _).setCell (.inl (.inl rfl)) _).setCell (.inl (.inl rfl)) _).setCell (.inl (.inl rfl)) _

set_option maxRecDepth 100000 in
set_option maxHeartbeats 4000000 in
theorem dom_quote_of (w : World) (l : Nat) (a b c : Int) (s t : ByteArray) (E : Int) (P : World → Prop) (S : Nat → Prop) (hS : ∀ x, S x → x < w.heap.size)
    (h : ∀ W, Quiet w W → Calls Try.prog 41 #[ptr l, .int .i64 a] W fun e w1 => e = .returned (.int .i64 E) ∧ Chg S W w1 ∧ P w1) :
    Calls Try.prog 18 #[ptr l, opv 4 a b c s t] w fun e w' => e = .returned (ansv E 0 0 ⟨#[]⟩) ∧ Did S P w w' := by
  have hq := doW_quiet w 4 a b c s t
  obtain ⟨hb1, hb2⟩ := doW_blks w 4 a b c s t
  have hc := h _ hq
  clear h
  have hcH := hide hc
  clear hc
  unfold ptr opv at *
  go_enter Try.func18, Try.ntmps18
  go_wp2_with fail
  refine (unhide hcH).mono ?_
  rintro e w1 ⟨rfl, hch, hP⟩
  have b1 := hch.blk hb1 (fun h => by have := hS _ h; omega)
  have b2 := hch.blk hb2 (fun h => by have := hS _ h; omega)
  clear hb1 hb2 hcH
  have c1 := b1.cell
  have c2 := b2.cell
  have f1 := b1.frozen
  have f2 := b2.frozen
  have fin : ∀ w', Chg (fun x => x = w.heap.size + 1 ∨ x = w.heap.size + 2) w1 w' → Did S P w w' := by
    intro w' hw'
    refine ⟨?_, w1, hP, hw'⟩
    exact Chg.trans' (Chg.trans' (hq.chg S) hch (fun _ _ h => h)) hw' (fun i hi h => by omega)
  have finH := hide fin
  clear fin hq hP hch
  have n12 : w.heap.size + 1 ≠ w.heap.size + 2 := by omega
  go_wp2
  refine bodyPost_ret (v := ansv E 0 0 ⟨#[]⟩) (results_blk (u := 42) (cs := ansC E 0 0 ⟨#[]⟩) Try.results18 rfl Try.isAgg42 Try.sizeOf42 ?_) rfl ⟨rfl, unhide finH _ ?_⟩
  · exact (((((b1.set_other n12 _).set 0 _).set 1 _).set 2 _).set 3 _)
  · exact (((((Chg.refl (fun x => x = w.heap.size + 1 ∨ x = w.heap.size + 2) w1).setCell (.inl (.inr rfl)) _).setCell (.inl (.inl rfl)) _).setCell (.inl (.inl rfl)) _).setCell (.inl (.inl rfl)) _).setCell (.inl (.inl rfl)) _

set_option maxRecDepth 100000 in
set_option maxHeartbeats 4000000 in
theorem dom_size_of (w : World) (l : Nat) (a b c : Int) (s t : ByteArray) (E : Int) (P : World → Prop) (S : Nat → Prop) (hS : ∀ x, S x → x < w.heap.size)
    (h : ∀ W, Quiet w W → Calls Try.prog 42 #[ptr l, .int .i64 a] W fun e w1 => e = .returned (.int .i64 E) ∧ Chg S W w1 ∧ P w1) :
    Calls Try.prog 18 #[ptr l, opv 5 a b c s t] w fun e w' => e = .returned (ansv E 0 0 ⟨#[]⟩) ∧ Did S P w w' := by
  have hq := doW_quiet w 5 a b c s t
  obtain ⟨hb1, hb2⟩ := doW_blks w 5 a b c s t
  have hc := h _ hq
  clear h
  have hcH := hide hc
  clear hc
  unfold ptr opv at *
  go_enter Try.func18, Try.ntmps18
  go_wp2_with fail
  refine (unhide hcH).mono ?_
  rintro e w1 ⟨rfl, hch, hP⟩
  have b1 := hch.blk hb1 (fun h => by have := hS _ h; omega)
  have b2 := hch.blk hb2 (fun h => by have := hS _ h; omega)
  clear hb1 hb2 hcH
  have c1 := b1.cell
  have c2 := b2.cell
  have f1 := b1.frozen
  have f2 := b2.frozen
  have fin : ∀ w', Chg (fun x => x = w.heap.size + 1 ∨ x = w.heap.size + 2) w1 w' → Did S P w w' := by
    intro w' hw'
    refine ⟨?_, w1, hP, hw'⟩
    exact Chg.trans' (Chg.trans' (hq.chg S) hch (fun _ _ h => h)) hw' (fun i hi h => by omega)
  have finH := hide fin
  clear fin hq hP hch
  have n12 : w.heap.size + 1 ≠ w.heap.size + 2 := by omega
  go_wp2
  refine bodyPost_ret (v := ansv E 0 0 ⟨#[]⟩) (results_blk (u := 42) (cs := ansC E 0 0 ⟨#[]⟩) Try.results18 rfl Try.isAgg42 Try.sizeOf42 ?_) rfl ⟨rfl, unhide finH _ ?_⟩
  · exact (((((b1.set_other n12 _).set 0 _).set 1 _).set 2 _).set 3 _)
  · exact (((((Chg.refl (fun x => x = w.heap.size + 1 ∨ x = w.heap.size + 2) w1).setCell (.inl (.inr rfl)) _).setCell (.inl (.inl rfl)) _).setCell (.inl (.inl rfl)) _).setCell (.inl (.inl rfl)) _).setCell (.inl (.inl rfl)) _

set_option maxRecDepth 100000 in
set_option maxHeartbeats 4000000 in
theorem dom_ticks_of (w : World) (l : Nat) (a b c : Int) (s t : ByteArray) (E N : Int) (P : World → Prop) (S : Nat → Prop) (hS : ∀ x, S x → x < w.heap.size)
    (h : ∀ W, Quiet w W → Calls Try.prog 43 #[ptr l] W fun e w1 => e = .returned (.tuple #[.int .i64 N, .int .i64 E]) ∧ Chg S W w1 ∧ P w1) :
    Calls Try.prog 18 #[ptr l, opv 6 a b c s t] w fun e w' => e = .returned (ansv E N 0 ⟨#[]⟩) ∧ Did S P w w' := by
  have hq := doW_quiet w 6 a b c s t
  obtain ⟨hb1, hb2⟩ := doW_blks w 6 a b c s t
  have hc := h _ hq
  clear h
  have hcH := hide hc
  clear hc
  unfold ptr opv at *
  go_enter Try.func18, Try.ntmps18
  go_wp2_with fail
  refine (unhide hcH).mono ?_
  rintro e w1 ⟨rfl, hch, hP⟩
  have b1 := hch.blk hb1 (fun h => by have := hS _ h; omega)
  have b2 := hch.blk hb2 (fun h => by have := hS _ h; omega)
  clear hb1 hb2 hcH
  have c1 := b1.cell
  have c2 := b2.cell
  have f1 := b1.frozen
  have f2 := b2.frozen
  have fin : ∀ w', Chg (fun x => x = w.heap.size + 1 ∨ x = w.heap.size + 2) w1 w' → Did S P w w' := by
    intro w' hw'
    refine ⟨?_, w1, hP, hw'⟩
    exact Chg.trans' (Chg.trans' (hq.chg S) hch (fun _ _ h => h)) hw' (fun i hi h => by omega)
  have finH := hide fin
  clear fin hq hP hch
  have n12 : w.heap.size + 1 ≠ w.heap.size + 2 := by omega
  go_wp2
  refine bodyPost_ret (v := ansv E N 0 ⟨#[]⟩) (results_blk (u := 42) (cs := ansC E N 0 ⟨#[]⟩) Try.results18 rfl Try.isAgg42 Try.sizeOf42 ?_) rfl ⟨rfl, unhide finH _ ?_⟩
  · exact ((((((b1.set_other n12 _).set_other n12 _).set 0 _).set 1 _).set 2 _).set 3 _)
  · exact ((((((Chg.refl (fun x => x = w.heap.size + 1 ∨ x = w.heap.size + 2) w1).setCell (.inl (.inr rfl)) _).setCell (.inl (.inr rfl)) _).setCell (.inl (.inl rfl)) _).setCell (.inl (.inl rfl)) _).setCell (.inl (.inl rfl)) _).setCell (.inl (.inl rfl)) _

set_option maxRecDepth 100000 in
set_option maxHeartbeats 4000000 in
theorem dom_take_of (w : World) (l : Nat) (a b c : Int) (s t : ByteArray) (E : Int) (P : World → Prop) (S : Nat → Prop) (hS : ∀ x, S x → x < w.heap.size)
    (h : ∀ W, Quiet w W → Calls Try.prog 44 #[ptr l] W fun e w1 => e = .returned (.int .i64 E) ∧ Chg S W w1 ∧ P w1) :
    Calls Try.prog 18 #[ptr l, opv 7 a b c s t] w fun e w' => e = .returned (ansv E 0 0 ⟨#[]⟩) ∧ Did S P w w' := by
  have hq := doW_quiet w 7 a b c s t
  obtain ⟨hb1, hb2⟩ := doW_blks w 7 a b c s t
  have hc := h _ hq
  clear h
  have hcH := hide hc
  clear hc
  unfold ptr opv at *
  go_enter Try.func18, Try.ntmps18
  go_wp2_with fail
  refine (unhide hcH).mono ?_
  rintro e w1 ⟨rfl, hch, hP⟩
  have b1 := hch.blk hb1 (fun h => by have := hS _ h; omega)
  have b2 := hch.blk hb2 (fun h => by have := hS _ h; omega)
  clear hb1 hb2 hcH
  have c1 := b1.cell
  have c2 := b2.cell
  have f1 := b1.frozen
  have f2 := b2.frozen
  have fin : ∀ w', Chg (fun x => x = w.heap.size + 1 ∨ x = w.heap.size + 2) w1 w' → Did S P w w' := by
    intro w' hw'
    refine ⟨?_, w1, hP, hw'⟩
    exact Chg.trans' (Chg.trans' (hq.chg S) hch (fun _ _ h => h)) hw' (fun i hi h => by omega)
  have finH := hide fin
  clear fin hq hP hch
  have n12 : w.heap.size + 1 ≠ w.heap.size + 2 := by omega
  go_wp2
  refine bodyPost_ret (v := ansv E 0 0 ⟨#[]⟩) (results_blk (u := 42) (cs := ansC E 0 0 ⟨#[]⟩) Try.results18 rfl Try.isAgg42 Try.sizeOf42 ?_) rfl ⟨rfl, unhide finH _ ?_⟩
  · exact (((((b1.set_other n12 _).set 0 _).set 1 _).set 2 _).set 3 _)
  · exact (((((Chg.refl (fun x => x = w.heap.size + 1 ∨ x = w.heap.size + 2) w1).setCell (.inl (.inr rfl)) _).setCell (.inl (.inl rfl)) _).setCell (.inl (.inl rfl)) _).setCell (.inl (.inl rfl)) _).setCell (.inl (.inl rfl)) _

set_option maxRecDepth 100000 in
set_option maxHeartbeats 4000000 in
theorem dom_sum_of (w : World) (l : Nat) (a b c : Int) (s t : ByteArray) (E N : Int) (P : World → Prop) (S : Nat → Prop) (hS : ∀ x, S x → x < w.heap.size)
    (h : ∀ W, Quiet w W → Calls Try.prog 45 #[ptr l] W fun e w1 => e = .returned (.tuple #[.int .i64 N, .int .i64 E]) ∧ Chg S W w1 ∧ P w1) :
    Calls Try.prog 18 #[ptr l, opv 8 a b c s t] w fun e w' => e = .returned (ansv E N 0 ⟨#[]⟩) ∧ Did S P w w' := by
  have hq := doW_quiet w 8 a b c s t
  obtain ⟨hb1, hb2⟩ := doW_blks w 8 a b c s t
  have hc := h _ hq
  clear h
  have hcH := hide hc
  clear hc
  unfold ptr opv at *
  go_enter Try.func18, Try.ntmps18
  go_wp2_with fail
  refine (unhide hcH).mono ?_
  rintro e w1 ⟨rfl, hch, hP⟩
  have b1 := hch.blk hb1 (fun h => by have := hS _ h; omega)
  have b2 := hch.blk hb2 (fun h => by have := hS _ h; omega)
  clear hb1 hb2 hcH
  have c1 := b1.cell
  have c2 := b2.cell
  have f1 := b1.frozen
  have f2 := b2.frozen
  have fin : ∀ w', Chg (fun x => x = w.heap.size + 1 ∨ x = w.heap.size + 2) w1 w' → Did S P w w' := by
    intro w' hw'
    refine ⟨?_, w1, hP, hw'⟩
    exact Chg.trans' (Chg.trans' (hq.chg S) hch (fun _ _ h => h)) hw' (fun i hi h => by omega)
  have finH := hide fin
  clear fin hq hP hch
  have n12 : w.heap.size + 1 ≠ w.heap.size + 2 := by omega
  go_wp2
  refine bodyPost_ret (v := ansv E N 0 ⟨#[]⟩) (results_blk (u := 42) (cs := ansC E N 0 ⟨#[]⟩) Try.results18 rfl Try.isAgg42 Try.sizeOf42 ?_) rfl ⟨rfl, unhide finH _ ?_⟩
  · exact ((((((b1.set_other n12 _).set_other n12 _).set 0 _).set 1 _).set 2 _).set 3 _)
  · exact ((((((Chg.refl (fun x => x = w.heap.size + 1 ∨ x = w.heap.size + 2) w1).setCell (.inl (.inr rfl)) _).setCell (.inl (.inr rfl)) _).setCell (.inl (.inl rfl)) _).setCell (.inl (.inl rfl)) _).setCell (.inl (.inl rfl)) _).setCell (.inl (.inl rfl)) _

set_option maxRecDepth 100000 in
set_option maxHeartbeats 4000000 in
theorem dom_vwap_of (w : World) (l : Nat) (a b c : Int) (s t : ByteArray) (E N : Int) (P : World → Prop) (S : Nat → Prop) (hS : ∀ x, S x → x < w.heap.size)
    (h : ∀ W, Quiet w W → Calls Try.prog 46 #[ptr l] W fun e w1 => e = .returned (.tuple #[.int .i64 N, .int .i64 E]) ∧ Chg S W w1 ∧ P w1) :
    Calls Try.prog 18 #[ptr l, opv 9 a b c s t] w fun e w' => e = .returned (ansv E N 0 ⟨#[]⟩) ∧ Did S P w w' := by
  have hq := doW_quiet w 9 a b c s t
  obtain ⟨hb1, hb2⟩ := doW_blks w 9 a b c s t
  have hc := h _ hq
  clear h
  have hcH := hide hc
  clear hc
  unfold ptr opv at *
  go_enter Try.func18, Try.ntmps18
  go_wp2_with fail
  refine (unhide hcH).mono ?_
  rintro e w1 ⟨rfl, hch, hP⟩
  have b1 := hch.blk hb1 (fun h => by have := hS _ h; omega)
  have b2 := hch.blk hb2 (fun h => by have := hS _ h; omega)
  clear hb1 hb2 hcH
  have c1 := b1.cell
  have c2 := b2.cell
  have f1 := b1.frozen
  have f2 := b2.frozen
  have fin : ∀ w', Chg (fun x => x = w.heap.size + 1 ∨ x = w.heap.size + 2) w1 w' → Did S P w w' := by
    intro w' hw'
    refine ⟨?_, w1, hP, hw'⟩
    exact Chg.trans' (Chg.trans' (hq.chg S) hch (fun _ _ h => h)) hw' (fun i hi h => by omega)
  have finH := hide fin
  clear fin hq hP hch
  have n12 : w.heap.size + 1 ≠ w.heap.size + 2 := by omega
  go_wp2
  refine bodyPost_ret (v := ansv E N 0 ⟨#[]⟩) (results_blk (u := 42) (cs := ansC E N 0 ⟨#[]⟩) Try.results18 rfl Try.isAgg42 Try.sizeOf42 ?_) rfl ⟨rfl, unhide finH _ ?_⟩
  · exact ((((((b1.set_other n12 _).set_other n12 _).set 0 _).set 1 _).set 2 _).set 3 _)
  · exact ((((((Chg.refl (fun x => x = w.heap.size + 1 ∨ x = w.heap.size + 2) w1).setCell (.inl (.inr rfl)) _).setCell (.inl (.inr rfl)) _).setCell (.inl (.inl rfl)) _).setCell (.inl (.inl rfl)) _).setCell (.inl (.inl rfl)) _).setCell (.inl (.inl rfl)) _

set_option maxRecDepth 100000 in
set_option maxHeartbeats 4000000 in
theorem dom_tenths_of (w : World) (l : Nat) (a b c : Int) (s t : ByteArray) (N : Int) (P : World → Prop) (S : Nat → Prop) (hS : ∀ x, S x → x < w.heap.size)
    (h : ∀ W, Quiet w W → Calls Try.prog 47 #[ptr l] W fun e w1 => e = .returned (.int .i64 N) ∧ Chg S W w1 ∧ P w1) :
    Calls Try.prog 18 #[ptr l, opv 10 a b c s t] w fun e w' => e = .returned (ansv 0 N 0 ⟨#[]⟩) ∧ Did S P w w' := by
  have hq := doW_quiet w 10 a b c s t
  obtain ⟨hb1, hb2⟩ := doW_blks w 10 a b c s t
  have hc := h _ hq
  clear h
  have hcH := hide hc
  clear hc
  unfold ptr opv at *
  go_enter Try.func18, Try.ntmps18
  go_wp2_with fail
  refine (unhide hcH).mono ?_
  rintro e w1 ⟨rfl, hch, hP⟩
  have b1 := hch.blk hb1 (fun h => by have := hS _ h; omega)
  have b2 := hch.blk hb2 (fun h => by have := hS _ h; omega)
  clear hb1 hb2 hcH
  have c1 := b1.cell
  have c2 := b2.cell
  have f1 := b1.frozen
  have f2 := b2.frozen
  have fin : ∀ w', Chg (fun x => x = w.heap.size + 1 ∨ x = w.heap.size + 2) w1 w' → Did S P w w' := by
    intro w' hw'
    refine ⟨?_, w1, hP, hw'⟩
    exact Chg.trans' (Chg.trans' (hq.chg S) hch (fun _ _ h => h)) hw' (fun i hi h => by omega)
  have finH := hide fin
  clear fin hq hP hch
  have n12 : w.heap.size + 1 ≠ w.heap.size + 2 := by omega
  go_wp2
  refine bodyPost_ret (v := ansv 0 N 0 ⟨#[]⟩) (results_blk (u := 42) (cs := ansC 0 N 0 ⟨#[]⟩) Try.results18 rfl Try.isAgg42 Try.sizeOf42 ?_) rfl ⟨rfl, unhide finH _ ?_⟩
  · exact (((((b1.set_other n12 _).set 0 _).set 1 _).set 2 _).set 3 _)
  · exact (((((Chg.refl (fun x => x = w.heap.size + 1 ∨ x = w.heap.size + 2) w1).setCell (.inl (.inr rfl)) _).setCell (.inl (.inl rfl)) _).setCell (.inl (.inl rfl)) _).setCell (.inl (.inl rfl)) _).setCell (.inl (.inl rfl)) _

set_option maxRecDepth 100000 in
set_option maxHeartbeats 4000000 in
theorem dom_show_of (w : World) (l : Nat) (a b c : Int) (s t : ByteArray) (R : ByteArray) (P : World → Prop) (S : Nat → Prop) (hS : ∀ x, S x → x < w.heap.size)
    (h : ∀ W, Quiet w W → Calls Try.prog 36 #[ptr l] W fun e w1 => e = .returned (.string R) ∧ Chg S W w1 ∧ P w1) :
    Calls Try.prog 18 #[ptr l, opv 11 a b c s t] w fun e w' => e = .returned (ansv 0 0 0 R) ∧ Did S P w w' := by
  have hq := doW_quiet w 11 a b c s t
  obtain ⟨hb1, hb2⟩ := doW_blks w 11 a b c s t
  have hc := h _ hq
  clear h
  have hcH := hide hc
  clear hc
  unfold ptr opv at *
  go_enter Try.func18, Try.ntmps18
  go_wp2_with fail
  refine (unhide hcH).mono ?_
  rintro e w1 ⟨rfl, hch, hP⟩
  have b1 := hch.blk hb1 (fun h => by have := hS _ h; omega)
  have b2 := hch.blk hb2 (fun h => by have := hS _ h; omega)
  clear hb1 hb2 hcH
  have c1 := b1.cell
  have c2 := b2.cell
  have f1 := b1.frozen
  have f2 := b2.frozen
  have fin : ∀ w', Chg (fun x => x = w.heap.size + 1 ∨ x = w.heap.size + 2) w1 w' → Did S P w w' := by
    intro w' hw'
    refine ⟨?_, w1, hP, hw'⟩
    exact Chg.trans' (Chg.trans' (hq.chg S) hch (fun _ _ h => h)) hw' (fun i hi h => by omega)
  have finH := hide fin
  clear fin hq hP hch
  have n12 : w.heap.size + 1 ≠ w.heap.size + 2 := by omega
  go_wp2
  refine bodyPost_ret (v := ansv 0 0 0 R) (results_blk (u := 42) (cs := ansC 0 0 0 R) Try.results18 rfl Try.isAgg42 Try.sizeOf42 ?_) rfl ⟨rfl, unhide finH _ ?_⟩
  · exact (((((b1.set_other n12 _).set 0 _).set 1 _).set 2 _).set 3 _)
  · exact (((((Chg.refl (fun x => x = w.heap.size + 1 ∨ x = w.heap.size + 2) w1).setCell (.inl (.inr rfl)) _).setCell (.inl (.inl rfl)) _).setCell (.inl (.inl rfl)) _).setCell (.inl (.inl rfl)) _).setCell (.inl (.inl rfl)) _

set_option maxRecDepth 100000 in
set_option maxHeartbeats 4000000 in
theorem dom_check_of (w : World) (l : Nat) (a b c : Int) (s t : ByteArray)  (P : World → Prop) (S : Nat → Prop) (hS : ∀ x, S x → x < w.heap.size)
    (h : ∀ W, Quiet w W → Calls Try.prog 37 #[ptr l] W fun e w1 => e = .returned (.bool true) ∧ Chg S W w1 ∧ P w1) :
    Calls Try.prog 18 #[ptr l, opv 12 a b c s t] w fun e w' => e = .returned (ansv 0 1 0 ⟨#[]⟩) ∧ Did S P w w' := by
  have hq := doW_quiet w 12 a b c s t
  obtain ⟨hb1, hb2⟩ := doW_blks w 12 a b c s t
  have hc := h _ hq
  clear h
  have hcH := hide hc
  clear hc
  unfold ptr opv at *
  go_enter Try.func18, Try.ntmps18
  go_wp2_with fail
  refine (unhide hcH).mono ?_
  rintro e w1 ⟨rfl, hch, hP⟩
  have b1 := hch.blk hb1 (fun h => by have := hS _ h; omega)
  have b2 := hch.blk hb2 (fun h => by have := hS _ h; omega)
  clear hb1 hb2 hcH
  have c1 := b1.cell
  have c2 := b2.cell
  have f1 := b1.frozen
  have f2 := b2.frozen
  have fin : ∀ w', Chg (fun x => x = w.heap.size + 1 ∨ x = w.heap.size + 2) w1 w' → Did S P w w' := by
    intro w' hw'
    refine ⟨?_, w1, hP, hw'⟩
    exact Chg.trans' (Chg.trans' (hq.chg S) hch (fun _ _ h => h)) hw' (fun i hi h => by omega)
  have finH := hide fin
  clear fin hq hP hch
  have n12 : w.heap.size + 1 ≠ w.heap.size + 2 := by omega
  go_wp2
  refine bodyPost_ret (v := ansv 0 1 0 ⟨#[]⟩) (results_blk (u := 42) (cs := ansC 0 1 0 ⟨#[]⟩) Try.results18 rfl Try.isAgg42 Try.sizeOf42 ?_) rfl ⟨rfl, unhide finH _ ?_⟩
  · exact (((((b1.set_other n12 _).set 0 _).set 1 _).set 2 _).set 3 _)
  · exact (((((Chg.refl (fun x => x = w.heap.size + 1 ∨ x = w.heap.size + 2) w1).setCell (.inl (.inr rfl)) _).setCell (.inl (.inl rfl)) _).setCell (.inl (.inl rfl)) _).setCell (.inl (.inl rfl)) _).setCell (.inl (.inl rfl)) _

set_option maxRecDepth 100000 in
set_option maxHeartbeats 4000000 in
theorem dom_none_of (w : World) (l : Nat) (k a b c : Int) (s t : ByteArray) (h1 : (k == 1) = false) (h2 : (k == 2) = false) (h3 : (k == 3) = false) (h4 : (k == 4) = false) (h5 : (k == 5) = false) (h6 : (k == 6) = false) (h7 : (k == 7) = false) (h8 : (k == 8) = false) (h9 : (k == 9) = false) (h10 : (k == 10) = false) (h11 : (k == 11) = false) (h12 : (k == 12) = false) :
    Calls Try.prog 18 #[ptr l, opv k a b c s t] w fun e w' => e = .returned (ansv 0 0 0 ⟨#[]⟩) ∧ Quiet w w' := by
  have hq := doW_quiet w k a b c s t
  unfold ptr opv at *
  go_enter Try.func18, Try.ntmps18
  go_wp2
  refine bodyPost_ret (v := ansv 0 0 0 ⟨#[]⟩) (by simp [results, Try.results18, go_sem, ansv, ansC]) rfl ⟨rfl, ?_⟩
  exact hq
end Go.Proofs.Qxb6500365a
