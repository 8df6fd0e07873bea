/-
  THE THIN PLAYER DoM, KIND BY KIND. (gen9do.py)
-/
import Derived.Test.Qxb6500369aDo
namespace Go.Proofs.Qxb6500369a
open Go.RowKit Go.Qx
set_option linter.unusedSimpArgs false
set_option linter.unusedVariables false

set_option maxRecDepth 100000 in
set_option maxHeartbeats 4000000 in
theorem dom_join_of (w : World) (l : Nat) (a b c : Int) (s t : ByteArray) (g : Ms) (E : Int) (P : World → Prop) (S : Nat → Prop) (hS : ∀ x, S x → x < w.heap.size)
    (h : ∀ W, Quiet w W → w.heap.size + 4 ≤ W.heap.size → Calls Try.prog 44 #[ptr l, .int .i64 a] W fun e w1 => e = .returned (.int .i64 E) ∧ Chg S W w1 ∧ P w1) :
    Calls Try.prog 32 #[ptr l, opv 1 a b c s t, msV g] w fun e w' => e = .returned (ansv E 0 o0 ⟨0, 0, 0, 0, 0⟩ ⟨#[]⟩) ∧ Did S P w w' := by
  have hq := doW_quiet w 1 a b c s t g
  obtain ⟨hb1, hb2⟩ := doW_blks w 1 a b c s t g
  have hc := h _ hq (by simp [doW])
  clear h
  have hcH := hide hc
  clear hc
  unfold ptr opv msV at *
  try unfold ouV at *
  try unfold mcV at *
  go_enter Try.func32, Try.ntmps32
  go_wp2_with fail
  refine (unhide hcH).mono ?_
  rintro e w1 ⟨rfl, hch, hP⟩
  have b1 := hch.blk hb1 (fun h => by have := hS _ h; omega)
  have b2 := hch.blk hb2 (fun h => by have := hS _ h; omega)
  clear hb1 hb2 hcH
  have c1 := b1.cell
  have c2 := b2.cell
  have f1 := b1.frozen
  have f2 := b2.frozen
  have fin : ∀ w', Chg (fun x => x = w.heap.size + 2 ∨ x = w.heap.size + 3) w1 w' → Did S P w w' := by
    intro w' hw'
    refine ⟨?_, w1, hP, hw'⟩
    exact Chg.trans' (Chg.trans' (hq.chg S) hch (fun _ _ h => h)) hw' (fun i hi h => by omega)
  have finH := hide fin
  clear fin hq hP hch
  have n12 : w.heap.size + 2 ≠ w.heap.size + 3 := by omega
  go_wp2
  refine bodyPost_ret (v := ansv E 0 o0 ⟨0, 0, 0, 0, 0⟩ ⟨#[]⟩) (results_blk (u := 59) (cs := ansC E 0 o0 ⟨0, 0, 0, 0, 0⟩ ⟨#[]⟩) Try.results32 rfl Try.isAgg59 Try.sizeOf59 ?_) rfl ⟨rfl, unhide finH _ ?_⟩
  · exact (((((((((((((((b1.set_other n12 _).set 0 _).set 1 _).set 2 _).set 3 _).set 4 _).set 5 _).set 6 _).set 7 _).set 8 _).set 9 _).set 10 _).set 11 _).set 12 _).set 13 _)
  · exact (((((((((((((((Chg.refl (fun x => x = w.heap.size + 2 ∨ x = w.heap.size + 3) w1).setCell (.inl (.inr rfl)) _).setCell (.inl (.inl rfl)) _).setCell (.inl (.inl rfl)) _).setCell (.inl (.inl rfl)) _).setCell (.inl (.inl rfl)) _).setCell (.inl (.inl rfl)) _).setCell (.inl (.inl rfl)) _).setCell (.inl (.inl rfl)) _).setCell (.inl (.inl rfl)) _).setCell (.inl (.inl rfl)) _).setCell (.inl (.inl rfl)) _).setCell (.inl (.inl rfl)) _).setCell (.inl (.inl rfl)) _).setCell (.inl (.inl rfl)) _).setCell (.inl (.inl rfl)) _

set_option maxRecDepth 100000 in
set_option maxHeartbeats 4000000 in
theorem dom_start_of (w : World) (l : Nat) (a b c : Int) (s t : ByteArray) (g : Ms) (E : Int) (P : World → Prop) (S : Nat → Prop) (hS : ∀ x, S x → x < w.heap.size)
    (h : ∀ W, Quiet w W → Calls Try.prog 45 #[ptr l, .int .i64 a] W fun e w1 => e = .returned (.int .i64 E) ∧ Chg S W w1 ∧ P w1) :
    Calls Try.prog 32 #[ptr l, opv 2 a b c s t, msV g] w fun e w' => e = .returned (ansv E 0 o0 ⟨0, 0, 0, 0, 0⟩ ⟨#[]⟩) ∧ Did S P w w' := by
  have hq := doW_quiet w 2 a b c s t g
  obtain ⟨hb1, hb2⟩ := doW_blks w 2 a b c s t g
  have hc := h _ hq
  clear h
  have hcH := hide hc
  clear hc
  unfold ptr opv msV at *
  try unfold ouV at *
  try unfold mcV at *
  go_enter Try.func32, Try.ntmps32
  go_wp2_with fail
  refine (unhide hcH).mono ?_
  rintro e w1 ⟨rfl, hch, hP⟩
  have b1 := hch.blk hb1 (fun h => by have := hS _ h; omega)
  have b2 := hch.blk hb2 (fun h => by have := hS _ h; omega)
  clear hb1 hb2 hcH
  have c1 := b1.cell
  have c2 := b2.cell
  have f1 := b1.frozen
  have f2 := b2.frozen
  have fin : ∀ w', Chg (fun x => x = w.heap.size + 2 ∨ x = w.heap.size + 3) w1 w' → Did S P w w' := by
    intro w' hw'
    refine ⟨?_, w1, hP, hw'⟩
    exact Chg.trans' (Chg.trans' (hq.chg S) hch (fun _ _ h => h)) hw' (fun i hi h => by omega)
  have finH := hide fin
  clear fin hq hP hch
  have n12 : w.heap.size + 2 ≠ w.heap.size + 3 := by omega
  go_wp2
  refine bodyPost_ret (v := ansv E 0 o0 ⟨0, 0, 0, 0, 0⟩ ⟨#[]⟩) (results_blk (u := 59) (cs := ansC E 0 o0 ⟨0, 0, 0, 0, 0⟩ ⟨#[]⟩) Try.results32 rfl Try.isAgg59 Try.sizeOf59 ?_) rfl ⟨rfl, unhide finH _ ?_⟩
  · exact (((((((((((((((b1.set_other n12 _).set 0 _).set 1 _).set 2 _).set 3 _).set 4 _).set 5 _).set 6 _).set 7 _).set 8 _).set 9 _).set 10 _).set 11 _).set 12 _).set 13 _)
  · exact (((((((((((((((Chg.refl (fun x => x = w.heap.size + 2 ∨ x = w.heap.size + 3) w1).setCell (.inl (.inr rfl)) _).setCell (.inl (.inl rfl)) _).setCell (.inl (.inl rfl)) _).setCell (.inl (.inl rfl)) _).setCell (.inl (.inl rfl)) _).setCell (.inl (.inl rfl)) _).setCell (.inl (.inl rfl)) _).setCell (.inl (.inl rfl)) _).setCell (.inl (.inl rfl)) _).setCell (.inl (.inl rfl)) _).setCell (.inl (.inl rfl)) _).setCell (.inl (.inl rfl)) _).setCell (.inl (.inl rfl)) _).setCell (.inl (.inl rfl)) _).setCell (.inl (.inl rfl)) _

set_option maxRecDepth 100000 in
set_option maxHeartbeats 4000000 in
theorem dom_reset_of (w : World) (l : Nat) (a b c : Int) (s t : ByteArray) (g : Ms)  (P : World → Prop) (S : Nat → Prop) (hS : ∀ x, S x → x < w.heap.size)
    (h : ∀ W, Quiet w W → Calls Try.prog 46 #[ptr l] W fun e w1 => e = .returned (.tuple #[]) ∧ Chg S W w1 ∧ P w1) :
    Calls Try.prog 32 #[ptr l, opv 3 a b c s t, msV g] w fun e w' => e = .returned (ansv 0 0 o0 ⟨0, 0, 0, 0, 0⟩ ⟨#[]⟩) ∧ Did S P w w' := by
  have hq := doW_quiet w 3 a b c s t g
  obtain ⟨hb1, hb2⟩ := doW_blks w 3 a b c s t g
  have hc := h _ hq
  clear h
  have hcH := hide hc
  clear hc
  unfold ptr opv msV at *
  try unfold ouV at *
  try unfold mcV at *
  go_enter Try.func32, Try.ntmps32
  go_wp2_with fail
  refine (unhide hcH).mono ?_
  rintro e w1 ⟨rfl, hch, hP⟩
  have b1 := hch.blk hb1 (fun h => by have := hS _ h; omega)
  have b2 := hch.blk hb2 (fun h => by have := hS _ h; omega)
  clear hb1 hb2 hcH
  have c1 := b1.cell
  have c2 := b2.cell
  have f1 := b1.frozen
  have f2 := b2.frozen
  have fin : ∀ w', Chg (fun x => x = w.heap.size + 2 ∨ x = w.heap.size + 3) w1 w' → Did S P w w' := by
    intro w' hw'
    refine ⟨?_, w1, hP, hw'⟩
    exact Chg.trans' (Chg.trans' (hq.chg S) hch (fun _ _ h => h)) hw' (fun i hi h => by omega)
  have finH := hide fin
  clear fin hq hP hch
  have n12 : w.heap.size + 2 ≠ w.heap.size + 3 := by omega
  go_wp2
  refine bodyPost_ret (v := ansv 0 0 o0 ⟨0, 0, 0, 0, 0⟩ ⟨#[]⟩) (results_blk (u := 59) (cs := ansC 0 0 o0 ⟨0, 0, 0, 0, 0⟩ ⟨#[]⟩) Try.results32 rfl Try.isAgg59 Try.sizeOf59 ?_) rfl ⟨rfl, unhide finH _ ?_⟩
  · exact ((((((((((((((b1.set 0 _).set 1 _).set 2 _).set 3 _).set 4 _).set 5 _).set 6 _).set 7 _).set 8 _).set 9 _).set 10 _).set 11 _).set 12 _).set 13 _)
  · exact ((((((((((((((Chg.refl (fun x => x = w.heap.size + 2 ∨ x = w.heap.size + 3) w1).setCell (.inl (.inl rfl)) _).setCell (.inl (.inl rfl)) _).setCell (.inl (.inl rfl)) _).setCell (.inl (.inl rfl)) _).setCell (.inl (.inl rfl)) _).setCell (.inl (.inl rfl)) _).setCell (.inl (.inl rfl)) _).setCell (.inl (.inl rfl)) _).setCell (.inl (.inl rfl)) _).setCell (.inl (.inl rfl)) _).setCell (.inl (.inl rfl)) _).setCell (.inl (.inl rfl)) _).setCell (.inl (.inl rfl)) _).setCell (.inl (.inl rfl)) _

set_option maxRecDepth 100000 in
set_option maxHeartbeats 4000000 in
theorem dom_wake_of (w : World) (l : Nat) (a b c : Int) (s t : ByteArray) (g : Ms) (o : Ou) (E : Int) (P : World → Prop) (S : Nat → Prop) (hS : ∀ x, S x → x < w.heap.size)
    (h : ∀ W, Quiet w W → Calls Try.prog 47 #[ptr l, .int .i64 a, .int .i64 b, msV ⟨4, 0, 0⟩] W fun e w1 => e = .returned (.tuple #[ouV o, .int .i64 E]) ∧ Chg S W w1 ∧ P w1) :
    Calls Try.prog 32 #[ptr l, opv 4 a b c s t, msV g] w fun e w' => e = .returned (ansv E 0 o ⟨0, 0, 0, 0, 0⟩ ⟨#[]⟩) ∧ Did S P w w' := by
  have hq := doW_quiet w 4 a b c s t g
  obtain ⟨hb1, hb2⟩ := doW_blks w 4 a b c s t g
  have hc := h _ hq
  clear h
  have hcH := hide hc
  clear hc
  unfold ptr opv msV at *
  try unfold ouV at *
  try unfold mcV at *
  go_enter Try.func32, Try.ntmps32
  go_wp2_with fail
  refine (unhide hcH).mono ?_
  rintro e w1 ⟨rfl, hch, hP⟩
  have b1 := hch.blk hb1 (fun h => by have := hS _ h; omega)
  have b2 := hch.blk hb2 (fun h => by have := hS _ h; omega)
  clear hb1 hb2 hcH
  have c1 := b1.cell
  have c2 := b2.cell
  have f1 := b1.frozen
  have f2 := b2.frozen
  have fin : ∀ w', Chg (fun x => x = w.heap.size + 2 ∨ x = w.heap.size + 3) w1 w' → Did S P w w' := by
    intro w' hw'
    refine ⟨?_, w1, hP, hw'⟩
    exact Chg.trans' (Chg.trans' (hq.chg S) hch (fun _ _ h => h)) hw' (fun i hi h => by omega)
  have finH := hide fin
  clear fin hq hP hch
  have n12 : w.heap.size + 2 ≠ w.heap.size + 3 := by omega
  go_wp2
  refine bodyPost_ret (v := ansv E 0 o ⟨0, 0, 0, 0, 0⟩ ⟨#[]⟩) (results_blk (u := 59) (cs := ansC E 0 o ⟨0, 0, 0, 0, 0⟩ ⟨#[]⟩) Try.results32 rfl Try.isAgg59 Try.sizeOf59 ?_) rfl ⟨rfl, unhide finH _ ?_⟩
  · exact (((((((((((((((((((((b1.set_other n12 _).set_other n12 _).set_other n12 _).set_other n12 _).set_other n12 _).set_other n12 _).set_other n12 _).set 0 _).set 1 _).set 2 _).set 3 _).set 4 _).set 5 _).set 6 _).set 7 _).set 8 _).set 9 _).set 10 _).set 11 _).set 12 _).set 13 _)
  · exact (((((((((((((((((((((Chg.refl (fun x => x = w.heap.size + 2 ∨ x = w.heap.size + 3) w1).setCell (.inl (.inr rfl)) _).setCell (.inl (.inr rfl)) _).setCell (.inl (.inr rfl)) _).setCell (.inl (.inr rfl)) _).setCell (.inl (.inr rfl)) _).setCell (.inl (.inr rfl)) _).setCell (.inl (.inr rfl)) _).setCell (.inl (.inl rfl)) _).setCell (.inl (.inl rfl)) _).setCell (.inl (.inl rfl)) _).setCell (.inl (.inl rfl)) _).setCell (.inl (.inl rfl)) _).setCell (.inl (.inl rfl)) _).setCell (.inl (.inl rfl)) _).setCell (.inl (.inl rfl)) _).setCell (.inl (.inl rfl)) _).setCell (.inl (.inl rfl)) _).setCell (.inl (.inl rfl)) _).setCell (.inl (.inl rfl)) _).setCell (.inl (.inl rfl)) _).setCell (.inl (.inl rfl)) _

set_option maxRecDepth 100000 in
set_option maxHeartbeats 4000000 in
theorem dom_step_of (w : World) (l : Nat) (a b c : Int) (s t : ByteArray) (g : Ms) (o : Ou) (E : Int) (P : World → Prop) (S : Nat → Prop) (hS : ∀ x, S x → x < w.heap.size)
    (h : ∀ W, Quiet w W → Calls Try.prog 47 #[ptr l, .int .i64 a, .int .i64 b, msV g] W fun e w1 => e = .returned (.tuple #[ouV o, .int .i64 E]) ∧ Chg S W w1 ∧ P w1) :
    Calls Try.prog 32 #[ptr l, opv 6 a b c s t, msV g] w fun e w' => e = .returned (ansv E 0 o ⟨0, 0, 0, 0, 0⟩ ⟨#[]⟩) ∧ Did S P w w' := by
  have hq := doW_quiet w 6 a b c s t g
  obtain ⟨hb1, hb2⟩ := doW_blks w 6 a b c s t g
  have hc := h _ hq
  clear h
  have hcH := hide hc
  clear hc
  unfold ptr opv msV at *
  try unfold ouV at *
  try unfold mcV at *
  go_enter Try.func32, Try.ntmps32
  go_wp2_with fail
  refine (unhide hcH).mono ?_
  rintro e w1 ⟨rfl, hch, hP⟩
  have b1 := hch.blk hb1 (fun h => by have := hS _ h; omega)
  have b2 := hch.blk hb2 (fun h => by have := hS _ h; omega)
  clear hb1 hb2 hcH
  have c1 := b1.cell
  have c2 := b2.cell
  have f1 := b1.frozen
  have f2 := b2.frozen
  have fin : ∀ w', Chg (fun x => x = w.heap.size + 2 ∨ x = w.heap.size + 3) w1 w' → Did S P w w' := by
    intro w' hw'
    refine ⟨?_, w1, hP, hw'⟩
    exact Chg.trans' (Chg.trans' (hq.chg S) hch (fun _ _ h => h)) hw' (fun i hi h => by omega)
  have finH := hide fin
  clear fin hq hP hch
  have n12 : w.heap.size + 2 ≠ w.heap.size + 3 := by omega
  go_wp2
  refine bodyPost_ret (v := ansv E 0 o ⟨0, 0, 0, 0, 0⟩ ⟨#[]⟩) (results_blk (u := 59) (cs := ansC E 0 o ⟨0, 0, 0, 0, 0⟩ ⟨#[]⟩) Try.results32 rfl Try.isAgg59 Try.sizeOf59 ?_) rfl ⟨rfl, unhide finH _ ?_⟩
  · exact (((((((((((((((((((((b1.set_other n12 _).set_other n12 _).set_other n12 _).set_other n12 _).set_other n12 _).set_other n12 _).set_other n12 _).set 0 _).set 1 _).set 2 _).set 3 _).set 4 _).set 5 _).set 6 _).set 7 _).set 8 _).set 9 _).set 10 _).set 11 _).set 12 _).set 13 _)
  · exact (((((((((((((((((((((Chg.refl (fun x => x = w.heap.size + 2 ∨ x = w.heap.size + 3) w1).setCell (.inl (.inr rfl)) _).setCell (.inl (.inr rfl)) _).setCell (.inl (.inr rfl)) _).setCell (.inl (.inr rfl)) _).setCell (.inl (.inr rfl)) _).setCell (.inl (.inr rfl)) _).setCell (.inl (.inr rfl)) _).setCell (.inl (.inl rfl)) _).setCell (.inl (.inl rfl)) _).setCell (.inl (.inl rfl)) _).setCell (.inl (.inl rfl)) _).setCell (.inl (.inl rfl)) _).setCell (.inl (.inl rfl)) _).setCell (.inl (.inl rfl)) _).setCell (.inl (.inl rfl)) _).setCell (.inl (.inl rfl)) _).setCell (.inl (.inl rfl)) _).setCell (.inl (.inl rfl)) _).setCell (.inl (.inl rfl)) _).setCell (.inl (.inl rfl)) _).setCell (.inl (.inl rfl)) _

set_option maxRecDepth 100000 in
set_option maxHeartbeats 4000000 in
theorem dom_node_of (w : World) (l : Nat) (a b c : Int) (s t : ByteArray) (g : Ms) (d : N5) (E : Int) (P : World → Prop) (S : Nat → Prop) (hS : ∀ x, S x → x < w.heap.size)
    (h : ∀ W, Quiet w W → Calls Try.prog 48 #[ptr l, .int .i64 a] W fun e w1 => e = .returned (.tuple #[mcV d, .int .i64 E]) ∧ Chg S W w1 ∧ P w1) :
    Calls Try.prog 32 #[ptr l, opv 7 a b c s t, msV g] w fun e w' => e = .returned (ansv E 0 o0 d ⟨#[]⟩) ∧ Did S P w w' := by
  have hq := doW_quiet w 7 a b c s t g
  obtain ⟨hb1, hb2⟩ := doW_blks w 7 a b c s t g
  have hc := h _ hq
  clear h
  have hcH := hide hc
  clear hc
  unfold ptr opv msV at *
  try unfold ouV at *
  try unfold mcV at *
  go_enter Try.func32, Try.ntmps32
  go_wp2_with fail
  refine (unhide hcH).mono ?_
  rintro e w1 ⟨rfl, hch, hP⟩
  have b1 := hch.blk hb1 (fun h => by have := hS _ h; omega)
  have b2 := hch.blk hb2 (fun h => by have := hS _ h; omega)
  clear hb1 hb2 hcH
  have c1 := b1.cell
  have c2 := b2.cell
  have f1 := b1.frozen
  have f2 := b2.frozen
  have fin : ∀ w', Chg (fun x => x = w.heap.size + 2 ∨ x = w.heap.size + 3) w1 w' → Did S P w w' := by
    intro w' hw'
    refine ⟨?_, w1, hP, hw'⟩
    exact Chg.trans' (Chg.trans' (hq.chg S) hch (fun _ _ h => h)) hw' (fun i hi h => by omega)
  have finH := hide fin
  clear fin hq hP hch
  have n12 : w.heap.size + 2 ≠ w.heap.size + 3 := by omega
  go_wp2
  refine bodyPost_ret (v := ansv E 0 o0 d ⟨#[]⟩) (results_blk (u := 59) (cs := ansC E 0 o0 d ⟨#[]⟩) Try.results32 rfl Try.isAgg59 Try.sizeOf59 ?_) rfl ⟨rfl, unhide finH _ ?_⟩
  · exact ((((((((((((((((((((b1.set_other n12 _).set_other n12 _).set_other n12 _).set_other n12 _).set_other n12 _).set_other n12 _).set 0 _).set 1 _).set 2 _).set 3 _).set 4 _).set 5 _).set 6 _).set 7 _).set 8 _).set 9 _).set 10 _).set 11 _).set 12 _).set 13 _)
  · exact ((((((((((((((((((((Chg.refl (fun x => x = w.heap.size + 2 ∨ x = w.heap.size + 3) w1).setCell (.inl (.inr rfl)) _).setCell (.inl (.inr rfl)) _).setCell (.inl (.inr rfl)) _).setCell (.inl (.inr rfl)) _).setCell (.inl (.inr rfl)) _).setCell (.inl (.inr rfl)) _).setCell (.inl (.inl rfl)) _).setCell (.inl (.inl rfl)) _).setCell (.inl (.inl rfl)) _).setCell (.inl (.inl rfl)) _).setCell (.inl (.inl rfl)) _).setCell (.inl (.inl rfl)) _).setCell (.inl (.inl rfl)) _).setCell (.inl (.inl rfl)) _).setCell (.inl (.inl rfl)) _).setCell (.inl (.inl rfl)) _).setCell (.inl (.inl rfl)) _).setCell (.inl (.inl rfl)) _).setCell (.inl (.inl rfl)) _).setCell (.inl (.inl rfl)) _

set_option maxRecDepth 100000 in
set_option maxHeartbeats 4000000 in
theorem dom_show_of (w : World) (l : Nat) (a b c : Int) (s t : ByteArray) (g : Ms) (R : ByteArray) (P : World → Prop) (S : Nat → Prop) (hS : ∀ x, S x → x < w.heap.size)
    (h : ∀ W, Quiet w W → Calls Try.prog 33 #[ptr l] W fun e w1 => e = .returned (.string R) ∧ Chg S W w1 ∧ P w1) :
    Calls Try.prog 32 #[ptr l, opv 8 a b c s t, msV g] w fun e w' => e = .returned (ansv 0 0 o0 ⟨0, 0, 0, 0, 0⟩ R) ∧ Did S P w w' := by
  have hq := doW_quiet w 8 a b c s t g
  obtain ⟨hb1, hb2⟩ := doW_blks w 8 a b c s t g
  have hc := h _ hq
  clear h
  have hcH := hide hc
  clear hc
  unfold ptr opv msV at *
  try unfold ouV at *
  try unfold mcV at *
  go_enter Try.func32, Try.ntmps32
  go_wp2_with fail
  refine (unhide hcH).mono ?_
  rintro e w1 ⟨rfl, hch, hP⟩
  have b1 := hch.blk hb1 (fun h => by have := hS _ h; omega)
  have b2 := hch.blk hb2 (fun h => by have := hS _ h; omega)
  clear hb1 hb2 hcH
  have c1 := b1.cell
  have c2 := b2.cell
  have f1 := b1.frozen
  have f2 := b2.frozen
  have fin : ∀ w', Chg (fun x => x = w.heap.size + 2 ∨ x = w.heap.size + 3) w1 w' → Did S P w w' := by
    intro w' hw'
    refine ⟨?_, w1, hP, hw'⟩
    exact Chg.trans' (Chg.trans' (hq.chg S) hch (fun _ _ h => h)) hw' (fun i hi h => by omega)
  have finH := hide fin
  clear fin hq hP hch
  have n12 : w.heap.size + 2 ≠ w.heap.size + 3 := by omega
  go_wp2
  refine bodyPost_ret (v := ansv 0 0 o0 ⟨0, 0, 0, 0, 0⟩ R) (results_blk (u := 59) (cs := ansC 0 0 o0 ⟨0, 0, 0, 0, 0⟩ R) Try.results32 rfl Try.isAgg59 Try.sizeOf59 ?_) rfl ⟨rfl, unhide finH _ ?_⟩
  · exact (((((((((((((((b1.set_other n12 _).set 0 _).set 1 _).set 2 _).set 3 _).set 4 _).set 5 _).set 6 _).set 7 _).set 8 _).set 9 _).set 10 _).set 11 _).set 12 _).set 13 _)
  · exact (((((((((((((((Chg.refl (fun x => x = w.heap.size + 2 ∨ x = w.heap.size + 3) w1).setCell (.inl (.inr rfl)) _).setCell (.inl (.inl rfl)) _).setCell (.inl (.inl rfl)) _).setCell (.inl (.inl rfl)) _).setCell (.inl (.inl rfl)) _).setCell (.inl (.inl rfl)) _).setCell (.inl (.inl rfl)) _).setCell (.inl (.inl rfl)) _).setCell (.inl (.inl rfl)) _).setCell (.inl (.inl rfl)) _).setCell (.inl (.inl rfl)) _).setCell (.inl (.inl rfl)) _).setCell (.inl (.inl rfl)) _).setCell (.inl (.inl rfl)) _).setCell (.inl (.inl rfl)) _

set_option maxRecDepth 100000 in
set_option maxHeartbeats 4000000 in
theorem dom_check_of (w : World) (l : Nat) (a b c : Int) (s t : ByteArray) (g : Ms)  (P : World → Prop) (S : Nat → Prop) (hS : ∀ x, S x → x < w.heap.size)
    (h : ∀ W, Quiet w W → Calls Try.prog 49 #[ptr l] W fun e w1 => e = .returned (.bool true) ∧ Chg S W w1 ∧ P w1) :
    Calls Try.prog 32 #[ptr l, opv 9 a b c s t, msV g] w fun e w' => e = .returned (ansv 0 1 o0 ⟨0, 0, 0, 0, 0⟩ ⟨#[]⟩) ∧ Did S P w w' := by
  have hq := doW_quiet w 9 a b c s t g
  obtain ⟨hb1, hb2⟩ := doW_blks w 9 a b c s t g
  have hc := h _ hq
  clear h
  have hcH := hide hc
  clear hc
  unfold ptr opv msV at *
  try unfold ouV at *
  try unfold mcV at *
  go_enter Try.func32, Try.ntmps32
  go_wp2_with fail
  refine (unhide hcH).mono ?_
  rintro e w1 ⟨rfl, hch, hP⟩
  have b1 := hch.blk hb1 (fun h => by have := hS _ h; omega)
  have b2 := hch.blk hb2 (fun h => by have := hS _ h; omega)
  clear hb1 hb2 hcH
  have c1 := b1.cell
  have c2 := b2.cell
  have f1 := b1.frozen
  have f2 := b2.frozen
  have fin : ∀ w', Chg (fun x => x = w.heap.size + 2 ∨ x = w.heap.size + 3) w1 w' → Did S P w w' := by
    intro w' hw'
    refine ⟨?_, w1, hP, hw'⟩
    exact Chg.trans' (Chg.trans' (hq.chg S) hch (fun _ _ h => h)) hw' (fun i hi h => by omega)
  have finH := hide fin
  clear fin hq hP hch
  have n12 : w.heap.size + 2 ≠ w.heap.size + 3 := by omega
  go_wp2
  refine bodyPost_ret (v := ansv 0 1 o0 ⟨0, 0, 0, 0, 0⟩ ⟨#[]⟩) (results_blk (u := 59) (cs := ansC 0 1 o0 ⟨0, 0, 0, 0, 0⟩ ⟨#[]⟩) Try.results32 rfl Try.isAgg59 Try.sizeOf59 ?_) rfl ⟨rfl, unhide finH _ ?_⟩
  · exact (((((((((((((((b1.set_other n12 _).set 0 _).set 1 _).set 2 _).set 3 _).set 4 _).set 5 _).set 6 _).set 7 _).set 8 _).set 9 _).set 10 _).set 11 _).set 12 _).set 13 _)
  · exact (((((((((((((((Chg.refl (fun x => x = w.heap.size + 2 ∨ x = w.heap.size + 3) w1).setCell (.inl (.inr rfl)) _).setCell (.inl (.inl rfl)) _).setCell (.inl (.inl rfl)) _).setCell (.inl (.inl rfl)) _).setCell (.inl (.inl rfl)) _).setCell (.inl (.inl rfl)) _).setCell (.inl (.inl rfl)) _).setCell (.inl (.inl rfl)) _).setCell (.inl (.inl rfl)) _).setCell (.inl (.inl rfl)) _).setCell (.inl (.inl rfl)) _).setCell (.inl (.inl rfl)) _).setCell (.inl (.inl rfl)) _).setCell (.inl (.inl rfl)) _).setCell (.inl (.inl rfl)) _

set_option maxRecDepth 100000 in
set_option maxHeartbeats 4000000 in
theorem dom_none_of (w : World) (l : Nat) (k a b c : Int) (s t : ByteArray) (g : Ms) (h1 : (k == 1) = false) (h2 : (k == 2) = false) (h3 : (k == 3) = false) (h4 : (k == 4) = false) (h6 : (k == 6) = false) (h7 : (k == 7) = false) (h8 : (k == 8) = false) (h9 : (k == 9) = false) :
    Calls Try.prog 32 #[ptr l, opv k a b c s t, msV g] w fun e w' => e = .returned (ansv 0 0 o0 ⟨0, 0, 0, 0, 0⟩ ⟨#[]⟩) ∧ Quiet w w' := by
  have hq := doW_quiet w k a b c s t g
  unfold ptr opv msV at *
  go_enter Try.func32, Try.ntmps32
  go_wp2
  refine bodyPost_ret (v := ansv 0 0 o0 ⟨0, 0, 0, 0, 0⟩ ⟨#[]⟩) (by simp [results, Try.results32, go_sem, ansv, ansC, o0, m0]) rfl ⟨rfl, ?_⟩
  exact hq
end Go.Proofs.Qxb6500369a
