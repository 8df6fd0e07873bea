/-
  THE THIN PLAYERS Do AND DoM, KIND BY KIND, over whatever contract the callee has. (Laid by a small program of ours: gen_do.py.)
-/
import Derived.Test.Qxb6500363aApi
import Derived.Test.Qxb6500363aLibB
import Derived.Test.Qxb6500363aProg
import Derived.KernelRfl
namespace Go.Proofs.Qxb6500363a
open Go.RowKit Go.Qx
set_option linter.unusedSimpArgs false
set_option linter.unusedVariables false

/-- A step of the script as a value. -/
def opv (k a b c : Int) (s t : ByteArray) : Value := .agg #[.int .i64 k, .int .i64 a, .int .i64 b, .int .i64 c, .string s, .string t]
/-- An answer as a value. -/
def ansv (e n : Int) (s : ByteArray) : Value := .agg #[.int .i64 e, .int .i64 n, .string s]

/-- The world in which a player calls: its step, its result, its answer are boxed. -/
def doW (w : World) (k a b c : Int) (s t : ByteArray) : World :=
  (((w.alloc (.cells #[.int .i64 k, .int .i64 a, .int .i64 b, .int .i64 c, .string s, .string t] 34)).alloc (.cells #[.int .i64 0, .int .i64 0, .string ⟨#[]⟩] 37)).alloc (.cells #[.int .i64 0, .int .i64 0, .string ⟨#[]⟩] 37))

theorem doW_quiet (w : World) (k a b c : Int) (s t : ByteArray) : Quiet w (doW w k a b c s t) := (((Chg.refl _ _).alloc _).alloc _).alloc _
theorem doW_size (w : World) (k a b c : Int) (s t : ByteArray) : (doW w k a b c s t).heap.size = w.heap.size + 3 := by unfold doW; simp only [World.size_alloc]

theorem doW_blks (w : World) (k a b c : Int) (s t : ByteArray) : Blk (doW w k a b c s t) (w.heap.size + 1) 37 [.int .i64 0, .int .i64 0, .string ⟨#[]⟩] ∧ Blk (doW w k a b c s t) (w.heap.size + 2) 37 [.int .i64 0, .int .i64 0, .string ⟨#[]⟩] := by
  constructor
  · have := (Blk.new (w.alloc (.cells #[.int .i64 k, .int .i64 a, .int .i64 b, .int .i64 c, .string s, .string t] 34)) 37 [.int .i64 0, .int .i64 0, .string ⟨#[]⟩]).alloc (.cells #[.int .i64 0, .int .i64 0, .string ⟨#[]⟩] 37)
    simp only [World.size_alloc] at this
    exact this
  · have := Blk.new ((w.alloc (.cells #[.int .i64 k, .int .i64 a, .int .i64 b, .int .i64 c, .string s, .string t] 34)).alloc (.cells #[.int .i64 0, .int .i64 0, .string ⟨#[]⟩] 37)) 37 [.int .i64 0, .int .i64 0, .string ⟨#[]⟩]
    simp only [World.size_alloc] at this
    exact this

/-- What a player leaves: the callee's world, but for the player's own two boxes. -/
def Did (S : Nat → Prop) (P : World → World → Prop) (w w' : World) : Prop :=
  Chg S w w' ∧ ∃ W w1, W.heap.size = w.heap.size + 3 ∧ Quiet w W ∧ Chg S W w1 ∧ P W w1 ∧ Chg (fun x => x = w.heap.size + 1 ∨ x = w.heap.size + 2) w1 w'

set_option maxHeartbeats 1000000 in
theorem do_load_of (w : World) (l : Nat) (a b c : Int) (s t : ByteArray) (E : Int) (P : World → World → Prop) (S : Nat → Prop) (hS : ∀ x, S x → x < w.heap.size)
    (h : ∀ W, Quiet w W → W.heap.size = w.heap.size + 3 → Calls Try.prog 30 #[ptr l, .int .i64 a, .string s] W fun e w1 => e = .returned (.int .i64 E) ∧ Chg S W w1 ∧ P W w1) :
    Calls Try.prog 14 #[ptr l, opv 1 a b c s t] w fun e w' => e = .returned (ansv E 0 ⟨#[]⟩) ∧ Did S P w w' := by
  have hq := doW_quiet w 1 a b c s t
  have hz := doW_size w 1 a b c s t
  obtain ⟨hb1, hb2⟩ := doW_blks w 1 a b c s t
  have hc := h _ hq hz
  clear h
  have hcH := hide hc
  clear hc
  unfold ptr opv at *
  go_enter Try.func14, Try.ntmps14
  go_wp2_with fail
  refine (unhide hcH).mono ?_
  rintro e w1 ⟨rfl, hch, hP⟩
  have b1 := hch.blk hb1 (fun h => by have := hS _ h; omega)
  have b2 := hch.blk hb2 (fun h => by have := hS _ h; omega)
  clear hb1 hb2 hcH
  have c1 := b1.cell
  have c2 := b2.cell
  have f1 := b1.frozen
  have f2 := b2.frozen
  have fin : ∀ w', Chg (fun x => x = w.heap.size + 1 ∨ x = w.heap.size + 2) w1 w' → Did S P w w' := by
    intro w' hw'
    refine ⟨?_, _, w1, hz, hq, hch, hP, hw'⟩
    exact Chg.trans' (Chg.trans' (hq.chg S) hch (fun _ _ h => h)) hw' (fun i hi h => by omega)
  have finH := hide fin
  clear fin hz hq hP hch
  have n12 : w.heap.size + 1 ≠ w.heap.size + 2 := by omega
  go_wp2
  refine bodyPost_ret (v := ansv E 0 ⟨#[]⟩) (results_blk (u := 37) (cs := [.int .i64 E, .int .i64 0, .string ⟨#[]⟩]) Try.results14 rfl Try.isAgg37 Try.sizeOf37 ?_) rfl ⟨rfl, unhide finH _ ?_⟩
  · exact ((((b1.set_other n12 _).set 0 _).set 1 _).set 2 _)
  · exact ((((Chg.refl (fun x => x = w.heap.size + 1 ∨ x = w.heap.size + 2) w1).setCell (.inl (.inr rfl)) _).setCell (.inl (.inl rfl)) _).setCell (.inl (.inl rfl)) _).setCell (.inl (.inl rfl)) _

set_option maxHeartbeats 1000000 in
theorem do_poke_of (w : World) (l : Nat) (a b c : Int) (s t : ByteArray) (E : Int) (P : World → World → Prop) (S : Nat → Prop) (hS : ∀ x, S x → x < w.heap.size)
    (h : ∀ W, Quiet w W → W.heap.size = w.heap.size + 3 → Calls Try.prog 31 #[ptr l, .int .i64 a, .int .i64 b] W fun e w1 => e = .returned (.int .i64 E) ∧ Chg S W w1 ∧ P W w1) :
    Calls Try.prog 14 #[ptr l, opv 2 a b c s t] w fun e w' => e = .returned (ansv E 0 ⟨#[]⟩) ∧ Did S P w w' := by
  have hq := doW_quiet w 2 a b c s t
  have hz := doW_size w 2 a b c s t
  obtain ⟨hb1, hb2⟩ := doW_blks w 2 a b c s t
  have hc := h _ hq hz
  clear h
  have hcH := hide hc
  clear hc
  unfold ptr opv at *
  go_enter Try.func14, Try.ntmps14
  go_wp2_with fail
  refine (unhide hcH).mono ?_
  rintro e w1 ⟨rfl, hch, hP⟩
  have b1 := hch.blk hb1 (fun h => by have := hS _ h; omega)
  have b2 := hch.blk hb2 (fun h => by have := hS _ h; omega)
  clear hb1 hb2 hcH
  have c1 := b1.cell
  have c2 := b2.cell
  have f1 := b1.frozen
  have f2 := b2.frozen
  have fin : ∀ w', Chg (fun x => x = w.heap.size + 1 ∨ x = w.heap.size + 2) w1 w' → Did S P w w' := by
    intro w' hw'
    refine ⟨?_, _, w1, hz, hq, hch, hP, hw'⟩
    exact Chg.trans' (Chg.trans' (hq.chg S) hch (fun _ _ h => h)) hw' (fun i hi h => by omega)
  have finH := hide fin
  clear fin hz hq hP hch
  have n12 : w.heap.size + 1 ≠ w.heap.size + 2 := by omega
  go_wp2
  refine bodyPost_ret (v := ansv E 0 ⟨#[]⟩) (results_blk (u := 37) (cs := [.int .i64 E, .int .i64 0, .string ⟨#[]⟩]) Try.results14 rfl Try.isAgg37 Try.sizeOf37 ?_) rfl ⟨rfl, unhide finH _ ?_⟩
  · exact ((((b1.set_other n12 _).set 0 _).set 1 _).set 2 _)
  · exact ((((Chg.refl (fun x => x = w.heap.size + 1 ∨ x = w.heap.size + 2) w1).setCell (.inl (.inr rfl)) _).setCell (.inl (.inl rfl)) _).setCell (.inl (.inl rfl)) _).setCell (.inl (.inl rfl)) _

set_option maxHeartbeats 1000000 in
theorem do_move_of (w : World) (l : Nat) (a b c : Int) (s t : ByteArray) (E : Int) (P : World → World → Prop) (S : Nat → Prop) (hS : ∀ x, S x → x < w.heap.size)
    (h : ∀ W, Quiet w W → W.heap.size = w.heap.size + 3 → Calls Try.prog 32 #[ptr l, .int .i64 a] W fun e w1 => e = .returned (.int .i64 E) ∧ Chg S W w1 ∧ P W w1) :
    Calls Try.prog 14 #[ptr l, opv 3 a b c s t] w fun e w' => e = .returned (ansv E 0 ⟨#[]⟩) ∧ Did S P w w' := by
  have hq := doW_quiet w 3 a b c s t
  have hz := doW_size w 3 a b c s t
  obtain ⟨hb1, hb2⟩ := doW_blks w 3 a b c s t
  have hc := h _ hq hz
  clear h
  have hcH := hide hc
  clear hc
  unfold ptr opv at *
  go_enter Try.func14, Try.ntmps14
  go_wp2_with fail
  refine (unhide hcH).mono ?_
  rintro e w1 ⟨rfl, hch, hP⟩
  have b1 := hch.blk hb1 (fun h => by have := hS _ h; omega)
  have b2 := hch.blk hb2 (fun h => by have := hS _ h; omega)
  clear hb1 hb2 hcH
  have c1 := b1.cell
  have c2 := b2.cell
  have f1 := b1.frozen
  have f2 := b2.frozen
  have fin : ∀ w', Chg (fun x => x = w.heap.size + 1 ∨ x = w.heap.size + 2) w1 w' → Did S P w w' := by
    intro w' hw'
    refine ⟨?_, _, w1, hz, hq, hch, hP, hw'⟩
    exact Chg.trans' (Chg.trans' (hq.chg S) hch (fun _ _ h => h)) hw' (fun i hi h => by omega)
  have finH := hide fin
  clear fin hz hq hP hch
  have n12 : w.heap.size + 1 ≠ w.heap.size + 2 := by omega
  go_wp2
  refine bodyPost_ret (v := ansv E 0 ⟨#[]⟩) (results_blk (u := 37) (cs := [.int .i64 E, .int .i64 0, .string ⟨#[]⟩]) Try.results14 rfl Try.isAgg37 Try.sizeOf37 ?_) rfl ⟨rfl, unhide finH _ ?_⟩
  · exact ((((b1.set_other n12 _).set 0 _).set 1 _).set 2 _)
  · exact ((((Chg.refl (fun x => x = w.heap.size + 1 ∨ x = w.heap.size + 2) w1).setCell (.inl (.inr rfl)) _).setCell (.inl (.inl rfl)) _).setCell (.inl (.inl rfl)) _).setCell (.inl (.inl rfl)) _

set_option maxHeartbeats 1000000 in
theorem do_kick_of (w : World) (l : Nat) (a b c : Int) (s t : ByteArray) (N : Int) (P : World → World → Prop) (S : Nat → Prop) (hS : ∀ x, S x → x < w.heap.size)
    (h : ∀ W, Quiet w W → W.heap.size = w.heap.size + 3 → Calls Try.prog 33 #[ptr l, .int .i64 a] W fun e w1 => e = .returned (.int .i64 N) ∧ Chg S W w1 ∧ P W w1) :
    Calls Try.prog 14 #[ptr l, opv 4 a b c s t] w fun e w' => e = .returned (ansv 0 N ⟨#[]⟩) ∧ Did S P w w' := by
  have hq := doW_quiet w 4 a b c s t
  have hz := doW_size w 4 a b c s t
  obtain ⟨hb1, hb2⟩ := doW_blks w 4 a b c s t
  have hc := h _ hq hz
  clear h
  have hcH := hide hc
  clear hc
  unfold ptr opv at *
  go_enter Try.func14, Try.ntmps14
  go_wp2_with fail
  refine (unhide hcH).mono ?_
  rintro e w1 ⟨rfl, hch, hP⟩
  have b1 := hch.blk hb1 (fun h => by have := hS _ h; omega)
  have b2 := hch.blk hb2 (fun h => by have := hS _ h; omega)
  clear hb1 hb2 hcH
  have c1 := b1.cell
  have c2 := b2.cell
  have f1 := b1.frozen
  have f2 := b2.frozen
  have fin : ∀ w', Chg (fun x => x = w.heap.size + 1 ∨ x = w.heap.size + 2) w1 w' → Did S P w w' := by
    intro w' hw'
    refine ⟨?_, _, w1, hz, hq, hch, hP, hw'⟩
    exact Chg.trans' (Chg.trans' (hq.chg S) hch (fun _ _ h => h)) hw' (fun i hi h => by omega)
  have finH := hide fin
  clear fin hz hq hP hch
  have n12 : w.heap.size + 1 ≠ w.heap.size + 2 := by omega
  go_wp2
  refine bodyPost_ret (v := ansv 0 N ⟨#[]⟩) (results_blk (u := 37) (cs := [.int .i64 0, .int .i64 N, .string ⟨#[]⟩]) Try.results14 rfl Try.isAgg37 Try.sizeOf37 ?_) rfl ⟨rfl, unhide finH _ ?_⟩
  · exact ((((b1.set_other n12 _).set 0 _).set 1 _).set 2 _)
  · exact ((((Chg.refl (fun x => x = w.heap.size + 1 ∨ x = w.heap.size + 2) w1).setCell (.inl (.inr rfl)) _).setCell (.inl (.inl rfl)) _).setCell (.inl (.inl rfl)) _).setCell (.inl (.inl rfl)) _

set_option maxHeartbeats 1000000 in
theorem do_priv_of (w : World) (l : Nat) (a b c : Int) (s t : ByteArray) (N : Int) (P : World → World → Prop) (S : Nat → Prop) (hS : ∀ x, S x → x < w.heap.size)
    (h : ∀ W, Quiet w W → W.heap.size = w.heap.size + 3 → Calls Try.prog 23 #[ptr l, .int .i64 a] W fun e w1 => e = .returned (.int .i64 N) ∧ Chg S W w1 ∧ P W w1) :
    Calls Try.prog 14 #[ptr l, opv 5 a b c s t] w fun e w' => e = .returned (ansv 0 N ⟨#[]⟩) ∧ Did S P w w' := by
  have hq := doW_quiet w 5 a b c s t
  have hz := doW_size w 5 a b c s t
  obtain ⟨hb1, hb2⟩ := doW_blks w 5 a b c s t
  have hc := h _ hq hz
  clear h
  have hcH := hide hc
  clear hc
  unfold ptr opv at *
  go_enter Try.func14, Try.ntmps14
  go_wp2_with fail
  refine (unhide hcH).mono ?_
  rintro e w1 ⟨rfl, hch, hP⟩
  have b1 := hch.blk hb1 (fun h => by have := hS _ h; omega)
  have b2 := hch.blk hb2 (fun h => by have := hS _ h; omega)
  clear hb1 hb2 hcH
  have c1 := b1.cell
  have c2 := b2.cell
  have f1 := b1.frozen
  have f2 := b2.frozen
  have fin : ∀ w', Chg (fun x => x = w.heap.size + 1 ∨ x = w.heap.size + 2) w1 w' → Did S P w w' := by
    intro w' hw'
    refine ⟨?_, _, w1, hz, hq, hch, hP, hw'⟩
    exact Chg.trans' (Chg.trans' (hq.chg S) hch (fun _ _ h => h)) hw' (fun i hi h => by omega)
  have finH := hide fin
  clear fin hz hq hP hch
  have n12 : w.heap.size + 1 ≠ w.heap.size + 2 := by omega
  go_wp2
  refine bodyPost_ret (v := ansv 0 N ⟨#[]⟩) (results_blk (u := 37) (cs := [.int .i64 0, .int .i64 N, .string ⟨#[]⟩]) Try.results14 rfl Try.isAgg37 Try.sizeOf37 ?_) rfl ⟨rfl, unhide finH _ ?_⟩
  · exact ((((b1.set_other n12 _).set 0 _).set 1 _).set 2 _)
  · exact ((((Chg.refl (fun x => x = w.heap.size + 1 ∨ x = w.heap.size + 2) w1).setCell (.inl (.inr rfl)) _).setCell (.inl (.inl rfl)) _).setCell (.inl (.inl rfl)) _).setCell (.inl (.inl rfl)) _

set_option maxHeartbeats 1000000 in
theorem do_tok_of (w : World) (l : Nat) (a b c : Int) (s t : ByteArray) (N : Int) (P : World → World → Prop) (S : Nat → Prop) (hS : ∀ x, S x → x < w.heap.size)
    (h : ∀ W, Quiet w W → W.heap.size = w.heap.size + 3 → Calls Try.prog 25 #[ptr l] W fun e w1 => e = .returned (.int .i64 N) ∧ Chg S W w1 ∧ P W w1) :
    Calls Try.prog 14 #[ptr l, opv 6 a b c s t] w fun e w' => e = .returned (ansv 0 N ⟨#[]⟩) ∧ Did S P w w' := by
  have hq := doW_quiet w 6 a b c s t
  have hz := doW_size w 6 a b c s t
  obtain ⟨hb1, hb2⟩ := doW_blks w 6 a b c s t
  have hc := h _ hq hz
  clear h
  have hcH := hide hc
  clear hc
  unfold ptr opv at *
  go_enter Try.func14, Try.ntmps14
  go_wp2_with fail
  refine (unhide hcH).mono ?_
  rintro e w1 ⟨rfl, hch, hP⟩
  have b1 := hch.blk hb1 (fun h => by have := hS _ h; omega)
  have b2 := hch.blk hb2 (fun h => by have := hS _ h; omega)
  clear hb1 hb2 hcH
  have c1 := b1.cell
  have c2 := b2.cell
  have f1 := b1.frozen
  have f2 := b2.frozen
  have fin : ∀ w', Chg (fun x => x = w.heap.size + 1 ∨ x = w.heap.size + 2) w1 w' → Did S P w w' := by
    intro w' hw'
    refine ⟨?_, _, w1, hz, hq, hch, hP, hw'⟩
    exact Chg.trans' (Chg.trans' (hq.chg S) hch (fun _ _ h => h)) hw' (fun i hi h => by omega)
  have finH := hide fin
  clear fin hz hq hP hch
  have n12 : w.heap.size + 1 ≠ w.heap.size + 2 := by omega
  go_wp2
  refine bodyPost_ret (v := ansv 0 N ⟨#[]⟩) (results_blk (u := 37) (cs := [.int .i64 0, .int .i64 N, .string ⟨#[]⟩]) Try.results14 rfl Try.isAgg37 Try.sizeOf37 ?_) rfl ⟨rfl, unhide finH _ ?_⟩
  · exact ((((b1.set_other n12 _).set 0 _).set 1 _).set 2 _)
  · exact ((((Chg.refl (fun x => x = w.heap.size + 1 ∨ x = w.heap.size + 2) w1).setCell (.inl (.inr rfl)) _).setCell (.inl (.inl rfl)) _).setCell (.inl (.inl rfl)) _).setCell (.inl (.inl rfl)) _

set_option maxHeartbeats 1000000 in
theorem do_pot_of (w : World) (l : Nat) (a b c : Int) (s t : ByteArray) (N : Int) (P : World → World → Prop) (S : Nat → Prop) (hS : ∀ x, S x → x < w.heap.size)
    (h : ∀ W, Quiet w W → W.heap.size = w.heap.size + 3 → Calls Try.prog 26 #[ptr l] W fun e w1 => e = .returned (.int .i64 N) ∧ Chg S W w1 ∧ P W w1) :
    Calls Try.prog 14 #[ptr l, opv 7 a b c s t] w fun e w' => e = .returned (ansv 0 N ⟨#[]⟩) ∧ Did S P w w' := by
  have hq := doW_quiet w 7 a b c s t
  have hz := doW_size w 7 a b c s t
  obtain ⟨hb1, hb2⟩ := doW_blks w 7 a b c s t
  have hc := h _ hq hz
  clear h
  have hcH := hide hc
  clear hc
  unfold ptr opv at *
  go_enter Try.func14, Try.ntmps14
  go_wp2_with fail
  refine (unhide hcH).mono ?_
  rintro e w1 ⟨rfl, hch, hP⟩
  have b1 := hch.blk hb1 (fun h => by have := hS _ h; omega)
  have b2 := hch.blk hb2 (fun h => by have := hS _ h; omega)
  clear hb1 hb2 hcH
  have c1 := b1.cell
  have c2 := b2.cell
  have f1 := b1.frozen
  have f2 := b2.frozen
  have fin : ∀ w', Chg (fun x => x = w.heap.size + 1 ∨ x = w.heap.size + 2) w1 w' → Did S P w w' := by
    intro w' hw'
    refine ⟨?_, _, w1, hz, hq, hch, hP, hw'⟩
    exact Chg.trans' (Chg.trans' (hq.chg S) hch (fun _ _ h => h)) hw' (fun i hi h => by omega)
  have finH := hide fin
  clear fin hz hq hP hch
  have n12 : w.heap.size + 1 ≠ w.heap.size + 2 := by omega
  go_wp2
  refine bodyPost_ret (v := ansv 0 N ⟨#[]⟩) (results_blk (u := 37) (cs := [.int .i64 0, .int .i64 N, .string ⟨#[]⟩]) Try.results14 rfl Try.isAgg37 Try.sizeOf37 ?_) rfl ⟨rfl, unhide finH _ ?_⟩
  · exact ((((b1.set_other n12 _).set 0 _).set 1 _).set 2 _)
  · exact ((((Chg.refl (fun x => x = w.heap.size + 1 ∨ x = w.heap.size + 2) w1).setCell (.inl (.inr rfl)) _).setCell (.inl (.inl rfl)) _).setCell (.inl (.inl rfl)) _).setCell (.inl (.inl rfl)) _

set_option maxHeartbeats 1000000 in
theorem do_show_of (w : World) (l : Nat) (a b c : Int) (s t : ByteArray) (R : ByteArray) (P : World → World → Prop) (S : Nat → Prop) (hS : ∀ x, S x → x < w.heap.size)
    (h : ∀ W, Quiet w W → W.heap.size = w.heap.size + 3 → Calls Try.prog 13 #[ptr l] W fun e w1 => e = .returned (.string R) ∧ Chg S W w1 ∧ P W w1) :
    Calls Try.prog 14 #[ptr l, opv 8 a b c s t] w fun e w' => e = .returned (ansv 0 0 R) ∧ Did S P w w' := by
  have hq := doW_quiet w 8 a b c s t
  have hz := doW_size w 8 a b c s t
  obtain ⟨hb1, hb2⟩ := doW_blks w 8 a b c s t
  have hc := h _ hq hz
  clear h
  have hcH := hide hc
  clear hc
  unfold ptr opv at *
  go_enter Try.func14, Try.ntmps14
  go_wp2_with fail
  refine (unhide hcH).mono ?_
  rintro e w1 ⟨rfl, hch, hP⟩
  have b1 := hch.blk hb1 (fun h => by have := hS _ h; omega)
  have b2 := hch.blk hb2 (fun h => by have := hS _ h; omega)
  clear hb1 hb2 hcH
  have c1 := b1.cell
  have c2 := b2.cell
  have f1 := b1.frozen
  have f2 := b2.frozen
  have fin : ∀ w', Chg (fun x => x = w.heap.size + 1 ∨ x = w.heap.size + 2) w1 w' → Did S P w w' := by
    intro w' hw'
    refine ⟨?_, _, w1, hz, hq, hch, hP, hw'⟩
    exact Chg.trans' (Chg.trans' (hq.chg S) hch (fun _ _ h => h)) hw' (fun i hi h => by omega)
  have finH := hide fin
  clear fin hz hq hP hch
  have n12 : w.heap.size + 1 ≠ w.heap.size + 2 := by omega
  go_wp2
  refine bodyPost_ret (v := ansv 0 0 R) (results_blk (u := 37) (cs := [.int .i64 0, .int .i64 0, .string R]) Try.results14 rfl Try.isAgg37 Try.sizeOf37 ?_) rfl ⟨rfl, unhide finH _ ?_⟩
  · exact ((((b1.set_other n12 _).set 0 _).set 1 _).set 2 _)
  · exact ((((Chg.refl (fun x => x = w.heap.size + 1 ∨ x = w.heap.size + 2) w1).setCell (.inl (.inr rfl)) _).setCell (.inl (.inl rfl)) _).setCell (.inl (.inl rfl)) _).setCell (.inl (.inl rfl)) _

set_option maxHeartbeats 1000000 in
theorem do_check_of (w : World) (l : Nat) (a b c : Int) (s t : ByteArray)  (P : World → World → Prop) (S : Nat → Prop) (hS : ∀ x, S x → x < w.heap.size)
    (h : ∀ W, Quiet w W → W.heap.size = w.heap.size + 3 → Calls Try.prog 27 #[ptr l] W fun e w1 => e = .returned (.bool true) ∧ Chg S W w1 ∧ P W w1) :
    Calls Try.prog 14 #[ptr l, opv 9 a b c s t] w fun e w' => e = .returned (ansv 0 1 ⟨#[]⟩) ∧ Did S P w w' := by
  have hq := doW_quiet w 9 a b c s t
  have hz := doW_size w 9 a b c s t
  obtain ⟨hb1, hb2⟩ := doW_blks w 9 a b c s t
  have hc := h _ hq hz
  clear h
  have hcH := hide hc
  clear hc
  unfold ptr opv at *
  go_enter Try.func14, Try.ntmps14
  go_wp2_with fail
  refine (unhide hcH).mono ?_
  rintro e w1 ⟨rfl, hch, hP⟩
  have b1 := hch.blk hb1 (fun h => by have := hS _ h; omega)
  have b2 := hch.blk hb2 (fun h => by have := hS _ h; omega)
  clear hb1 hb2 hcH
  have c1 := b1.cell
  have c2 := b2.cell
  have f1 := b1.frozen
  have f2 := b2.frozen
  have fin : ∀ w', Chg (fun x => x = w.heap.size + 1 ∨ x = w.heap.size + 2) w1 w' → Did S P w w' := by
    intro w' hw'
    refine ⟨?_, _, w1, hz, hq, hch, hP, hw'⟩
    exact Chg.trans' (Chg.trans' (hq.chg S) hch (fun _ _ h => h)) hw' (fun i hi h => by omega)
  have finH := hide fin
  clear fin hz hq hP hch
  have n12 : w.heap.size + 1 ≠ w.heap.size + 2 := by omega
  go_wp2_with fail
  refine (bit_any _ true).mono ?_
  rintro e w9 ⟨rfl, rfl⟩
  rw [show bit true = 1 from rfl]
  go_wp2
  refine bodyPost_ret (v := ansv 0 1 ⟨#[]⟩) (results_blk (u := 37) (cs := [.int .i64 0, .int .i64 1, .string ⟨#[]⟩]) Try.results14 rfl Try.isAgg37 Try.sizeOf37 ?_) rfl ⟨rfl, unhide finH _ ?_⟩
  · exact ((((b1.set_other n12 _).set 0 _).set 1 _).set 2 _)
  · exact ((((Chg.refl (fun x => x = w.heap.size + 1 ∨ x = w.heap.size + 2) w9).setCell (.inl (.inr rfl)) _).setCell (.inl (.inl rfl)) _).setCell (.inl (.inl rfl)) _).setCell (.inl (.inl rfl)) _

set_option maxHeartbeats 1000000 in
theorem do_none_of (w : World) (l : Nat) (k a b c : Int) (s t : ByteArray) (h1 : (k == 1) = false) (h2 : (k == 2) = false) (h3 : (k == 3) = false) (h4 : (k == 4) = false) (h5 : (k == 5) = false) (h6 : (k == 6) = false) (h7 : (k == 7) = false) (h8 : (k == 8) = false) (h9 : (k == 9) = false) :
    Calls Try.prog 14 #[ptr l, opv k a b c s t] w fun e w' => e = .returned (ansv 0 0 ⟨#[]⟩) ∧ Quiet w w' := by
  have hq := doW_quiet w k a b c s t
  unfold ptr opv at *
  go_enter Try.func14, Try.ntmps14
  go_wp2
  refine bodyPost_ret (v := ansv 0 0 ⟨#[]⟩) (by simp [results, Try.results14, go_sem, ansv]) rfl ⟨rfl, ?_⟩
  exact hq

set_option maxHeartbeats 1000000 in
theorem dom_load_of (w : World) (l : Nat) (a b c : Int) (s t : ByteArray) (E : Int) (P : World → World → Prop) (S : Nat → Prop) (hS : ∀ x, S x → x < w.heap.size)
    (h : ∀ W, Quiet w W → W.heap.size = w.heap.size + 3 → Calls Try.prog 42 #[ptr l, .int .i64 a, .string s] W fun e w1 => e = .returned (.int .i64 E) ∧ Chg S W w1 ∧ P W w1) :
    Calls Try.prog 36 #[ptr l, opv 1 a b c s t] w fun e w' => e = .returned (ansv E 0 ⟨#[]⟩) ∧ Did S P w w' := by
  have hq := doW_quiet w 1 a b c s t
  have hz := doW_size w 1 a b c s t
  obtain ⟨hb1, hb2⟩ := doW_blks w 1 a b c s t
  have hc := h _ hq hz
  clear h
  have hcH := hide hc
  clear hc
  unfold ptr opv at *
  go_enter Try.func36, Try.ntmps36
  go_wp2_with fail
  refine (unhide hcH).mono ?_
  rintro e w1 ⟨rfl, hch, hP⟩
  have b1 := hch.blk hb1 (fun h => by have := hS _ h; omega)
  have b2 := hch.blk hb2 (fun h => by have := hS _ h; omega)
  clear hb1 hb2 hcH
  have c1 := b1.cell
  have c2 := b2.cell
  have f1 := b1.frozen
  have f2 := b2.frozen
  have fin : ∀ w', Chg (fun x => x = w.heap.size + 1 ∨ x = w.heap.size + 2) w1 w' → Did S P w w' := by
    intro w' hw'
    refine ⟨?_, _, w1, hz, hq, hch, hP, hw'⟩
    exact Chg.trans' (Chg.trans' (hq.chg S) hch (fun _ _ h => h)) hw' (fun i hi h => by omega)
  have finH := hide fin
  clear fin hz hq hP hch
  have n12 : w.heap.size + 1 ≠ w.heap.size + 2 := by omega
  go_wp2
  refine bodyPost_ret (v := ansv E 0 ⟨#[]⟩) (results_blk (u := 37) (cs := [.int .i64 E, .int .i64 0, .string ⟨#[]⟩]) Try.results36 rfl Try.isAgg37 Try.sizeOf37 ?_) rfl ⟨rfl, unhide finH _ ?_⟩
  · exact ((((b1.set_other n12 _).set 0 _).set 1 _).set 2 _)
  · exact ((((Chg.refl (fun x => x = w.heap.size + 1 ∨ x = w.heap.size + 2) w1).setCell (.inl (.inr rfl)) _).setCell (.inl (.inl rfl)) _).setCell (.inl (.inl rfl)) _).setCell (.inl (.inl rfl)) _

set_option maxHeartbeats 1000000 in
theorem dom_poke_of (w : World) (l : Nat) (a b c : Int) (s t : ByteArray) (E : Int) (P : World → World → Prop) (S : Nat → Prop) (hS : ∀ x, S x → x < w.heap.size)
    (h : ∀ W, Quiet w W → W.heap.size = w.heap.size + 3 → Calls Try.prog 43 #[ptr l, .int .i64 a, .int .i64 b] W fun e w1 => e = .returned (.int .i64 E) ∧ Chg S W w1 ∧ P W w1) :
    Calls Try.prog 36 #[ptr l, opv 2 a b c s t] w fun e w' => e = .returned (ansv E 0 ⟨#[]⟩) ∧ Did S P w w' := by
  have hq := doW_quiet w 2 a b c s t
  have hz := doW_size w 2 a b c s t
  obtain ⟨hb1, hb2⟩ := doW_blks w 2 a b c s t
  have hc := h _ hq hz
  clear h
  have hcH := hide hc
  clear hc
  unfold ptr opv at *
  go_enter Try.func36, Try.ntmps36
  go_wp2_with fail
  refine (unhide hcH).mono ?_
  rintro e w1 ⟨rfl, hch, hP⟩
  have b1 := hch.blk hb1 (fun h => by have := hS _ h; omega)
  have b2 := hch.blk hb2 (fun h => by have := hS _ h; omega)
  clear hb1 hb2 hcH
  have c1 := b1.cell
  have c2 := b2.cell
  have f1 := b1.frozen
  have f2 := b2.frozen
  have fin : ∀ w', Chg (fun x => x = w.heap.size + 1 ∨ x = w.heap.size + 2) w1 w' → Did S P w w' := by
    intro w' hw'
    refine ⟨?_, _, w1, hz, hq, hch, hP, hw'⟩
    exact Chg.trans' (Chg.trans' (hq.chg S) hch (fun _ _ h => h)) hw' (fun i hi h => by omega)
  have finH := hide fin
  clear fin hz hq hP hch
  have n12 : w.heap.size + 1 ≠ w.heap.size + 2 := by omega
  go_wp2
  refine bodyPost_ret (v := ansv E 0 ⟨#[]⟩) (results_blk (u := 37) (cs := [.int .i64 E, .int .i64 0, .string ⟨#[]⟩]) Try.results36 rfl Try.isAgg37 Try.sizeOf37 ?_) rfl ⟨rfl, unhide finH _ ?_⟩
  · exact ((((b1.set_other n12 _).set 0 _).set 1 _).set 2 _)
  · exact ((((Chg.refl (fun x => x = w.heap.size + 1 ∨ x = w.heap.size + 2) w1).setCell (.inl (.inr rfl)) _).setCell (.inl (.inl rfl)) _).setCell (.inl (.inl rfl)) _).setCell (.inl (.inl rfl)) _

set_option maxHeartbeats 1000000 in
theorem dom_move_of (w : World) (l : Nat) (a b c : Int) (s t : ByteArray) (E : Int) (P : World → World → Prop) (S : Nat → Prop) (hS : ∀ x, S x → x < w.heap.size)
    (h : ∀ W, Quiet w W → W.heap.size = w.heap.size + 3 → Calls Try.prog 44 #[ptr l, .int .i64 a] W fun e w1 => e = .returned (.int .i64 E) ∧ Chg S W w1 ∧ P W w1) :
    Calls Try.prog 36 #[ptr l, opv 3 a b c s t] w fun e w' => e = .returned (ansv E 0 ⟨#[]⟩) ∧ Did S P w w' := by
  have hq := doW_quiet w 3 a b c s t
  have hz := doW_size w 3 a b c s t
  obtain ⟨hb1, hb2⟩ := doW_blks w 3 a b c s t
  have hc := h _ hq hz
  clear h
  have hcH := hide hc
  clear hc
  unfold ptr opv at *
  go_enter Try.func36, Try.ntmps36
  go_wp2_with fail
  refine (unhide hcH).mono ?_
  rintro e w1 ⟨rfl, hch, hP⟩
  have b1 := hch.blk hb1 (fun h => by have := hS _ h; omega)
  have b2 := hch.blk hb2 (fun h => by have := hS _ h; omega)
  clear hb1 hb2 hcH
  have c1 := b1.cell
  have c2 := b2.cell
  have f1 := b1.frozen
  have f2 := b2.frozen
  have fin : ∀ w', Chg (fun x => x = w.heap.size + 1 ∨ x = w.heap.size + 2) w1 w' → Did S P w w' := by
    intro w' hw'
    refine ⟨?_, _, w1, hz, hq, hch, hP, hw'⟩
    exact Chg.trans' (Chg.trans' (hq.chg S) hch (fun _ _ h => h)) hw' (fun i hi h => by omega)
  have finH := hide fin
  clear fin hz hq hP hch
  have n12 : w.heap.size + 1 ≠ w.heap.size + 2 := by omega
  go_wp2
  refine bodyPost_ret (v := ansv E 0 ⟨#[]⟩) (results_blk (u := 37) (cs := [.int .i64 E, .int .i64 0, .string ⟨#[]⟩]) Try.results36 rfl Try.isAgg37 Try.sizeOf37 ?_) rfl ⟨rfl, unhide finH _ ?_⟩
  · exact ((((b1.set_other n12 _).set 0 _).set 1 _).set 2 _)
  · exact ((((Chg.refl (fun x => x = w.heap.size + 1 ∨ x = w.heap.size + 2) w1).setCell (.inl (.inr rfl)) _).setCell (.inl (.inl rfl)) _).setCell (.inl (.inl rfl)) _).setCell (.inl (.inl rfl)) _

set_option maxHeartbeats 1000000 in
theorem dom_kick_of (w : World) (l : Nat) (a b c : Int) (s t : ByteArray) (N : Int) (P : World → World → Prop) (S : Nat → Prop) (hS : ∀ x, S x → x < w.heap.size)
    (h : ∀ W, Quiet w W → W.heap.size = w.heap.size + 3 → Calls Try.prog 45 #[ptr l, .int .i64 a] W fun e w1 => e = .returned (.int .i64 N) ∧ Chg S W w1 ∧ P W w1) :
    Calls Try.prog 36 #[ptr l, opv 4 a b c s t] w fun e w' => e = .returned (ansv 0 N ⟨#[]⟩) ∧ Did S P w w' := by
  have hq := doW_quiet w 4 a b c s t
  have hz := doW_size w 4 a b c s t
  obtain ⟨hb1, hb2⟩ := doW_blks w 4 a b c s t
  have hc := h _ hq hz
  clear h
  have hcH := hide hc
  clear hc
  unfold ptr opv at *
  go_enter Try.func36, Try.ntmps36
  go_wp2_with fail
  refine (unhide hcH).mono ?_
  rintro e w1 ⟨rfl, hch, hP⟩
  have b1 := hch.blk hb1 (fun h => by have := hS _ h; omega)
  have b2 := hch.blk hb2 (fun h => by have := hS _ h; omega)
  clear hb1 hb2 hcH
  have c1 := b1.cell
  have c2 := b2.cell
  have f1 := b1.frozen
  have f2 := b2.frozen
  have fin : ∀ w', Chg (fun x => x = w.heap.size + 1 ∨ x = w.heap.size + 2) w1 w' → Did S P w w' := by
    intro w' hw'
    refine ⟨?_, _, w1, hz, hq, hch, hP, hw'⟩
    exact Chg.trans' (Chg.trans' (hq.chg S) hch (fun _ _ h => h)) hw' (fun i hi h => by omega)
  have finH := hide fin
  clear fin hz hq hP hch
  have n12 : w.heap.size + 1 ≠ w.heap.size + 2 := by omega
  go_wp2
  refine bodyPost_ret (v := ansv 0 N ⟨#[]⟩) (results_blk (u := 37) (cs := [.int .i64 0, .int .i64 N, .string ⟨#[]⟩]) Try.results36 rfl Try.isAgg37 Try.sizeOf37 ?_) rfl ⟨rfl, unhide finH _ ?_⟩
  · exact ((((b1.set_other n12 _).set 0 _).set 1 _).set 2 _)
  · exact ((((Chg.refl (fun x => x = w.heap.size + 1 ∨ x = w.heap.size + 2) w1).setCell (.inl (.inr rfl)) _).setCell (.inl (.inl rfl)) _).setCell (.inl (.inl rfl)) _).setCell (.inl (.inl rfl)) _

set_option maxHeartbeats 1000000 in
theorem dom_priv_of (w : World) (l : Nat) (a b c : Int) (s t : ByteArray) (N : Int) (P : World → World → Prop) (S : Nat → Prop) (hS : ∀ x, S x → x < w.heap.size)
    (h : ∀ W, Quiet w W → W.heap.size = w.heap.size + 3 → Calls Try.prog 46 #[ptr l, .int .i64 a] W fun e w1 => e = .returned (.int .i64 N) ∧ Chg S W w1 ∧ P W w1) :
    Calls Try.prog 36 #[ptr l, opv 5 a b c s t] w fun e w' => e = .returned (ansv 0 N ⟨#[]⟩) ∧ Did S P w w' := by
  have hq := doW_quiet w 5 a b c s t
  have hz := doW_size w 5 a b c s t
  obtain ⟨hb1, hb2⟩ := doW_blks w 5 a b c s t
  have hc := h _ hq hz
  clear h
  have hcH := hide hc
  clear hc
  unfold ptr opv at *
  go_enter Try.func36, Try.ntmps36
  go_wp2_with fail
  refine (unhide hcH).mono ?_
  rintro e w1 ⟨rfl, hch, hP⟩
  have b1 := hch.blk hb1 (fun h => by have := hS _ h; omega)
  have b2 := hch.blk hb2 (fun h => by have := hS _ h; omega)
  clear hb1 hb2 hcH
  have c1 := b1.cell
  have c2 := b2.cell
  have f1 := b1.frozen
  have f2 := b2.frozen
  have fin : ∀ w', Chg (fun x => x = w.heap.size + 1 ∨ x = w.heap.size + 2) w1 w' → Did S P w w' := by
    intro w' hw'
    refine ⟨?_, _, w1, hz, hq, hch, hP, hw'⟩
    exact Chg.trans' (Chg.trans' (hq.chg S) hch (fun _ _ h => h)) hw' (fun i hi h => by omega)
  have finH := hide fin
  clear fin hz hq hP hch
  have n12 : w.heap.size + 1 ≠ w.heap.size + 2 := by omega
  go_wp2
  refine bodyPost_ret (v := ansv 0 N ⟨#[]⟩) (results_blk (u := 37) (cs := [.int .i64 0, .int .i64 N, .string ⟨#[]⟩]) Try.results36 rfl Try.isAgg37 Try.sizeOf37 ?_) rfl ⟨rfl, unhide finH _ ?_⟩
  · exact ((((b1.set_other n12 _).set 0 _).set 1 _).set 2 _)
  · exact ((((Chg.refl (fun x => x = w.heap.size + 1 ∨ x = w.heap.size + 2) w1).setCell (.inl (.inr rfl)) _).setCell (.inl (.inl rfl)) _).setCell (.inl (.inl rfl)) _).setCell (.inl (.inl rfl)) _

set_option maxHeartbeats 1000000 in
theorem dom_tok_of (w : World) (l : Nat) (a b c : Int) (s t : ByteArray) (N : Int) (P : World → World → Prop) (S : Nat → Prop) (hS : ∀ x, S x → x < w.heap.size)
    (h : ∀ W, Quiet w W → W.heap.size = w.heap.size + 3 → Calls Try.prog 47 #[ptr l] W fun e w1 => e = .returned (.int .i64 N) ∧ Chg S W w1 ∧ P W w1) :
    Calls Try.prog 36 #[ptr l, opv 6 a b c s t] w fun e w' => e = .returned (ansv 0 N ⟨#[]⟩) ∧ Did S P w w' := by
  have hq := doW_quiet w 6 a b c s t
  have hz := doW_size w 6 a b c s t
  obtain ⟨hb1, hb2⟩ := doW_blks w 6 a b c s t
  have hc := h _ hq hz
  clear h
  have hcH := hide hc
  clear hc
  unfold ptr opv at *
  go_enter Try.func36, Try.ntmps36
  go_wp2_with fail
  refine (unhide hcH).mono ?_
  rintro e w1 ⟨rfl, hch, hP⟩
  have b1 := hch.blk hb1 (fun h => by have := hS _ h; omega)
  have b2 := hch.blk hb2 (fun h => by have := hS _ h; omega)
  clear hb1 hb2 hcH
  have c1 := b1.cell
  have c2 := b2.cell
  have f1 := b1.frozen
  have f2 := b2.frozen
  have fin : ∀ w', Chg (fun x => x = w.heap.size + 1 ∨ x = w.heap.size + 2) w1 w' → Did S P w w' := by
    intro w' hw'
    refine ⟨?_, _, w1, hz, hq, hch, hP, hw'⟩
    exact Chg.trans' (Chg.trans' (hq.chg S) hch (fun _ _ h => h)) hw' (fun i hi h => by omega)
  have finH := hide fin
  clear fin hz hq hP hch
  have n12 : w.heap.size + 1 ≠ w.heap.size + 2 := by omega
  go_wp2
  refine bodyPost_ret (v := ansv 0 N ⟨#[]⟩) (results_blk (u := 37) (cs := [.int .i64 0, .int .i64 N, .string ⟨#[]⟩]) Try.results36 rfl Try.isAgg37 Try.sizeOf37 ?_) rfl ⟨rfl, unhide finH _ ?_⟩
  · exact ((((b1.set_other n12 _).set 0 _).set 1 _).set 2 _)
  · exact ((((Chg.refl (fun x => x = w.heap.size + 1 ∨ x = w.heap.size + 2) w1).setCell (.inl (.inr rfl)) _).setCell (.inl (.inl rfl)) _).setCell (.inl (.inl rfl)) _).setCell (.inl (.inl rfl)) _

set_option maxHeartbeats 1000000 in
theorem dom_pot_of (w : World) (l : Nat) (a b c : Int) (s t : ByteArray) (N : Int) (P : World → World → Prop) (S : Nat → Prop) (hS : ∀ x, S x → x < w.heap.size)
    (h : ∀ W, Quiet w W → W.heap.size = w.heap.size + 3 → Calls Try.prog 48 #[ptr l] W fun e w1 => e = .returned (.int .i64 N) ∧ Chg S W w1 ∧ P W w1) :
    Calls Try.prog 36 #[ptr l, opv 7 a b c s t] w fun e w' => e = .returned (ansv 0 N ⟨#[]⟩) ∧ Did S P w w' := by
  have hq := doW_quiet w 7 a b c s t
  have hz := doW_size w 7 a b c s t
  obtain ⟨hb1, hb2⟩ := doW_blks w 7 a b c s t
  have hc := h _ hq hz
  clear h
  have hcH := hide hc
  clear hc
  unfold ptr opv at *
  go_enter Try.func36, Try.ntmps36
  go_wp2_with fail
  refine (unhide hcH).mono ?_
  rintro e w1 ⟨rfl, hch, hP⟩
  have b1 := hch.blk hb1 (fun h => by have := hS _ h; omega)
  have b2 := hch.blk hb2 (fun h => by have := hS _ h; omega)
  clear hb1 hb2 hcH
  have c1 := b1.cell
  have c2 := b2.cell
  have f1 := b1.frozen
  have f2 := b2.frozen
  have fin : ∀ w', Chg (fun x => x = w.heap.size + 1 ∨ x = w.heap.size + 2) w1 w' → Did S P w w' := by
    intro w' hw'
    refine ⟨?_, _, w1, hz, hq, hch, hP, hw'⟩
    exact Chg.trans' (Chg.trans' (hq.chg S) hch (fun _ _ h => h)) hw' (fun i hi h => by omega)
  have finH := hide fin
  clear fin hz hq hP hch
  have n12 : w.heap.size + 1 ≠ w.heap.size + 2 := by omega
  go_wp2
  refine bodyPost_ret (v := ansv 0 N ⟨#[]⟩) (results_blk (u := 37) (cs := [.int .i64 0, .int .i64 N, .string ⟨#[]⟩]) Try.results36 rfl Try.isAgg37 Try.sizeOf37 ?_) rfl ⟨rfl, unhide finH _ ?_⟩
  · exact ((((b1.set_other n12 _).set 0 _).set 1 _).set 2 _)
  · exact ((((Chg.refl (fun x => x = w.heap.size + 1 ∨ x = w.heap.size + 2) w1).setCell (.inl (.inr rfl)) _).setCell (.inl (.inl rfl)) _).setCell (.inl (.inl rfl)) _).setCell (.inl (.inl rfl)) _

set_option maxHeartbeats 1000000 in
theorem dom_show_of (w : World) (l : Nat) (a b c : Int) (s t : ByteArray) (R : ByteArray) (P : World → World → Prop) (S : Nat → Prop) (hS : ∀ x, S x → x < w.heap.size)
    (h : ∀ W, Quiet w W → W.heap.size = w.heap.size + 3 → Calls Try.prog 41 #[ptr l] W fun e w1 => e = .returned (.string R) ∧ Chg S W w1 ∧ P W w1) :
    Calls Try.prog 36 #[ptr l, opv 8 a b c s t] w fun e w' => e = .returned (ansv 0 0 R) ∧ Did S P w w' := by
  have hq := doW_quiet w 8 a b c s t
  have hz := doW_size w 8 a b c s t
  obtain ⟨hb1, hb2⟩ := doW_blks w 8 a b c s t
  have hc := h _ hq hz
  clear h
  have hcH := hide hc
  clear hc
  unfold ptr opv at *
  go_enter Try.func36, Try.ntmps36
  go_wp2_with fail
  refine (unhide hcH).mono ?_
  rintro e w1 ⟨rfl, hch, hP⟩
  have b1 := hch.blk hb1 (fun h => by have := hS _ h; omega)
  have b2 := hch.blk hb2 (fun h => by have := hS _ h; omega)
  clear hb1 hb2 hcH
  have c1 := b1.cell
  have c2 := b2.cell
  have f1 := b1.frozen
  have f2 := b2.frozen
  have fin : ∀ w', Chg (fun x => x = w.heap.size + 1 ∨ x = w.heap.size + 2) w1 w' → Did S P w w' := by
    intro w' hw'
    refine ⟨?_, _, w1, hz, hq, hch, hP, hw'⟩
    exact Chg.trans' (Chg.trans' (hq.chg S) hch (fun _ _ h => h)) hw' (fun i hi h => by omega)
  have finH := hide fin
  clear fin hz hq hP hch
  have n12 : w.heap.size + 1 ≠ w.heap.size + 2 := by omega
  go_wp2
  refine bodyPost_ret (v := ansv 0 0 R) (results_blk (u := 37) (cs := [.int .i64 0, .int .i64 0, .string R]) Try.results36 rfl Try.isAgg37 Try.sizeOf37 ?_) rfl ⟨rfl, unhide finH _ ?_⟩
  · exact ((((b1.set_other n12 _).set 0 _).set 1 _).set 2 _)
  · exact ((((Chg.refl (fun x => x = w.heap.size + 1 ∨ x = w.heap.size + 2) w1).setCell (.inl (.inr rfl)) _).setCell (.inl (.inl rfl)) _).setCell (.inl (.inl rfl)) _).setCell (.inl (.inl rfl)) _

set_option maxHeartbeats 1000000 in
theorem dom_check_of (w : World) (l : Nat) (a b c : Int) (s t : ByteArray)  (P : World → World → Prop) (S : Nat → Prop) (hS : ∀ x, S x → x < w.heap.size)
    (h : ∀ W, Quiet w W → W.heap.size = w.heap.size + 3 → Calls Try.prog 49 #[ptr l] W fun e w1 => e = .returned (.bool true) ∧ Chg S W w1 ∧ P W w1) :
    Calls Try.prog 36 #[ptr l, opv 9 a b c s t] w fun e w' => e = .returned (ansv 0 1 ⟨#[]⟩) ∧ Did S P w w' := by
  have hq := doW_quiet w 9 a b c s t
  have hz := doW_size w 9 a b c s t
  obtain ⟨hb1, hb2⟩ := doW_blks w 9 a b c s t
  have hc := h _ hq hz
  clear h
  have hcH := hide hc
  clear hc
  unfold ptr opv at *
  go_enter Try.func36, Try.ntmps36
  go_wp2_with fail
  refine (unhide hcH).mono ?_
  rintro e w1 ⟨rfl, hch, hP⟩
  have b1 := hch.blk hb1 (fun h => by have := hS _ h; omega)
  have b2 := hch.blk hb2 (fun h => by have := hS _ h; omega)
  clear hb1 hb2 hcH
  have c1 := b1.cell
  have c2 := b2.cell
  have f1 := b1.frozen
  have f2 := b2.frozen
  have fin : ∀ w', Chg (fun x => x = w.heap.size + 1 ∨ x = w.heap.size + 2) w1 w' → Did S P w w' := by
    intro w' hw'
    refine ⟨?_, _, w1, hz, hq, hch, hP, hw'⟩
    exact Chg.trans' (Chg.trans' (hq.chg S) hch (fun _ _ h => h)) hw' (fun i hi h => by omega)
  have finH := hide fin
  clear fin hz hq hP hch
  have n12 : w.heap.size + 1 ≠ w.heap.size + 2 := by omega
  go_wp2_with fail
  refine (bit_any _ true).mono ?_
  rintro e w9 ⟨rfl, rfl⟩
  rw [show bit true = 1 from rfl]
  go_wp2
  refine bodyPost_ret (v := ansv 0 1 ⟨#[]⟩) (results_blk (u := 37) (cs := [.int .i64 0, .int .i64 1, .string ⟨#[]⟩]) Try.results36 rfl Try.isAgg37 Try.sizeOf37 ?_) rfl ⟨rfl, unhide finH _ ?_⟩
  · exact ((((b1.set_other n12 _).set 0 _).set 1 _).set 2 _)
  · exact ((((Chg.refl (fun x => x = w.heap.size + 1 ∨ x = w.heap.size + 2) w9).setCell (.inl (.inr rfl)) _).setCell (.inl (.inl rfl)) _).setCell (.inl (.inl rfl)) _).setCell (.inl (.inl rfl)) _

set_option maxHeartbeats 1000000 in
theorem dom_none_of (w : World) (l : Nat) (k a b c : Int) (s t : ByteArray) (h1 : (k == 1) = false) (h2 : (k == 2) = false) (h3 : (k == 3) = false) (h4 : (k == 4) = false) (h5 : (k == 5) = false) (h6 : (k == 6) = false) (h7 : (k == 7) = false) (h8 : (k == 8) = false) (h9 : (k == 9) = false) :
    Calls Try.prog 36 #[ptr l, opv k a b c s t] w fun e w' => e = .returned (ansv 0 0 ⟨#[]⟩) ∧ Quiet w w' := by
  have hq := doW_quiet w k a b c s t
  unfold ptr opv at *
  go_enter Try.func36, Try.ntmps36
  go_wp2
  refine bodyPost_ret (v := ansv 0 0 ⟨#[]⟩) (by simp [results, Try.results36, go_sem, ansv]) rfl ⟨rfl, ?_⟩
  exact hq
end Go.Proofs.Qxb6500363a
