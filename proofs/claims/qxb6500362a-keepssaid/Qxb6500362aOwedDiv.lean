/-
  Owed OF A DIVISION. (gen2owdiv.py)
-/
import Derived.Test.Qxb6500362aOwed
import Derived.Test.Qxb6500362aMod4
namespace Go.Proofs.Qxb6500362a
open Go.RowKit Go.Qx
set_option linter.unusedVariables false
set_option linter.unusedSimpArgs false

set_option maxRecDepth 100000 in
set_option maxHeartbeats 4000000 in
theorem owed_div_p1 (w : World) (y u : Nat) (re im : Nat → Int) (R : Rep w y u re im) (I : Inv re im) (ka : Nat) (hka : ka < 4) (e0 : cellsP ka ka = true) (s t : ByteArray) :
    Calls Try.prog 33 #[ptr y, .agg #[.int .i64 10, .int .i64 ka, .int .i64 1, .int .i64 0, .string s, .string t]] w fun e w' => e = .returned (.int .i64 (divE re im ka 1 0)) ∧ Quiet w w' := by
  have q0 : Quiet w (w.alloc (.cells #[.int .i64 10, .int .i64 ka, .int .i64 1, .int .i64 0, .string s, .string t] 28)) := (Chg.refl _ _).alloc _
  have bo := Blk.new w 28 [.int .i64 10, .int .i64 ka, .int .i64 1, .int .i64 0, .string s, .string t]
  have co := bo.cell
  have gX : Hid (∀ W, Quiet w W → Calls Try.prog 15 #[.pointer (some ⟨y, 0, none⟩), .agg #[.int .i64 3, .int .i64 ka, .int .i64 0, .int .i64 0, .string ⟨#[]⟩, .string ⟨#[]⟩]] W fun e w' => e = .returned (.agg #[.int .i64 (getP re im ka).2.2, .int .i64 (getP re im ka).1, .int .i64 (getP re im ka).2.1, .string ⟨#[]⟩]) ∧ Quiet W w') := fun W q => do_get_w w y u re im R I ka 0 0 _ _ W q
  have gY : Hid (∀ W, Quiet w W → Calls Try.prog 15 #[.pointer (some ⟨y, 0, none⟩), .agg #[.int .i64 3, .int .i64 1, .int .i64 0, .int .i64 0, .string ⟨#[]⟩, .string ⟨#[]⟩]] W fun e w' => e = .returned (.agg #[.int .i64 (getP re im 1).2.2, .int .i64 (getP re im 1).1, .int .i64 (getP re im 1).2.1, .string ⟨#[]⟩]) ∧ Quiet W w') := fun W q => do_get_w w y u re im R I 1 0 0 _ _ W q
  have hc := cells_any (w.alloc (.cells #[.int .i64 10, .int .i64 ka, .int .i64 1, .int .i64 0, .string s, .string t] 28)) ka ka
  have e1 : Hid (divE re im ka 1 0 = 0) := by show _ = _; simp [divE, e0, divP, quoR, quoI, wholeP, four_mul]
  rw [e0] at hc
  rw [unhide e1]
  have hf := hide (fun W => fits_any W 1 0 1 (by omega))
  simp only [show inP 1 0 1 = true from rfl] at hf
  clear e1 e0 R I
  have q0H := hide q0
  have boH := hide bo
  clear q0 bo
  unfold ptr at *
  generalize (getP re im ↑ka).2.2 = XE at *
  generalize (getP re im ↑ka).1 = XN at *
  generalize (getP re im ↑ka).2.1 = XM at *
  generalize (getP re im 1).2.2 = YE at *
  generalize (getP re im 1).1 = YN at *
  generalize (getP re im 1).2.1 = YM at *
  go_enter Try.func33, Try.ntmps33
  go_wp2_with fail
  refine hc.mono ?_
  rintro e w' ⟨rfl, rfl⟩
  go_wp2_with fail
  refine (unhide gX _ (unhide q0H)).mono ?_
  rintro e w1 ⟨rfl, q1⟩
  have q2 := hide (Quiet.trans (Quiet.trans (unhide q0H) q1) ((Chg.refl _ _).alloc (.cells #[.int .i64 XE, .int .i64 XN, .int .i64 XM, .string ⟨#[]⟩] 35)))
  have bo1 := (q1.blk (unhide boH)).alloc (.cells #[.int .i64 XE, .int .i64 XN, .int .i64 XM, .string ⟨#[]⟩] 35)
  have bx1 := Blk.new w1 35 [.int .i64 XE, .int .i64 XN, .int .i64 XM, .string ⟨#[]⟩]
  have co := bo1.cell
  have stH := hide (And.intro bo1 bx1)
  clear q1 bo1 bx1 boH
  go_wp2_with fail
  refine (unhide gY _ (unhide q2)).mono ?_
  rintro e w3 ⟨rfl, q3⟩
  have q4 := hide (Quiet.trans (Quiet.trans (unhide q2) q3) ((Chg.refl _ _).alloc (.cells #[.int .i64 YE, .int .i64 YN, .int .i64 YM, .string ⟨#[]⟩] 35)))
  have bo3 := (q3.blk (unhide stH).1).alloc (.cells #[.int .i64 YE, .int .i64 YN, .int .i64 YM, .string ⟨#[]⟩] 35)
  have bx3 := (q3.blk (unhide stH).2).alloc (.cells #[.int .i64 YE, .int .i64 YN, .int .i64 YM, .string ⟨#[]⟩] 35)
  have by3 := Blk.new w3 35 [.int .i64 YE, .int .i64 YN, .int .i64 YM, .string ⟨#[]⟩]
  clear co
  have co := bo3.cell
  have cx := bx3.cell
  have cy := by3.cell
  clear q3 bo3 bx3 by3 stH q2 gX gY
  go_wp2_with fail
  refine (unhide hf _).mono ?_
  rintro e w5 ⟨rfl, hw5⟩
  subst hw5
  go_wp2
  go_ret
  exact ⟨rfl, unhide q4⟩

set_option maxRecDepth 100000 in
set_option maxHeartbeats 4000000 in
theorem owed_div_m1 (w : World) (y u : Nat) (re im : Nat → Int) (R : Rep w y u re im) (I : Inv re im) (ka : Nat) (hka : ka < 4) (e0 : cellsP ka ka = true) (s t : ByteArray) :
    Calls Try.prog 33 #[ptr y, .agg #[.int .i64 10, .int .i64 ka, .int .i64 (-1), .int .i64 0, .string s, .string t]] w fun e w' => e = .returned (.int .i64 (divE re im ka (-1) 0)) ∧ Quiet w w' := by
  have q0 : Quiet w (w.alloc (.cells #[.int .i64 10, .int .i64 ka, .int .i64 (-1), .int .i64 0, .string s, .string t] 28)) := (Chg.refl _ _).alloc _
  have bo := Blk.new w 28 [.int .i64 10, .int .i64 ka, .int .i64 (-1), .int .i64 0, .string s, .string t]
  have co := bo.cell
  have gX : Hid (∀ W, Quiet w W → Calls Try.prog 15 #[.pointer (some ⟨y, 0, none⟩), .agg #[.int .i64 3, .int .i64 ka, .int .i64 0, .int .i64 0, .string ⟨#[]⟩, .string ⟨#[]⟩]] W fun e w' => e = .returned (.agg #[.int .i64 (getP re im ka).2.2, .int .i64 (getP re im ka).1, .int .i64 (getP re im ka).2.1, .string ⟨#[]⟩]) ∧ Quiet W w') := fun W q => do_get_w w y u re im R I ka 0 0 _ _ W q
  have gY : Hid (∀ W, Quiet w W → Calls Try.prog 15 #[.pointer (some ⟨y, 0, none⟩), .agg #[.int .i64 3, .int .i64 (-1), .int .i64 0, .int .i64 0, .string ⟨#[]⟩, .string ⟨#[]⟩]] W fun e w' => e = .returned (.agg #[.int .i64 (getP re im (-1)).2.2, .int .i64 (getP re im (-1)).1, .int .i64 (getP re im (-1)).2.1, .string ⟨#[]⟩]) ∧ Quiet W w') := fun W q => do_get_w w y u re im R I (-1) 0 0 _ _ W q
  have hc := cells_any (w.alloc (.cells #[.int .i64 10, .int .i64 ka, .int .i64 (-1), .int .i64 0, .string s, .string t] 28)) ka ka
  have e1 : Hid (divE re im ka (-1) 0 = 0) := by show _ = _; simp [divE, e0, divP, quoR, quoI, wholeP, four_mul]
  rw [e0] at hc
  rw [unhide e1]
  have hf := hide (fun W => fits_any W (-1) 0 1 (by omega))
  simp only [show inP (-1) 0 1 = true from rfl] at hf
  clear e1 e0 R I
  have q0H := hide q0
  have boH := hide bo
  clear q0 bo
  unfold ptr at *
  generalize (getP re im ↑ka).2.2 = XE at *
  generalize (getP re im ↑ka).1 = XN at *
  generalize (getP re im ↑ka).2.1 = XM at *
  generalize (getP re im (-1)).2.2 = YE at *
  generalize (getP re im (-1)).1 = YN at *
  generalize (getP re im (-1)).2.1 = YM at *
  go_enter Try.func33, Try.ntmps33
  go_wp2_with fail
  refine hc.mono ?_
  rintro e w' ⟨rfl, rfl⟩
  go_wp2_with fail
  refine (unhide gX _ (unhide q0H)).mono ?_
  rintro e w1 ⟨rfl, q1⟩
  have q2 := hide (Quiet.trans (Quiet.trans (unhide q0H) q1) ((Chg.refl _ _).alloc (.cells #[.int .i64 XE, .int .i64 XN, .int .i64 XM, .string ⟨#[]⟩] 35)))
  have bo1 := (q1.blk (unhide boH)).alloc (.cells #[.int .i64 XE, .int .i64 XN, .int .i64 XM, .string ⟨#[]⟩] 35)
  have bx1 := Blk.new w1 35 [.int .i64 XE, .int .i64 XN, .int .i64 XM, .string ⟨#[]⟩]
  have co := bo1.cell
  have stH := hide (And.intro bo1 bx1)
  clear q1 bo1 bx1 boH
  go_wp2_with fail
  refine (unhide gY _ (unhide q2)).mono ?_
  rintro e w3 ⟨rfl, q3⟩
  have q4 := hide (Quiet.trans (Quiet.trans (unhide q2) q3) ((Chg.refl _ _).alloc (.cells #[.int .i64 YE, .int .i64 YN, .int .i64 YM, .string ⟨#[]⟩] 35)))
  have bo3 := (q3.blk (unhide stH).1).alloc (.cells #[.int .i64 YE, .int .i64 YN, .int .i64 YM, .string ⟨#[]⟩] 35)
  have bx3 := (q3.blk (unhide stH).2).alloc (.cells #[.int .i64 YE, .int .i64 YN, .int .i64 YM, .string ⟨#[]⟩] 35)
  have by3 := Blk.new w3 35 [.int .i64 YE, .int .i64 YN, .int .i64 YM, .string ⟨#[]⟩]
  clear co
  have co := bo3.cell
  have cx := bx3.cell
  have cy := by3.cell
  clear q3 bo3 bx3 by3 stH q2 gX gY
  go_wp2_with fail
  refine (unhide hf _).mono ?_
  rintro e w5 ⟨rfl, hw5⟩
  subst hw5
  go_wp2
  go_ret
  exact ⟨rfl, unhide q4⟩

set_option maxRecDepth 100000 in
set_option maxHeartbeats 4000000 in
theorem owed_div_pi (w : World) (y u : Nat) (re im : Nat → Int) (R : Rep w y u re im) (I : Inv re im) (ka : Nat) (hka : ka < 4) (e0 : cellsP ka ka = true) (s t : ByteArray) :
    Calls Try.prog 33 #[ptr y, .agg #[.int .i64 10, .int .i64 ka, .int .i64 0, .int .i64 1, .string s, .string t]] w fun e w' => e = .returned (.int .i64 (divE re im ka 0 1)) ∧ Quiet w w' := by
  have q0 : Quiet w (w.alloc (.cells #[.int .i64 10, .int .i64 ka, .int .i64 0, .int .i64 1, .string s, .string t] 28)) := (Chg.refl _ _).alloc _
  have bo := Blk.new w 28 [.int .i64 10, .int .i64 ka, .int .i64 0, .int .i64 1, .string s, .string t]
  have co := bo.cell
  have gX : Hid (∀ W, Quiet w W → Calls Try.prog 15 #[.pointer (some ⟨y, 0, none⟩), .agg #[.int .i64 3, .int .i64 ka, .int .i64 0, .int .i64 0, .string ⟨#[]⟩, .string ⟨#[]⟩]] W fun e w' => e = .returned (.agg #[.int .i64 (getP re im ka).2.2, .int .i64 (getP re im ka).1, .int .i64 (getP re im ka).2.1, .string ⟨#[]⟩]) ∧ Quiet W w') := fun W q => do_get_w w y u re im R I ka 0 0 _ _ W q
  have gY : Hid (∀ W, Quiet w W → Calls Try.prog 15 #[.pointer (some ⟨y, 0, none⟩), .agg #[.int .i64 3, .int .i64 0, .int .i64 0, .int .i64 0, .string ⟨#[]⟩, .string ⟨#[]⟩]] W fun e w' => e = .returned (.agg #[.int .i64 (getP re im 0).2.2, .int .i64 (getP re im 0).1, .int .i64 (getP re im 0).2.1, .string ⟨#[]⟩]) ∧ Quiet W w') := fun W q => do_get_w w y u re im R I 0 0 0 _ _ W q
  have hc := cells_any (w.alloc (.cells #[.int .i64 10, .int .i64 ka, .int .i64 0, .int .i64 1, .string s, .string t] 28)) ka ka
  have e1 : Hid (divE re im ka 0 1 = 0) := by show _ = _; simp [divE, e0, divP, quoR, quoI, wholeP, four_mul]
  rw [e0] at hc
  rw [unhide e1]
  have hf := hide (fun W => fits_any W 0 1 1 (by omega))
  simp only [show inP 0 1 1 = true from rfl] at hf
  clear e1 e0 R I
  have q0H := hide q0
  have boH := hide bo
  clear q0 bo
  unfold ptr at *
  generalize (getP re im ↑ka).2.2 = XE at *
  generalize (getP re im ↑ka).1 = XN at *
  generalize (getP re im ↑ka).2.1 = XM at *
  generalize (getP re im 0).2.2 = YE at *
  generalize (getP re im 0).1 = YN at *
  generalize (getP re im 0).2.1 = YM at *
  go_enter Try.func33, Try.ntmps33
  go_wp2_with fail
  refine hc.mono ?_
  rintro e w' ⟨rfl, rfl⟩
  go_wp2_with fail
  refine (unhide gX _ (unhide q0H)).mono ?_
  rintro e w1 ⟨rfl, q1⟩
  have q2 := hide (Quiet.trans (Quiet.trans (unhide q0H) q1) ((Chg.refl _ _).alloc (.cells #[.int .i64 XE, .int .i64 XN, .int .i64 XM, .string ⟨#[]⟩] 35)))
  have bo1 := (q1.blk (unhide boH)).alloc (.cells #[.int .i64 XE, .int .i64 XN, .int .i64 XM, .string ⟨#[]⟩] 35)
  have bx1 := Blk.new w1 35 [.int .i64 XE, .int .i64 XN, .int .i64 XM, .string ⟨#[]⟩]
  have co := bo1.cell
  have stH := hide (And.intro bo1 bx1)
  clear q1 bo1 bx1 boH
  go_wp2_with fail
  refine (unhide gY _ (unhide q2)).mono ?_
  rintro e w3 ⟨rfl, q3⟩
  have q4 := hide (Quiet.trans (Quiet.trans (unhide q2) q3) ((Chg.refl _ _).alloc (.cells #[.int .i64 YE, .int .i64 YN, .int .i64 YM, .string ⟨#[]⟩] 35)))
  have bo3 := (q3.blk (unhide stH).1).alloc (.cells #[.int .i64 YE, .int .i64 YN, .int .i64 YM, .string ⟨#[]⟩] 35)
  have bx3 := (q3.blk (unhide stH).2).alloc (.cells #[.int .i64 YE, .int .i64 YN, .int .i64 YM, .string ⟨#[]⟩] 35)
  have by3 := Blk.new w3 35 [.int .i64 YE, .int .i64 YN, .int .i64 YM, .string ⟨#[]⟩]
  clear co
  have co := bo3.cell
  have cx := bx3.cell
  have cy := by3.cell
  clear q3 bo3 bx3 by3 stH q2 gX gY
  go_wp2_with fail
  refine (unhide hf _).mono ?_
  rintro e w5 ⟨rfl, hw5⟩
  subst hw5
  go_wp2
  go_ret
  exact ⟨rfl, unhide q4⟩

set_option maxRecDepth 100000 in
set_option maxHeartbeats 4000000 in
theorem owed_div_mi (w : World) (y u : Nat) (re im : Nat → Int) (R : Rep w y u re im) (I : Inv re im) (ka : Nat) (hka : ka < 4) (e0 : cellsP ka ka = true) (s t : ByteArray) :
    Calls Try.prog 33 #[ptr y, .agg #[.int .i64 10, .int .i64 ka, .int .i64 0, .int .i64 (-1), .string s, .string t]] w fun e w' => e = .returned (.int .i64 (divE re im ka 0 (-1))) ∧ Quiet w w' := by
  have q0 : Quiet w (w.alloc (.cells #[.int .i64 10, .int .i64 ka, .int .i64 0, .int .i64 (-1), .string s, .string t] 28)) := (Chg.refl _ _).alloc _
  have bo := Blk.new w 28 [.int .i64 10, .int .i64 ka, .int .i64 0, .int .i64 (-1), .string s, .string t]
  have co := bo.cell
  have gX : Hid (∀ W, Quiet w W → Calls Try.prog 15 #[.pointer (some ⟨y, 0, none⟩), .agg #[.int .i64 3, .int .i64 ka, .int .i64 0, .int .i64 0, .string ⟨#[]⟩, .string ⟨#[]⟩]] W fun e w' => e = .returned (.agg #[.int .i64 (getP re im ka).2.2, .int .i64 (getP re im ka).1, .int .i64 (getP re im ka).2.1, .string ⟨#[]⟩]) ∧ Quiet W w') := fun W q => do_get_w w y u re im R I ka 0 0 _ _ W q
  have gY : Hid (∀ W, Quiet w W → Calls Try.prog 15 #[.pointer (some ⟨y, 0, none⟩), .agg #[.int .i64 3, .int .i64 0, .int .i64 0, .int .i64 0, .string ⟨#[]⟩, .string ⟨#[]⟩]] W fun e w' => e = .returned (.agg #[.int .i64 (getP re im 0).2.2, .int .i64 (getP re im 0).1, .int .i64 (getP re im 0).2.1, .string ⟨#[]⟩]) ∧ Quiet W w') := fun W q => do_get_w w y u re im R I 0 0 0 _ _ W q
  have hc := cells_any (w.alloc (.cells #[.int .i64 10, .int .i64 ka, .int .i64 0, .int .i64 (-1), .string s, .string t] 28)) ka ka
  have e1 : Hid (divE re im ka 0 (-1) = 0) := by show _ = _; simp [divE, e0, divP, quoR, quoI, wholeP, four_mul]
  rw [e0] at hc
  rw [unhide e1]
  have hf := hide (fun W => fits_any W 0 (-1) 1 (by omega))
  simp only [show inP 0 (-1) 1 = true from rfl] at hf
  clear e1 e0 R I
  have q0H := hide q0
  have boH := hide bo
  clear q0 bo
  unfold ptr at *
  generalize (getP re im ↑ka).2.2 = XE at *
  generalize (getP re im ↑ka).1 = XN at *
  generalize (getP re im ↑ka).2.1 = XM at *
  generalize (getP re im 0).2.2 = YE at *
  generalize (getP re im 0).1 = YN at *
  generalize (getP re im 0).2.1 = YM at *
  go_enter Try.func33, Try.ntmps33
  go_wp2_with fail
  refine hc.mono ?_
  rintro e w' ⟨rfl, rfl⟩
  go_wp2_with fail
  refine (unhide gX _ (unhide q0H)).mono ?_
  rintro e w1 ⟨rfl, q1⟩
  have q2 := hide (Quiet.trans (Quiet.trans (unhide q0H) q1) ((Chg.refl _ _).alloc (.cells #[.int .i64 XE, .int .i64 XN, .int .i64 XM, .string ⟨#[]⟩] 35)))
  have bo1 := (q1.blk (unhide boH)).alloc (.cells #[.int .i64 XE, .int .i64 XN, .int .i64 XM, .string ⟨#[]⟩] 35)
  have bx1 := Blk.new w1 35 [.int .i64 XE, .int .i64 XN, .int .i64 XM, .string ⟨#[]⟩]
  have co := bo1.cell
  have stH := hide (And.intro bo1 bx1)
  clear q1 bo1 bx1 boH
  go_wp2_with fail
  refine (unhide gY _ (unhide q2)).mono ?_
  rintro e w3 ⟨rfl, q3⟩
  have q4 := hide (Quiet.trans (Quiet.trans (unhide q2) q3) ((Chg.refl _ _).alloc (.cells #[.int .i64 YE, .int .i64 YN, .int .i64 YM, .string ⟨#[]⟩] 35)))
  have bo3 := (q3.blk (unhide stH).1).alloc (.cells #[.int .i64 YE, .int .i64 YN, .int .i64 YM, .string ⟨#[]⟩] 35)
  have bx3 := (q3.blk (unhide stH).2).alloc (.cells #[.int .i64 YE, .int .i64 YN, .int .i64 YM, .string ⟨#[]⟩] 35)
  have by3 := Blk.new w3 35 [.int .i64 YE, .int .i64 YN, .int .i64 YM, .string ⟨#[]⟩]
  clear co
  have co := bo3.cell
  have cx := bx3.cell
  have cy := by3.cell
  clear q3 bo3 bx3 by3 stH q2 gX gY
  go_wp2_with fail
  refine (unhide hf _).mono ?_
  rintro e w5 ⟨rfl, hw5⟩
  subst hw5
  go_wp2
  go_ret
  exact ⟨rfl, unhide q4⟩

set_option maxRecDepth 100000 in
set_option maxHeartbeats 4000000 in
theorem owed_div_two (w : World) (y u : Nat) (re im : Nat → Int) (R : Rep w y u re im) (I : Inv re im) (ka : Nat) (hka : ka < 4) (e0 : cellsP ka ka = true) (s t : ByteArray) :
    Calls Try.prog 33 #[ptr y, .agg #[.int .i64 10, .int .i64 ka, .int .i64 2, .int .i64 0, .string s, .string t]] w fun e w' => e = .returned (.int .i64 (divE re im ka 2 0)) ∧ Quiet w w' := by
  have q0 : Quiet w (w.alloc (.cells #[.int .i64 10, .int .i64 ka, .int .i64 2, .int .i64 0, .string s, .string t] 28)) := (Chg.refl _ _).alloc _
  have bo := Blk.new w 28 [.int .i64 10, .int .i64 ka, .int .i64 2, .int .i64 0, .string s, .string t]
  have co := bo.cell
  have gX : Hid (∀ W, Quiet w W → Calls Try.prog 15 #[.pointer (some ⟨y, 0, none⟩), .agg #[.int .i64 3, .int .i64 ka, .int .i64 0, .int .i64 0, .string ⟨#[]⟩, .string ⟨#[]⟩]] W fun e w' => e = .returned (.agg #[.int .i64 (getP re im ka).2.2, .int .i64 (getP re im ka).1, .int .i64 (getP re im ka).2.1, .string ⟨#[]⟩]) ∧ Quiet W w') := fun W q => do_get_w w y u re im R I ka 0 0 _ _ W q
  have gY : Hid (∀ W, Quiet w W → Calls Try.prog 15 #[.pointer (some ⟨y, 0, none⟩), .agg #[.int .i64 3, .int .i64 2, .int .i64 0, .int .i64 0, .string ⟨#[]⟩, .string ⟨#[]⟩]] W fun e w' => e = .returned (.agg #[.int .i64 (getP re im 2).2.2, .int .i64 (getP re im 2).1, .int .i64 (getP re im 2).2.1, .string ⟨#[]⟩]) ∧ Quiet W w') := fun W q => do_get_w w y u re im R I 2 0 0 _ _ W q
  have hc := cells_any (w.alloc (.cells #[.int .i64 10, .int .i64 ka, .int .i64 2, .int .i64 0, .string s, .string t] 28)) ka ka
  have hE : Hid (divE re im ka 2 0 = if (re ka).tmod 2 = 0 ∧ (im ka).tmod 2 = 0 then 0 else 4) := by show _ = _; simp [divE, e0, divP, quoR, quoI, wholeP, two_mul_whole]
  rw [e0] at hc
  have hf := hide (fun W => fits_any W 2 0 1 (by omega))
  simp only [show inP 2 0 1 = false from rfl] at hf
  rw [get_in re im ka hka] at gX
  simp only at gX
  by_cases g1 : (re ka).tmod 2 = 0
  · by_cases g2 : (im ka).tmod 2 = 0
    · rw [unhide hE, if_pos ⟨g1, g2⟩]
      clear hE e0 R I
      generalize re ka = XN at *
      generalize im ka = XM at *
      have q0H := hide q0
      have boH := hide bo
      clear q0 bo
      unfold ptr at *
      generalize (getP re im 2).2.2 = YE at *
      generalize (getP re im 2).1 = YN at *
      generalize (getP re im 2).2.1 = YM at *
      go_enter Try.func33, Try.ntmps33
      go_wp2_with fail
      refine hc.mono ?_
      rintro e w' ⟨rfl, rfl⟩
      go_wp2_with fail
      refine (unhide gX _ (unhide q0H)).mono ?_
      rintro e w1 ⟨rfl, q1⟩
      have q2 := hide (Quiet.trans (Quiet.trans (unhide q0H) q1) ((Chg.refl _ _).alloc (.cells #[.int .i64 0, .int .i64 XN, .int .i64 XM, .string ⟨#[]⟩] 35)))
      have bo1 := (q1.blk (unhide boH)).alloc (.cells #[.int .i64 0, .int .i64 XN, .int .i64 XM, .string ⟨#[]⟩] 35)
      have bx1 := Blk.new w1 35 [.int .i64 0, .int .i64 XN, .int .i64 XM, .string ⟨#[]⟩]
      have co := bo1.cell
      have stH := hide (And.intro bo1 bx1)
      clear q1 bo1 bx1 boH
      go_wp2_with fail
      refine (unhide gY _ (unhide q2)).mono ?_
      rintro e w3 ⟨rfl, q3⟩
      have q4 := hide (Quiet.trans (Quiet.trans (unhide q2) q3) ((Chg.refl _ _).alloc (.cells #[.int .i64 YE, .int .i64 YN, .int .i64 YM, .string ⟨#[]⟩] 35)))
      have bo3 := (q3.blk (unhide stH).1).alloc (.cells #[.int .i64 YE, .int .i64 YN, .int .i64 YM, .string ⟨#[]⟩] 35)
      have bx3 := (q3.blk (unhide stH).2).alloc (.cells #[.int .i64 YE, .int .i64 YN, .int .i64 YM, .string ⟨#[]⟩] 35)
      have by3 := Blk.new w3 35 [.int .i64 YE, .int .i64 YN, .int .i64 YM, .string ⟨#[]⟩]
      clear co
      have co := bo3.cell
      have cx := bx3.cell
      have cy := by3.cell
      clear q3 bo3 bx3 by3 stH q2 gX gY
      go_wp2_with fail
      refine (unhide hf _).mono ?_
      rintro e w5 ⟨rfl, hw5⟩
      subst hw5
      go_wp2
      go_ret
      exact ⟨rfl, unhide q4⟩
    · rw [unhide hE, if_neg (fun h => g2 h.2)]
      clear hE e0 R I
      generalize re ka = XN at *
      generalize im ka = XM at *
      have q0H := hide q0
      have boH := hide bo
      clear q0 bo
      unfold ptr at *
      generalize (getP re im 2).2.2 = YE at *
      generalize (getP re im 2).1 = YN at *
      generalize (getP re im 2).2.1 = YM at *
      go_enter Try.func33, Try.ntmps33
      go_wp2_with fail
      refine hc.mono ?_
      rintro e w' ⟨rfl, rfl⟩
      go_wp2_with fail
      refine (unhide gX _ (unhide q0H)).mono ?_
      rintro e w1 ⟨rfl, q1⟩
      have q2 := hide (Quiet.trans (Quiet.trans (unhide q0H) q1) ((Chg.refl _ _).alloc (.cells #[.int .i64 0, .int .i64 XN, .int .i64 XM, .string ⟨#[]⟩] 35)))
      have bo1 := (q1.blk (unhide boH)).alloc (.cells #[.int .i64 0, .int .i64 XN, .int .i64 XM, .string ⟨#[]⟩] 35)
      have bx1 := Blk.new w1 35 [.int .i64 0, .int .i64 XN, .int .i64 XM, .string ⟨#[]⟩]
      have co := bo1.cell
      have stH := hide (And.intro bo1 bx1)
      clear q1 bo1 bx1 boH
      go_wp2_with fail
      refine (unhide gY _ (unhide q2)).mono ?_
      rintro e w3 ⟨rfl, q3⟩
      have q4 := hide (Quiet.trans (Quiet.trans (unhide q2) q3) ((Chg.refl _ _).alloc (.cells #[.int .i64 YE, .int .i64 YN, .int .i64 YM, .string ⟨#[]⟩] 35)))
      have bo3 := (q3.blk (unhide stH).1).alloc (.cells #[.int .i64 YE, .int .i64 YN, .int .i64 YM, .string ⟨#[]⟩] 35)
      have bx3 := (q3.blk (unhide stH).2).alloc (.cells #[.int .i64 YE, .int .i64 YN, .int .i64 YM, .string ⟨#[]⟩] 35)
      have by3 := Blk.new w3 35 [.int .i64 YE, .int .i64 YN, .int .i64 YM, .string ⟨#[]⟩]
      clear co
      have co := bo3.cell
      have cx := bx3.cell
      have cy := by3.cell
      clear q3 bo3 bx3 by3 stH q2 gX gY
      go_wp2_with fail
      refine (unhide hf _).mono ?_
      rintro e w5 ⟨rfl, hw5⟩
      subst hw5
      go_wp2
      go_ret
      exact ⟨rfl, unhide q4⟩
  · rw [unhide hE, if_neg (fun h => g1 h.1)]
    clear hE e0 R I
    generalize re ka = XN at *
    generalize im ka = XM at *
    have q0H := hide q0
    have boH := hide bo
    clear q0 bo
    unfold ptr at *
    generalize (getP re im 2).2.2 = YE at *
    generalize (getP re im 2).1 = YN at *
    generalize (getP re im 2).2.1 = YM at *
    go_enter Try.func33, Try.ntmps33
    go_wp2_with fail
    refine hc.mono ?_
    rintro e w' ⟨rfl, rfl⟩
    go_wp2_with fail
    refine (unhide gX _ (unhide q0H)).mono ?_
    rintro e w1 ⟨rfl, q1⟩
    have q2 := hide (Quiet.trans (Quiet.trans (unhide q0H) q1) ((Chg.refl _ _).alloc (.cells #[.int .i64 0, .int .i64 XN, .int .i64 XM, .string ⟨#[]⟩] 35)))
    have bo1 := (q1.blk (unhide boH)).alloc (.cells #[.int .i64 0, .int .i64 XN, .int .i64 XM, .string ⟨#[]⟩] 35)
    have bx1 := Blk.new w1 35 [.int .i64 0, .int .i64 XN, .int .i64 XM, .string ⟨#[]⟩]
    have co := bo1.cell
    have stH := hide (And.intro bo1 bx1)
    clear q1 bo1 bx1 boH
    go_wp2_with fail
    refine (unhide gY _ (unhide q2)).mono ?_
    rintro e w3 ⟨rfl, q3⟩
    have q4 := hide (Quiet.trans (Quiet.trans (unhide q2) q3) ((Chg.refl _ _).alloc (.cells #[.int .i64 YE, .int .i64 YN, .int .i64 YM, .string ⟨#[]⟩] 35)))
    have bo3 := (q3.blk (unhide stH).1).alloc (.cells #[.int .i64 YE, .int .i64 YN, .int .i64 YM, .string ⟨#[]⟩] 35)
    have bx3 := (q3.blk (unhide stH).2).alloc (.cells #[.int .i64 YE, .int .i64 YN, .int .i64 YM, .string ⟨#[]⟩] 35)
    have by3 := Blk.new w3 35 [.int .i64 YE, .int .i64 YN, .int .i64 YM, .string ⟨#[]⟩]
    clear co
    have co := bo3.cell
    have cx := bx3.cell
    have cy := by3.cell
    clear q3 bo3 bx3 by3 stH q2 gX gY
    go_wp2_with fail
    refine (unhide hf _).mono ?_
    rintro e w5 ⟨rfl, hw5⟩
    subst hw5
    go_wp2
    go_ret
    exact ⟨rfl, unhide q4⟩

set_option maxRecDepth 100000 in
set_option maxHeartbeats 4000000 in
theorem owed_div_four (w : World) (y u : Nat) (re im : Nat → Int) (R : Rep w y u re im) (I : Inv re im) (ka : Nat) (hka : ka < 4) (e0 : cellsP ka ka = true) (s t : ByteArray) :
    Calls Try.prog 33 #[ptr y, .agg #[.int .i64 10, .int .i64 ka, .int .i64 4, .int .i64 0, .string s, .string t]] w fun e w' => e = .returned (.int .i64 (divE re im ka 4 0)) ∧ Quiet w w' := by
  have q0 : Quiet w (w.alloc (.cells #[.int .i64 10, .int .i64 ka, .int .i64 4, .int .i64 0, .string s, .string t] 28)) := (Chg.refl _ _).alloc _
  have bo := Blk.new w 28 [.int .i64 10, .int .i64 ka, .int .i64 4, .int .i64 0, .string s, .string t]
  have co := bo.cell
  have gX : Hid (∀ W, Quiet w W → Calls Try.prog 15 #[.pointer (some ⟨y, 0, none⟩), .agg #[.int .i64 3, .int .i64 ka, .int .i64 0, .int .i64 0, .string ⟨#[]⟩, .string ⟨#[]⟩]] W fun e w' => e = .returned (.agg #[.int .i64 (getP re im ka).2.2, .int .i64 (getP re im ka).1, .int .i64 (getP re im ka).2.1, .string ⟨#[]⟩]) ∧ Quiet W w') := fun W q => do_get_w w y u re im R I ka 0 0 _ _ W q
  have gY : Hid (∀ W, Quiet w W → Calls Try.prog 15 #[.pointer (some ⟨y, 0, none⟩), .agg #[.int .i64 3, .int .i64 4, .int .i64 0, .int .i64 0, .string ⟨#[]⟩, .string ⟨#[]⟩]] W fun e w' => e = .returned (.agg #[.int .i64 (getP re im 4).2.2, .int .i64 (getP re im 4).1, .int .i64 (getP re im 4).2.1, .string ⟨#[]⟩]) ∧ Quiet W w') := fun W q => do_get_w w y u re im R I 4 0 0 _ _ W q
  have hc := cells_any (w.alloc (.cells #[.int .i64 10, .int .i64 ka, .int .i64 4, .int .i64 0, .string s, .string t] 28)) ka ka
  have hE : Hid (divE re im ka 4 0 = if (re ka).tmod 4 = 0 ∧ (im ka).tmod 4 = 0 then 0 else 4) := by show _ = _; simp [divE, e0, divP, quoR, quoI, wholeP, one_whole]
  rw [e0] at hc
  have hf := hide (fun W => fits_any W 4 0 1 (by omega))
  simp only [show inP 4 0 1 = false from rfl] at hf
  rw [get_in re im ka hka] at gX
  simp only at gX
  by_cases g1 : (re ka).tmod 4 = 0
  · by_cases g2 : (im ka).tmod 4 = 0
    · rw [unhide hE, if_pos ⟨g1, g2⟩]
      clear hE e0 R I
      generalize re ka = XN at *
      generalize im ka = XM at *
      have q0H := hide q0
      have boH := hide bo
      clear q0 bo
      unfold ptr at *
      generalize (getP re im 4).2.2 = YE at *
      generalize (getP re im 4).1 = YN at *
      generalize (getP re im 4).2.1 = YM at *
      go_enter Try.func33, Try.ntmps33
      go_wp2_with fail
      refine hc.mono ?_
      rintro e w' ⟨rfl, rfl⟩
      go_wp2_with fail
      refine (unhide gX _ (unhide q0H)).mono ?_
      rintro e w1 ⟨rfl, q1⟩
      have q2 := hide (Quiet.trans (Quiet.trans (unhide q0H) q1) ((Chg.refl _ _).alloc (.cells #[.int .i64 0, .int .i64 XN, .int .i64 XM, .string ⟨#[]⟩] 35)))
      have bo1 := (q1.blk (unhide boH)).alloc (.cells #[.int .i64 0, .int .i64 XN, .int .i64 XM, .string ⟨#[]⟩] 35)
      have bx1 := Blk.new w1 35 [.int .i64 0, .int .i64 XN, .int .i64 XM, .string ⟨#[]⟩]
      have co := bo1.cell
      have stH := hide (And.intro bo1 bx1)
      clear q1 bo1 bx1 boH
      go_wp2_with fail
      refine (unhide gY _ (unhide q2)).mono ?_
      rintro e w3 ⟨rfl, q3⟩
      have q4 := hide (Quiet.trans (Quiet.trans (unhide q2) q3) ((Chg.refl _ _).alloc (.cells #[.int .i64 YE, .int .i64 YN, .int .i64 YM, .string ⟨#[]⟩] 35)))
      have bo3 := (q3.blk (unhide stH).1).alloc (.cells #[.int .i64 YE, .int .i64 YN, .int .i64 YM, .string ⟨#[]⟩] 35)
      have bx3 := (q3.blk (unhide stH).2).alloc (.cells #[.int .i64 YE, .int .i64 YN, .int .i64 YM, .string ⟨#[]⟩] 35)
      have by3 := Blk.new w3 35 [.int .i64 YE, .int .i64 YN, .int .i64 YM, .string ⟨#[]⟩]
      clear co
      have co := bo3.cell
      have cx := bx3.cell
      have cy := by3.cell
      clear q3 bo3 bx3 by3 stH q2 gX gY
      go_wp2_with fail
      refine (unhide hf _).mono ?_
      rintro e w5 ⟨rfl, hw5⟩
      subst hw5
      go_wp2
      go_ret
      exact ⟨rfl, unhide q4⟩
    · rw [unhide hE, if_neg (fun h => g2 h.2)]
      clear hE e0 R I
      generalize re ka = XN at *
      generalize im ka = XM at *
      have q0H := hide q0
      have boH := hide bo
      clear q0 bo
      unfold ptr at *
      generalize (getP re im 4).2.2 = YE at *
      generalize (getP re im 4).1 = YN at *
      generalize (getP re im 4).2.1 = YM at *
      go_enter Try.func33, Try.ntmps33
      go_wp2_with fail
      refine hc.mono ?_
      rintro e w' ⟨rfl, rfl⟩
      go_wp2_with fail
      refine (unhide gX _ (unhide q0H)).mono ?_
      rintro e w1 ⟨rfl, q1⟩
      have q2 := hide (Quiet.trans (Quiet.trans (unhide q0H) q1) ((Chg.refl _ _).alloc (.cells #[.int .i64 0, .int .i64 XN, .int .i64 XM, .string ⟨#[]⟩] 35)))
      have bo1 := (q1.blk (unhide boH)).alloc (.cells #[.int .i64 0, .int .i64 XN, .int .i64 XM, .string ⟨#[]⟩] 35)
      have bx1 := Blk.new w1 35 [.int .i64 0, .int .i64 XN, .int .i64 XM, .string ⟨#[]⟩]
      have co := bo1.cell
      have stH := hide (And.intro bo1 bx1)
      clear q1 bo1 bx1 boH
      go_wp2_with fail
      refine (unhide gY _ (unhide q2)).mono ?_
      rintro e w3 ⟨rfl, q3⟩
      have q4 := hide (Quiet.trans (Quiet.trans (unhide q2) q3) ((Chg.refl _ _).alloc (.cells #[.int .i64 YE, .int .i64 YN, .int .i64 YM, .string ⟨#[]⟩] 35)))
      have bo3 := (q3.blk (unhide stH).1).alloc (.cells #[.int .i64 YE, .int .i64 YN, .int .i64 YM, .string ⟨#[]⟩] 35)
      have bx3 := (q3.blk (unhide stH).2).alloc (.cells #[.int .i64 YE, .int .i64 YN, .int .i64 YM, .string ⟨#[]⟩] 35)
      have by3 := Blk.new w3 35 [.int .i64 YE, .int .i64 YN, .int .i64 YM, .string ⟨#[]⟩]
      clear co
      have co := bo3.cell
      have cx := bx3.cell
      have cy := by3.cell
      clear q3 bo3 bx3 by3 stH q2 gX gY
      go_wp2_with fail
      refine (unhide hf _).mono ?_
      rintro e w5 ⟨rfl, hw5⟩
      subst hw5
      go_wp2
      go_ret
      exact ⟨rfl, unhide q4⟩
  · rw [unhide hE, if_neg (fun h => g1 h.1)]
    clear hE e0 R I
    generalize re ka = XN at *
    generalize im ka = XM at *
    have q0H := hide q0
    have boH := hide bo
    clear q0 bo
    unfold ptr at *
    generalize (getP re im 4).2.2 = YE at *
    generalize (getP re im 4).1 = YN at *
    generalize (getP re im 4).2.1 = YM at *
    go_enter Try.func33, Try.ntmps33
    go_wp2_with fail
    refine hc.mono ?_
    rintro e w' ⟨rfl, rfl⟩
    go_wp2_with fail
    refine (unhide gX _ (unhide q0H)).mono ?_
    rintro e w1 ⟨rfl, q1⟩
    have q2 := hide (Quiet.trans (Quiet.trans (unhide q0H) q1) ((Chg.refl _ _).alloc (.cells #[.int .i64 0, .int .i64 XN, .int .i64 XM, .string ⟨#[]⟩] 35)))
    have bo1 := (q1.blk (unhide boH)).alloc (.cells #[.int .i64 0, .int .i64 XN, .int .i64 XM, .string ⟨#[]⟩] 35)
    have bx1 := Blk.new w1 35 [.int .i64 0, .int .i64 XN, .int .i64 XM, .string ⟨#[]⟩]
    have co := bo1.cell
    have stH := hide (And.intro bo1 bx1)
    clear q1 bo1 bx1 boH
    go_wp2_with fail
    refine (unhide gY _ (unhide q2)).mono ?_
    rintro e w3 ⟨rfl, q3⟩
    have q4 := hide (Quiet.trans (Quiet.trans (unhide q2) q3) ((Chg.refl _ _).alloc (.cells #[.int .i64 YE, .int .i64 YN, .int .i64 YM, .string ⟨#[]⟩] 35)))
    have bo3 := (q3.blk (unhide stH).1).alloc (.cells #[.int .i64 YE, .int .i64 YN, .int .i64 YM, .string ⟨#[]⟩] 35)
    have bx3 := (q3.blk (unhide stH).2).alloc (.cells #[.int .i64 YE, .int .i64 YN, .int .i64 YM, .string ⟨#[]⟩] 35)
    have by3 := Blk.new w3 35 [.int .i64 YE, .int .i64 YN, .int .i64 YM, .string ⟨#[]⟩]
    clear co
    have co := bo3.cell
    have cx := bx3.cell
    have cy := by3.cell
    clear q3 bo3 bx3 by3 stH q2 gX gY
    go_wp2_with fail
    refine (unhide hf _).mono ?_
    rintro e w5 ⟨rfl, hw5⟩
    subst hw5
    go_wp2
    go_ret
    exact ⟨rfl, unhide q4⟩

set_option maxRecDepth 100000 in
set_option maxHeartbeats 4000000 in
theorem owed_div_z (w : World) (y u : Nat) (re im : Nat → Int) (R : Rep w y u re im) (I : Inv re im) (ka : Nat) (hka : ka < 4) (e0 : cellsP ka ka = true) (s t : ByteArray) :
    Calls Try.prog 33 #[ptr y, .agg #[.int .i64 10, .int .i64 ka, .int .i64 0, .int .i64 0, .string s, .string t]] w fun e w' => e = .returned (.int .i64 (divE re im ka 0 0)) ∧ Quiet w w' := by
  have q0 : Quiet w (w.alloc (.cells #[.int .i64 10, .int .i64 ka, .int .i64 0, .int .i64 0, .string s, .string t] 28)) := (Chg.refl _ _).alloc _
  have bo := Blk.new w 28 [.int .i64 10, .int .i64 ka, .int .i64 0, .int .i64 0, .string s, .string t]
  have co := bo.cell
  have gX : Hid (∀ W, Quiet w W → Calls Try.prog 15 #[.pointer (some ⟨y, 0, none⟩), .agg #[.int .i64 3, .int .i64 ka, .int .i64 0, .int .i64 0, .string ⟨#[]⟩, .string ⟨#[]⟩]] W fun e w' => e = .returned (.agg #[.int .i64 (getP re im ka).2.2, .int .i64 (getP re im ka).1, .int .i64 (getP re im ka).2.1, .string ⟨#[]⟩]) ∧ Quiet W w') := fun W q => do_get_w w y u re im R I ka 0 0 _ _ W q
  have gY : Hid (∀ W, Quiet w W → Calls Try.prog 15 #[.pointer (some ⟨y, 0, none⟩), .agg #[.int .i64 3, .int .i64 0, .int .i64 0, .int .i64 0, .string ⟨#[]⟩, .string ⟨#[]⟩]] W fun e w' => e = .returned (.agg #[.int .i64 (getP re im 0).2.2, .int .i64 (getP re im 0).1, .int .i64 (getP re im 0).2.1, .string ⟨#[]⟩]) ∧ Quiet W w') := fun W q => do_get_w w y u re im R I 0 0 0 _ _ W q
  have hc := cells_any (w.alloc (.cells #[.int .i64 10, .int .i64 ka, .int .i64 0, .int .i64 0, .string s, .string t] 28)) ka ka
  have e1 : Hid (divE re im ka 0 0 = 3) := by show _ = _; simp [divE, e0, divP]
  rw [e0] at hc
  rw [unhide e1]
  have hf := hide (fun W => fits_any W 0 0 1 (by omega))
  simp only [show inP 0 0 1 = true from rfl] at hf
  clear e1 e0 R I
  have q0H := hide q0
  have boH := hide bo
  clear q0 bo
  unfold ptr at *
  generalize (getP re im ↑ka).2.2 = XE at *
  generalize (getP re im ↑ka).1 = XN at *
  generalize (getP re im ↑ka).2.1 = XM at *
  generalize (getP re im 0).2.2 = YE at *
  generalize (getP re im 0).1 = YN at *
  generalize (getP re im 0).2.1 = YM at *
  go_enter Try.func33, Try.ntmps33
  go_wp2_with fail
  refine hc.mono ?_
  rintro e w' ⟨rfl, rfl⟩
  go_wp2_with fail
  refine (unhide gX _ (unhide q0H)).mono ?_
  rintro e w1 ⟨rfl, q1⟩
  have q2 := hide (Quiet.trans (Quiet.trans (unhide q0H) q1) ((Chg.refl _ _).alloc (.cells #[.int .i64 XE, .int .i64 XN, .int .i64 XM, .string ⟨#[]⟩] 35)))
  have bo1 := (q1.blk (unhide boH)).alloc (.cells #[.int .i64 XE, .int .i64 XN, .int .i64 XM, .string ⟨#[]⟩] 35)
  have bx1 := Blk.new w1 35 [.int .i64 XE, .int .i64 XN, .int .i64 XM, .string ⟨#[]⟩]
  have co := bo1.cell
  have stH := hide (And.intro bo1 bx1)
  clear q1 bo1 bx1 boH
  go_wp2_with fail
  refine (unhide gY _ (unhide q2)).mono ?_
  rintro e w3 ⟨rfl, q3⟩
  have q4 := hide (Quiet.trans (Quiet.trans (unhide q2) q3) ((Chg.refl _ _).alloc (.cells #[.int .i64 YE, .int .i64 YN, .int .i64 YM, .string ⟨#[]⟩] 35)))
  have bo3 := (q3.blk (unhide stH).1).alloc (.cells #[.int .i64 YE, .int .i64 YN, .int .i64 YM, .string ⟨#[]⟩] 35)
  have bx3 := (q3.blk (unhide stH).2).alloc (.cells #[.int .i64 YE, .int .i64 YN, .int .i64 YM, .string ⟨#[]⟩] 35)
  have by3 := Blk.new w3 35 [.int .i64 YE, .int .i64 YN, .int .i64 YM, .string ⟨#[]⟩]
  clear co
  have co := bo3.cell
  have cx := bx3.cell
  have cy := by3.cell
  clear q3 bo3 bx3 by3 stH q2 gX gY
  go_wp2_with fail
  refine (unhide hf _).mono ?_
  rintro e w5 ⟨rfl, hw5⟩
  subst hw5
  go_wp2
  go_ret
  exact ⟨rfl, unhide q4⟩

set_option maxRecDepth 100000 in
set_option maxHeartbeats 4000000 in
theorem owed_div_pp (w : World) (y u : Nat) (re im : Nat → Int) (R : Rep w y u re im) (I : Inv re im) (ka : Nat) (hka : ka < 4) (e0 : cellsP ka ka = true) (s t : ByteArray) :
    Calls Try.prog 33 #[ptr y, .agg #[.int .i64 10, .int .i64 ka, .int .i64 1, .int .i64 1, .string s, .string t]] w fun e w' => e = .returned (.int .i64 (divE re im ka 1 1)) ∧ Quiet w w' := by
  have q0 : Quiet w (w.alloc (.cells #[.int .i64 10, .int .i64 ka, .int .i64 1, .int .i64 1, .string s, .string t] 28)) := (Chg.refl _ _).alloc _
  have bo := Blk.new w 28 [.int .i64 10, .int .i64 ka, .int .i64 1, .int .i64 1, .string s, .string t]
  have co := bo.cell
  have gX : Hid (∀ W, Quiet w W → Calls Try.prog 15 #[.pointer (some ⟨y, 0, none⟩), .agg #[.int .i64 3, .int .i64 ka, .int .i64 0, .int .i64 0, .string ⟨#[]⟩, .string ⟨#[]⟩]] W fun e w' => e = .returned (.agg #[.int .i64 (getP re im ka).2.2, .int .i64 (getP re im ka).1, .int .i64 (getP re im ka).2.1, .string ⟨#[]⟩]) ∧ Quiet W w') := fun W q => do_get_w w y u re im R I ka 0 0 _ _ W q
  have gY : Hid (∀ W, Quiet w W → Calls Try.prog 15 #[.pointer (some ⟨y, 0, none⟩), .agg #[.int .i64 3, .int .i64 1, .int .i64 0, .int .i64 0, .string ⟨#[]⟩, .string ⟨#[]⟩]] W fun e w' => e = .returned (.agg #[.int .i64 (getP re im 1).2.2, .int .i64 (getP re im 1).1, .int .i64 (getP re im 1).2.1, .string ⟨#[]⟩]) ∧ Quiet W w') := fun W q => do_get_w w y u re im R I 1 0 0 _ _ W q
  have hc := cells_any (w.alloc (.cells #[.int .i64 10, .int .i64 ka, .int .i64 1, .int .i64 1, .string s, .string t] 28)) ka ka
  have e1 : Hid (divE re im ka 1 1 = 3) := by show _ = _; simp [divE, e0, divP]
  rw [e0] at hc
  rw [unhide e1]
  have hf := hide (fun W => fits_any W 1 1 1 (by omega))
  simp only [show inP 1 1 1 = true from rfl] at hf
  clear e1 e0 R I
  have q0H := hide q0
  have boH := hide bo
  clear q0 bo
  unfold ptr at *
  generalize (getP re im ↑ka).2.2 = XE at *
  generalize (getP re im ↑ka).1 = XN at *
  generalize (getP re im ↑ka).2.1 = XM at *
  generalize (getP re im 1).2.2 = YE at *
  generalize (getP re im 1).1 = YN at *
  generalize (getP re im 1).2.1 = YM at *
  go_enter Try.func33, Try.ntmps33
  go_wp2_with fail
  refine hc.mono ?_
  rintro e w' ⟨rfl, rfl⟩
  go_wp2_with fail
  refine (unhide gX _ (unhide q0H)).mono ?_
  rintro e w1 ⟨rfl, q1⟩
  have q2 := hide (Quiet.trans (Quiet.trans (unhide q0H) q1) ((Chg.refl _ _).alloc (.cells #[.int .i64 XE, .int .i64 XN, .int .i64 XM, .string ⟨#[]⟩] 35)))
  have bo1 := (q1.blk (unhide boH)).alloc (.cells #[.int .i64 XE, .int .i64 XN, .int .i64 XM, .string ⟨#[]⟩] 35)
  have bx1 := Blk.new w1 35 [.int .i64 XE, .int .i64 XN, .int .i64 XM, .string ⟨#[]⟩]
  have co := bo1.cell
  have stH := hide (And.intro bo1 bx1)
  clear q1 bo1 bx1 boH
  go_wp2_with fail
  refine (unhide gY _ (unhide q2)).mono ?_
  rintro e w3 ⟨rfl, q3⟩
  have q4 := hide (Quiet.trans (Quiet.trans (unhide q2) q3) ((Chg.refl _ _).alloc (.cells #[.int .i64 YE, .int .i64 YN, .int .i64 YM, .string ⟨#[]⟩] 35)))
  have bo3 := (q3.blk (unhide stH).1).alloc (.cells #[.int .i64 YE, .int .i64 YN, .int .i64 YM, .string ⟨#[]⟩] 35)
  have bx3 := (q3.blk (unhide stH).2).alloc (.cells #[.int .i64 YE, .int .i64 YN, .int .i64 YM, .string ⟨#[]⟩] 35)
  have by3 := Blk.new w3 35 [.int .i64 YE, .int .i64 YN, .int .i64 YM, .string ⟨#[]⟩]
  clear co
  have co := bo3.cell
  have cx := bx3.cell
  have cy := by3.cell
  clear q3 bo3 bx3 by3 stH q2 gX gY
  go_wp2_with fail
  refine (unhide hf _).mono ?_
  rintro e w5 ⟨rfl, hw5⟩
  subst hw5
  go_wp2
  go_ret
  exact ⟨rfl, unhide q4⟩

set_option maxRecDepth 100000 in
set_option maxHeartbeats 4000000 in
theorem owed_div_pm (w : World) (y u : Nat) (re im : Nat → Int) (R : Rep w y u re im) (I : Inv re im) (ka : Nat) (hka : ka < 4) (e0 : cellsP ka ka = true) (s t : ByteArray) :
    Calls Try.prog 33 #[ptr y, .agg #[.int .i64 10, .int .i64 ka, .int .i64 1, .int .i64 (-1), .string s, .string t]] w fun e w' => e = .returned (.int .i64 (divE re im ka 1 (-1))) ∧ Quiet w w' := by
  have q0 : Quiet w (w.alloc (.cells #[.int .i64 10, .int .i64 ka, .int .i64 1, .int .i64 (-1), .string s, .string t] 28)) := (Chg.refl _ _).alloc _
  have bo := Blk.new w 28 [.int .i64 10, .int .i64 ka, .int .i64 1, .int .i64 (-1), .string s, .string t]
  have co := bo.cell
  have gX : Hid (∀ W, Quiet w W → Calls Try.prog 15 #[.pointer (some ⟨y, 0, none⟩), .agg #[.int .i64 3, .int .i64 ka, .int .i64 0, .int .i64 0, .string ⟨#[]⟩, .string ⟨#[]⟩]] W fun e w' => e = .returned (.agg #[.int .i64 (getP re im ka).2.2, .int .i64 (getP re im ka).1, .int .i64 (getP re im ka).2.1, .string ⟨#[]⟩]) ∧ Quiet W w') := fun W q => do_get_w w y u re im R I ka 0 0 _ _ W q
  have gY : Hid (∀ W, Quiet w W → Calls Try.prog 15 #[.pointer (some ⟨y, 0, none⟩), .agg #[.int .i64 3, .int .i64 1, .int .i64 0, .int .i64 0, .string ⟨#[]⟩, .string ⟨#[]⟩]] W fun e w' => e = .returned (.agg #[.int .i64 (getP re im 1).2.2, .int .i64 (getP re im 1).1, .int .i64 (getP re im 1).2.1, .string ⟨#[]⟩]) ∧ Quiet W w') := fun W q => do_get_w w y u re im R I 1 0 0 _ _ W q
  have hc := cells_any (w.alloc (.cells #[.int .i64 10, .int .i64 ka, .int .i64 1, .int .i64 (-1), .string s, .string t] 28)) ka ka
  have e1 : Hid (divE re im ka 1 (-1) = 3) := by show _ = _; simp [divE, e0, divP]
  rw [e0] at hc
  rw [unhide e1]
  have hf := hide (fun W => fits_any W 1 (-1) 1 (by omega))
  simp only [show inP 1 (-1) 1 = true from rfl] at hf
  clear e1 e0 R I
  have q0H := hide q0
  have boH := hide bo
  clear q0 bo
  unfold ptr at *
  generalize (getP re im ↑ka).2.2 = XE at *
  generalize (getP re im ↑ka).1 = XN at *
  generalize (getP re im ↑ka).2.1 = XM at *
  generalize (getP re im 1).2.2 = YE at *
  generalize (getP re im 1).1 = YN at *
  generalize (getP re im 1).2.1 = YM at *
  go_enter Try.func33, Try.ntmps33
  go_wp2_with fail
  refine hc.mono ?_
  rintro e w' ⟨rfl, rfl⟩
  go_wp2_with fail
  refine (unhide gX _ (unhide q0H)).mono ?_
  rintro e w1 ⟨rfl, q1⟩
  have q2 := hide (Quiet.trans (Quiet.trans (unhide q0H) q1) ((Chg.refl _ _).alloc (.cells #[.int .i64 XE, .int .i64 XN, .int .i64 XM, .string ⟨#[]⟩] 35)))
  have bo1 := (q1.blk (unhide boH)).alloc (.cells #[.int .i64 XE, .int .i64 XN, .int .i64 XM, .string ⟨#[]⟩] 35)
  have bx1 := Blk.new w1 35 [.int .i64 XE, .int .i64 XN, .int .i64 XM, .string ⟨#[]⟩]
  have co := bo1.cell
  have stH := hide (And.intro bo1 bx1)
  clear q1 bo1 bx1 boH
  go_wp2_with fail
  refine (unhide gY _ (unhide q2)).mono ?_
  rintro e w3 ⟨rfl, q3⟩
  have q4 := hide (Quiet.trans (Quiet.trans (unhide q2) q3) ((Chg.refl _ _).alloc (.cells #[.int .i64 YE, .int .i64 YN, .int .i64 YM, .string ⟨#[]⟩] 35)))
  have bo3 := (q3.blk (unhide stH).1).alloc (.cells #[.int .i64 YE, .int .i64 YN, .int .i64 YM, .string ⟨#[]⟩] 35)
  have bx3 := (q3.blk (unhide stH).2).alloc (.cells #[.int .i64 YE, .int .i64 YN, .int .i64 YM, .string ⟨#[]⟩] 35)
  have by3 := Blk.new w3 35 [.int .i64 YE, .int .i64 YN, .int .i64 YM, .string ⟨#[]⟩]
  clear co
  have co := bo3.cell
  have cx := bx3.cell
  have cy := by3.cell
  clear q3 bo3 bx3 by3 stH q2 gX gY
  go_wp2_with fail
  refine (unhide hf _).mono ?_
  rintro e w5 ⟨rfl, hw5⟩
  subst hw5
  go_wp2
  go_ret
  exact ⟨rfl, unhide q4⟩

set_option maxRecDepth 100000 in
set_option maxHeartbeats 4000000 in
theorem owed_div_mp (w : World) (y u : Nat) (re im : Nat → Int) (R : Rep w y u re im) (I : Inv re im) (ka : Nat) (hka : ka < 4) (e0 : cellsP ka ka = true) (s t : ByteArray) :
    Calls Try.prog 33 #[ptr y, .agg #[.int .i64 10, .int .i64 ka, .int .i64 (-1), .int .i64 1, .string s, .string t]] w fun e w' => e = .returned (.int .i64 (divE re im ka (-1) 1)) ∧ Quiet w w' := by
  have q0 : Quiet w (w.alloc (.cells #[.int .i64 10, .int .i64 ka, .int .i64 (-1), .int .i64 1, .string s, .string t] 28)) := (Chg.refl _ _).alloc _
  have bo := Blk.new w 28 [.int .i64 10, .int .i64 ka, .int .i64 (-1), .int .i64 1, .string s, .string t]
  have co := bo.cell
  have gX : Hid (∀ W, Quiet w W → Calls Try.prog 15 #[.pointer (some ⟨y, 0, none⟩), .agg #[.int .i64 3, .int .i64 ka, .int .i64 0, .int .i64 0, .string ⟨#[]⟩, .string ⟨#[]⟩]] W fun e w' => e = .returned (.agg #[.int .i64 (getP re im ka).2.2, .int .i64 (getP re im ka).1, .int .i64 (getP re im ka).2.1, .string ⟨#[]⟩]) ∧ Quiet W w') := fun W q => do_get_w w y u re im R I ka 0 0 _ _ W q
  have gY : Hid (∀ W, Quiet w W → Calls Try.prog 15 #[.pointer (some ⟨y, 0, none⟩), .agg #[.int .i64 3, .int .i64 (-1), .int .i64 0, .int .i64 0, .string ⟨#[]⟩, .string ⟨#[]⟩]] W fun e w' => e = .returned (.agg #[.int .i64 (getP re im (-1)).2.2, .int .i64 (getP re im (-1)).1, .int .i64 (getP re im (-1)).2.1, .string ⟨#[]⟩]) ∧ Quiet W w') := fun W q => do_get_w w y u re im R I (-1) 0 0 _ _ W q
  have hc := cells_any (w.alloc (.cells #[.int .i64 10, .int .i64 ka, .int .i64 (-1), .int .i64 1, .string s, .string t] 28)) ka ka
  have e1 : Hid (divE re im ka (-1) 1 = 3) := by show _ = _; simp [divE, e0, divP]
  rw [e0] at hc
  rw [unhide e1]
  have hf := hide (fun W => fits_any W (-1) 1 1 (by omega))
  simp only [show inP (-1) 1 1 = true from rfl] at hf
  clear e1 e0 R I
  have q0H := hide q0
  have boH := hide bo
  clear q0 bo
  unfold ptr at *
  generalize (getP re im ↑ka).2.2 = XE at *
  generalize (getP re im ↑ka).1 = XN at *
  generalize (getP re im ↑ka).2.1 = XM at *
  generalize (getP re im (-1)).2.2 = YE at *
  generalize (getP re im (-1)).1 = YN at *
  generalize (getP re im (-1)).2.1 = YM at *
  go_enter Try.func33, Try.ntmps33
  go_wp2_with fail
  refine hc.mono ?_
  rintro e w' ⟨rfl, rfl⟩
  go_wp2_with fail
  refine (unhide gX _ (unhide q0H)).mono ?_
  rintro e w1 ⟨rfl, q1⟩
  have q2 := hide (Quiet.trans (Quiet.trans (unhide q0H) q1) ((Chg.refl _ _).alloc (.cells #[.int .i64 XE, .int .i64 XN, .int .i64 XM, .string ⟨#[]⟩] 35)))
  have bo1 := (q1.blk (unhide boH)).alloc (.cells #[.int .i64 XE, .int .i64 XN, .int .i64 XM, .string ⟨#[]⟩] 35)
  have bx1 := Blk.new w1 35 [.int .i64 XE, .int .i64 XN, .int .i64 XM, .string ⟨#[]⟩]
  have co := bo1.cell
  have stH := hide (And.intro bo1 bx1)
  clear q1 bo1 bx1 boH
  go_wp2_with fail
  refine (unhide gY _ (unhide q2)).mono ?_
  rintro e w3 ⟨rfl, q3⟩
  have q4 := hide (Quiet.trans (Quiet.trans (unhide q2) q3) ((Chg.refl _ _).alloc (.cells #[.int .i64 YE, .int .i64 YN, .int .i64 YM, .string ⟨#[]⟩] 35)))
  have bo3 := (q3.blk (unhide stH).1).alloc (.cells #[.int .i64 YE, .int .i64 YN, .int .i64 YM, .string ⟨#[]⟩] 35)
  have bx3 := (q3.blk (unhide stH).2).alloc (.cells #[.int .i64 YE, .int .i64 YN, .int .i64 YM, .string ⟨#[]⟩] 35)
  have by3 := Blk.new w3 35 [.int .i64 YE, .int .i64 YN, .int .i64 YM, .string ⟨#[]⟩]
  clear co
  have co := bo3.cell
  have cx := bx3.cell
  have cy := by3.cell
  clear q3 bo3 bx3 by3 stH q2 gX gY
  go_wp2_with fail
  refine (unhide hf _).mono ?_
  rintro e w5 ⟨rfl, hw5⟩
  subst hw5
  go_wp2
  go_ret
  exact ⟨rfl, unhide q4⟩

set_option maxRecDepth 100000 in
set_option maxHeartbeats 4000000 in
theorem owed_div_mm (w : World) (y u : Nat) (re im : Nat → Int) (R : Rep w y u re im) (I : Inv re im) (ka : Nat) (hka : ka < 4) (e0 : cellsP ka ka = true) (s t : ByteArray) :
    Calls Try.prog 33 #[ptr y, .agg #[.int .i64 10, .int .i64 ka, .int .i64 (-1), .int .i64 (-1), .string s, .string t]] w fun e w' => e = .returned (.int .i64 (divE re im ka (-1) (-1))) ∧ Quiet w w' := by
  have q0 : Quiet w (w.alloc (.cells #[.int .i64 10, .int .i64 ka, .int .i64 (-1), .int .i64 (-1), .string s, .string t] 28)) := (Chg.refl _ _).alloc _
  have bo := Blk.new w 28 [.int .i64 10, .int .i64 ka, .int .i64 (-1), .int .i64 (-1), .string s, .string t]
  have co := bo.cell
  have gX : Hid (∀ W, Quiet w W → Calls Try.prog 15 #[.pointer (some ⟨y, 0, none⟩), .agg #[.int .i64 3, .int .i64 ka, .int .i64 0, .int .i64 0, .string ⟨#[]⟩, .string ⟨#[]⟩]] W fun e w' => e = .returned (.agg #[.int .i64 (getP re im ka).2.2, .int .i64 (getP re im ka).1, .int .i64 (getP re im ka).2.1, .string ⟨#[]⟩]) ∧ Quiet W w') := fun W q => do_get_w w y u re im R I ka 0 0 _ _ W q
  have gY : Hid (∀ W, Quiet w W → Calls Try.prog 15 #[.pointer (some ⟨y, 0, none⟩), .agg #[.int .i64 3, .int .i64 (-1), .int .i64 0, .int .i64 0, .string ⟨#[]⟩, .string ⟨#[]⟩]] W fun e w' => e = .returned (.agg #[.int .i64 (getP re im (-1)).2.2, .int .i64 (getP re im (-1)).1, .int .i64 (getP re im (-1)).2.1, .string ⟨#[]⟩]) ∧ Quiet W w') := fun W q => do_get_w w y u re im R I (-1) 0 0 _ _ W q
  have hc := cells_any (w.alloc (.cells #[.int .i64 10, .int .i64 ka, .int .i64 (-1), .int .i64 (-1), .string s, .string t] 28)) ka ka
  have e1 : Hid (divE re im ka (-1) (-1) = 3) := by show _ = _; simp [divE, e0, divP]
  rw [e0] at hc
  rw [unhide e1]
  have hf := hide (fun W => fits_any W (-1) (-1) 1 (by omega))
  simp only [show inP (-1) (-1) 1 = true from rfl] at hf
  clear e1 e0 R I
  have q0H := hide q0
  have boH := hide bo
  clear q0 bo
  unfold ptr at *
  generalize (getP re im ↑ka).2.2 = XE at *
  generalize (getP re im ↑ka).1 = XN at *
  generalize (getP re im ↑ka).2.1 = XM at *
  generalize (getP re im (-1)).2.2 = YE at *
  generalize (getP re im (-1)).1 = YN at *
  generalize (getP re im (-1)).2.1 = YM at *
  go_enter Try.func33, Try.ntmps33
  go_wp2_with fail
  refine hc.mono ?_
  rintro e w' ⟨rfl, rfl⟩
  go_wp2_with fail
  refine (unhide gX _ (unhide q0H)).mono ?_
  rintro e w1 ⟨rfl, q1⟩
  have q2 := hide (Quiet.trans (Quiet.trans (unhide q0H) q1) ((Chg.refl _ _).alloc (.cells #[.int .i64 XE, .int .i64 XN, .int .i64 XM, .string ⟨#[]⟩] 35)))
  have bo1 := (q1.blk (unhide boH)).alloc (.cells #[.int .i64 XE, .int .i64 XN, .int .i64 XM, .string ⟨#[]⟩] 35)
  have bx1 := Blk.new w1 35 [.int .i64 XE, .int .i64 XN, .int .i64 XM, .string ⟨#[]⟩]
  have co := bo1.cell
  have stH := hide (And.intro bo1 bx1)
  clear q1 bo1 bx1 boH
  go_wp2_with fail
  refine (unhide gY _ (unhide q2)).mono ?_
  rintro e w3 ⟨rfl, q3⟩
  have q4 := hide (Quiet.trans (Quiet.trans (unhide q2) q3) ((Chg.refl _ _).alloc (.cells #[.int .i64 YE, .int .i64 YN, .int .i64 YM, .string ⟨#[]⟩] 35)))
  have bo3 := (q3.blk (unhide stH).1).alloc (.cells #[.int .i64 YE, .int .i64 YN, .int .i64 YM, .string ⟨#[]⟩] 35)
  have bx3 := (q3.blk (unhide stH).2).alloc (.cells #[.int .i64 YE, .int .i64 YN, .int .i64 YM, .string ⟨#[]⟩] 35)
  have by3 := Blk.new w3 35 [.int .i64 YE, .int .i64 YN, .int .i64 YM, .string ⟨#[]⟩]
  clear co
  have co := bo3.cell
  have cx := bx3.cell
  have cy := by3.cell
  clear q3 bo3 bx3 by3 stH q2 gX gY
  go_wp2_with fail
  refine (unhide hf _).mono ?_
  rintro e w5 ⟨rfl, hw5⟩
  subst hw5
  go_wp2
  go_ret
  exact ⟨rfl, unhide q4⟩

set_option maxRecDepth 100000 in
set_option maxHeartbeats 4000000 in
theorem owed_div_other (w : World) (y u : Nat) (re im : Nat → Int) (R : Rep w y u re im) (I : Inv re im) (ka : Nat) (hka : ka < 4) (e0 : cellsP ka ka = true) (b c : Int) (s t : ByteArray) (hd : divP b c = false) :
    Calls Try.prog 33 #[ptr y, .agg #[.int .i64 10, .int .i64 ka, .int .i64 b, .int .i64 c, .string s, .string t]] w fun e w' => e = .returned (.int .i64 (divE re im ka b c)) ∧ Quiet w w' := by
  have q0 : Quiet w (w.alloc (.cells #[.int .i64 10, .int .i64 ka, .int .i64 b, .int .i64 c, .string s, .string t] 28)) := (Chg.refl _ _).alloc _
  have bo := Blk.new w 28 [.int .i64 10, .int .i64 ka, .int .i64 b, .int .i64 c, .string s, .string t]
  have co := bo.cell
  have gX : Hid (∀ W, Quiet w W → Calls Try.prog 15 #[.pointer (some ⟨y, 0, none⟩), .agg #[.int .i64 3, .int .i64 ka, .int .i64 0, .int .i64 0, .string ⟨#[]⟩, .string ⟨#[]⟩]] W fun e w' => e = .returned (.agg #[.int .i64 (getP re im ka).2.2, .int .i64 (getP re im ka).1, .int .i64 (getP re im ka).2.1, .string ⟨#[]⟩]) ∧ Quiet W w') := fun W q => do_get_w w y u re im R I ka 0 0 _ _ W q
  have gY : Hid (∀ W, Quiet w W → Calls Try.prog 15 #[.pointer (some ⟨y, 0, none⟩), .agg #[.int .i64 3, .int .i64 b, .int .i64 0, .int .i64 0, .string ⟨#[]⟩, .string ⟨#[]⟩]] W fun e w' => e = .returned (.agg #[.int .i64 (getP re im b).2.2, .int .i64 (getP re im b).1, .int .i64 (getP re im b).2.1, .string ⟨#[]⟩]) ∧ Quiet W w') := fun W q => do_get_w w y u re im R I b 0 0 _ _ W q
  have hc := cells_any (w.alloc (.cells #[.int .i64 10, .int .i64 ka, .int .i64 b, .int .i64 c, .string s, .string t] 28)) ka ka
  have hd2 := hd
  simp only [divP, decide_eq_false_iff_not] at hd2
  cases hin : inP b c 1 with
  | true =>
    simp only [inP, decide_eq_true_eq] at hin
    have hb : b = -1 ∨ b = 0 ∨ b = 1 := by omega
    have hcc : c = -1 ∨ c = 0 ∨ c = 1 := by omega
    rcases hb with rfl | rfl | rfl <;> rcases hcc with rfl | rfl | rfl
    · exact owed_div_mm w y u re im R I ka hka e0 s t
    · exact absurd hd (by decide)
    · exact owed_div_mp w y u re im R I ka hka e0 s t
    · exact absurd hd (by decide)
    · exact owed_div_z w y u re im R I ka hka e0 s t
    · exact absurd hd (by decide)
    · exact owed_div_pm w y u re im R I ka hka e0 s t
    · exact absurd hd (by decide)
    · exact owed_div_pp w y u re im R I ka hka e0 s t
  | false =>
    have e1 : Hid (divE re im ka b c = 3) := by show _ = _; simp [divE, e0, hd]
    rw [e0] at hc
    rw [unhide e1]
    have hf := hide (fun W => fits_any W b c 1 (by omega))
    simp only [hin] at hf
    clear hd hin e1 e0 R I
    by_cases hc0 : c = 0
    · subst hc0
      have x1 : ¬ b = 2 := by omega
      have x2 : ¬ b = 4 := by omega
      have x3 : (b == 2) = false := by simpa using x1
      have x4 : (b == 4) = false := by simpa using x2
      have x6 : (b != 2) = true := by simpa using x1
      have x7 : (b != 4) = true := by simpa using x2
      clear hd2
      have q0H := hide q0
      have boH := hide bo
      clear q0 bo
      unfold ptr at *
      generalize (getP re im ↑ka).2.2 = XE at *
      generalize (getP re im ↑ka).1 = XN at *
      generalize (getP re im ↑ka).2.1 = XM at *
      generalize (getP re im b).2.2 = YE at *
      generalize (getP re im b).1 = YN at *
      generalize (getP re im b).2.1 = YM at *
      go_enter Try.func33, Try.ntmps33
      go_wp2_with fail
      refine hc.mono ?_
      rintro e w' ⟨rfl, rfl⟩
      go_wp2_with fail
      refine (unhide gX _ (unhide q0H)).mono ?_
      rintro e w1 ⟨rfl, q1⟩
      have q2 := hide (Quiet.trans (Quiet.trans (unhide q0H) q1) ((Chg.refl _ _).alloc (.cells #[.int .i64 XE, .int .i64 XN, .int .i64 XM, .string ⟨#[]⟩] 35)))
      have bo1 := (q1.blk (unhide boH)).alloc (.cells #[.int .i64 XE, .int .i64 XN, .int .i64 XM, .string ⟨#[]⟩] 35)
      have bx1 := Blk.new w1 35 [.int .i64 XE, .int .i64 XN, .int .i64 XM, .string ⟨#[]⟩]
      have co := bo1.cell
      have stH := hide (And.intro bo1 bx1)
      clear q1 bo1 bx1 boH
      go_wp2_with fail
      refine (unhide gY _ (unhide q2)).mono ?_
      rintro e w3 ⟨rfl, q3⟩
      have q4 := hide (Quiet.trans (Quiet.trans (unhide q2) q3) ((Chg.refl _ _).alloc (.cells #[.int .i64 YE, .int .i64 YN, .int .i64 YM, .string ⟨#[]⟩] 35)))
      have bo3 := (q3.blk (unhide stH).1).alloc (.cells #[.int .i64 YE, .int .i64 YN, .int .i64 YM, .string ⟨#[]⟩] 35)
      have bx3 := (q3.blk (unhide stH).2).alloc (.cells #[.int .i64 YE, .int .i64 YN, .int .i64 YM, .string ⟨#[]⟩] 35)
      have by3 := Blk.new w3 35 [.int .i64 YE, .int .i64 YN, .int .i64 YM, .string ⟨#[]⟩]
      clear co
      have co := bo3.cell
      have cx := bx3.cell
      have cy := by3.cell
      clear q3 bo3 bx3 by3 stH q2 gX gY
      go_wp2_with fail
      refine (unhide hf _).mono ?_
      rintro e w5 ⟨rfl, hw5⟩
      subst hw5
      go_wp2
      go_ret
      exact ⟨rfl, unhide q4⟩
    · have x5 : (c == 0) = false := by simpa using hc0
      have x8 : (c != 0) = true := by simpa using hc0
      clear hd2
      have q0H := hide q0
      have boH := hide bo
      clear q0 bo
      unfold ptr at *
      generalize (getP re im ↑ka).2.2 = XE at *
      generalize (getP re im ↑ka).1 = XN at *
      generalize (getP re im ↑ka).2.1 = XM at *
      generalize (getP re im b).2.2 = YE at *
      generalize (getP re im b).1 = YN at *
      generalize (getP re im b).2.1 = YM at *
      go_enter Try.func33, Try.ntmps33
      go_wp2_with fail
      refine hc.mono ?_
      rintro e w' ⟨rfl, rfl⟩
      go_wp2_with fail
      refine (unhide gX _ (unhide q0H)).mono ?_
      rintro e w1 ⟨rfl, q1⟩
      have q2 := hide (Quiet.trans (Quiet.trans (unhide q0H) q1) ((Chg.refl _ _).alloc (.cells #[.int .i64 XE, .int .i64 XN, .int .i64 XM, .string ⟨#[]⟩] 35)))
      have bo1 := (q1.blk (unhide boH)).alloc (.cells #[.int .i64 XE, .int .i64 XN, .int .i64 XM, .string ⟨#[]⟩] 35)
      have bx1 := Blk.new w1 35 [.int .i64 XE, .int .i64 XN, .int .i64 XM, .string ⟨#[]⟩]
      have co := bo1.cell
      have stH := hide (And.intro bo1 bx1)
      clear q1 bo1 bx1 boH
      go_wp2_with fail
      refine (unhide gY _ (unhide q2)).mono ?_
      rintro e w3 ⟨rfl, q3⟩
      have q4 := hide (Quiet.trans (Quiet.trans (unhide q2) q3) ((Chg.refl _ _).alloc (.cells #[.int .i64 YE, .int .i64 YN, .int .i64 YM, .string ⟨#[]⟩] 35)))
      have bo3 := (q3.blk (unhide stH).1).alloc (.cells #[.int .i64 YE, .int .i64 YN, .int .i64 YM, .string ⟨#[]⟩] 35)
      have bx3 := (q3.blk (unhide stH).2).alloc (.cells #[.int .i64 YE, .int .i64 YN, .int .i64 YM, .string ⟨#[]⟩] 35)
      have by3 := Blk.new w3 35 [.int .i64 YE, .int .i64 YN, .int .i64 YM, .string ⟨#[]⟩]
      clear co
      have co := bo3.cell
      have cx := bx3.cell
      have cy := by3.cell
      clear q3 bo3 bx3 by3 stH q2 gX gY
      go_wp2_with fail
      refine (unhide hf _).mono ?_
      rintro e w5 ⟨rfl, hw5⟩
      subst hw5
      go_wp2
      go_ret
      exact ⟨rfl, unhide q4⟩

set_option maxRecDepth 100000 in
set_option maxHeartbeats 4000000 in
theorem owed_div (w : World) (y u : Nat) (re im : Nat → Int) (R : Rep w y u re im) (I : Inv re im) (a b c : Int) (s t : ByteArray) :
    Calls Try.prog 33 #[ptr y, .agg #[.int .i64 10, .int .i64 a, .int .i64 b, .int .i64 c, .string s, .string t]] w fun e w' => e = .returned (.int .i64 (divE re im a b c)) ∧ Quiet w w' := by
  rcases cells_cases a a with ⟨ka, kb, rfl, hkk, hka, _, e0⟩ | e0
  · cases hd : divP b c with
    | false => exact owed_div_other w y u re im R I ka hka e0 b c s t hd
    | true =>
      simp only [divP, decide_eq_true_eq] at hd
      rcases hd with ⟨rfl, rfl | rfl | rfl | rfl⟩ | ⟨rfl, rfl | rfl⟩
      · exact owed_div_p1 w y u re im R I ka hka e0 s t
      · exact owed_div_m1 w y u re im R I ka hka e0 s t
      · exact owed_div_two w y u re im R I ka hka e0 s t
      · exact owed_div_four w y u re im R I ka hka e0 s t
      · exact owed_div_pi w y u re im R I ka hka e0 s t
      · exact owed_div_mi w y u re im R I ka hka e0 s t
  · have q0 : Quiet w (w.alloc (.cells #[.int .i64 10, .int .i64 a, .int .i64 b, .int .i64 c, .string s, .string t] 28)) := (Chg.refl _ _).alloc _
    have bo := Blk.new w 28 [.int .i64 10, .int .i64 a, .int .i64 b, .int .i64 c, .string s, .string t]
    have co := bo.cell
    have gX : Hid (∀ W, Quiet w W → Calls Try.prog 15 #[.pointer (some ⟨y, 0, none⟩), .agg #[.int .i64 3, .int .i64 a, .int .i64 0, .int .i64 0, .string ⟨#[]⟩, .string ⟨#[]⟩]] W fun e w' => e = .returned (.agg #[.int .i64 (getP re im a).2.2, .int .i64 (getP re im a).1, .int .i64 (getP re im a).2.1, .string ⟨#[]⟩]) ∧ Quiet W w') := fun W q => do_get_w w y u re im R I a 0 0 _ _ W q
    have gY : Hid (∀ W, Quiet w W → Calls Try.prog 15 #[.pointer (some ⟨y, 0, none⟩), .agg #[.int .i64 3, .int .i64 b, .int .i64 0, .int .i64 0, .string ⟨#[]⟩, .string ⟨#[]⟩]] W fun e w' => e = .returned (.agg #[.int .i64 (getP re im b).2.2, .int .i64 (getP re im b).1, .int .i64 (getP re im b).2.1, .string ⟨#[]⟩]) ∧ Quiet W w') := fun W q => do_get_w w y u re im R I b 0 0 _ _ W q
    have hc := cells_any (w.alloc (.cells #[.int .i64 10, .int .i64 a, .int .i64 b, .int .i64 c, .string s, .string t] 28)) a a
    have e1 : Hid (divE re im a b c = 1) := by show _ = _; simp [divE, e0]
    rw [e0] at hc
    rw [unhide e1]
    clear e1 e0 R I gX gY
    have q0H := hide q0
    have boH := hide bo
    clear q0 bo
    unfold ptr at *
    go_enter Try.func33, Try.ntmps33
    go_wp2_with fail
    refine hc.mono ?_
    rintro e w' ⟨rfl, rfl⟩
    go_wp2
    go_ret
    exact ⟨rfl, unhide q0H⟩
end Go.Proofs.Qxb6500362a
