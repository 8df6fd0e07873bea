/-
  Owed: THE Errno THAT THE CONTRACT DEMANDS: kind by kind. (gen2owed.py)
-/
import Derived.Test.Qxb6500362aKeepE
namespace Go.Proofs.Qxb6500362a
open Go.RowKit Go.Qx
set_option linter.unusedVariables false
set_option linter.unusedSimpArgs false

def rangedP (a b c : Int) : Int := if inP a b c = true then 0 else 2
theorem ranged_p (w : World) (a b c : Int) (hc : 0 ≤ c ∧ c ≤ 9223372036854775807) : Calls Try.prog 52 #[.int .i64 a, .int .i64 b, .int .i64 c] w fun e w' => e = .returned (.int .i64 (rangedP a b c)) ∧ w' = w := ranged_any w a b c hc

set_option maxRecDepth 100000 in
set_option maxHeartbeats 4000000 in
theorem owed_set (w : World) (y u : Nat) (re im : Nat → Int) (R : Rep w y u re im) (I : Inv re im) (a b c : Int) (s t : ByteArray) :
    Calls Try.prog 33 #[ptr y, .agg #[.int .i64 2, .int .i64 a, .int .i64 b, .int .i64 c, .string s, .string t]] w fun e w' => e = .returned (.int .i64 (setE a b c)) ∧ Quiet w w' := by
  have q0 : Quiet w (w.alloc (.cells #[.int .i64 2, .int .i64 a, .int .i64 b, .int .i64 c, .string s, .string t] 28)) := (Chg.refl _ _).alloc _
  have bo := Blk.new w 28 [.int .i64 2, .int .i64 a, .int .i64 b, .int .i64 c, .string s, .string t]
  have co := bo.cell
  have gX : Hid (∀ W, Quiet w W → Calls Try.prog 15 #[.pointer (some ⟨y, 0, none⟩), .agg #[.int .i64 3, .int .i64 a, .int .i64 0, .int .i64 0, .string ⟨#[]⟩, .string ⟨#[]⟩]] W fun e w' => e = .returned (.agg #[.int .i64 (getP re im a).2.2, .int .i64 (getP re im a).1, .int .i64 (getP re im a).2.1, .string ⟨#[]⟩]) ∧ Quiet W w') := fun W q => do_get_w w y u re im R I a 0 0 _ _ W q
  have gY : Hid (∀ W, Quiet w W → Calls Try.prog 15 #[.pointer (some ⟨y, 0, none⟩), .agg #[.int .i64 3, .int .i64 b, .int .i64 0, .int .i64 0, .string ⟨#[]⟩, .string ⟨#[]⟩]] W fun e w' => e = .returned (.agg #[.int .i64 (getP re im b).2.2, .int .i64 (getP re im b).1, .int .i64 (getP re im b).2.1, .string ⟨#[]⟩]) ∧ Quiet W w') := fun W q => do_get_w w y u re im R I b 0 0 _ _ W q
  have hc := cells_any (w.alloc (.cells #[.int .i64 2, .int .i64 a, .int .i64 b, .int .i64 c, .string s, .string t] 28)) a a
  rcases cells_cases a a with ⟨ka, kb, rfl, hkk, hka, _, e0⟩ | e0
  · clear hkk
    have e1 : Hid (setE ka b c = rangedP b c 67108864) := by show _ = _; simp [setE, e0, putE, rangedP]
    rw [e0] at hc
    rw [unhide e1]
    have hr := hide (fun W => ranged_p W b c 67108864 (by omega))
    clear e1 e0 R I
    have q0H := hide q0
    have boH := hide bo
    clear q0 bo
    unfold ptr at *
    generalize (getP re im ↑ka).2.2 = XE at *
    generalize (getP re im ↑ka).1 = XN at *
    generalize (getP re im ↑ka).2.1 = XM at *
    generalize (getP re im b).2.2 = YE at *
    generalize (getP re im b).1 = YN at *
    generalize (getP re im b).2.1 = YM at *
    go_enter Try.func33, Try.ntmps33
    go_wp2_with fail
    refine hc.mono ?_
    rintro e w' ⟨rfl, rfl⟩
    go_wp2_with fail
    refine (unhide gX _ (unhide q0H)).mono ?_
    rintro e w1 ⟨rfl, q1⟩
    have q2 := hide (Quiet.trans (Quiet.trans (unhide q0H) q1) ((Chg.refl _ _).alloc (.cells #[.int .i64 XE, .int .i64 XN, .int .i64 XM, .string ⟨#[]⟩] 35)))
    have bo1 := (q1.blk (unhide boH)).alloc (.cells #[.int .i64 XE, .int .i64 XN, .int .i64 XM, .string ⟨#[]⟩] 35)
    have bx1 := Blk.new w1 35 [.int .i64 XE, .int .i64 XN, .int .i64 XM, .string ⟨#[]⟩]
    have co := bo1.cell
    have stH := hide (And.intro bo1 bx1)
    clear q1 bo1 bx1 boH
    go_wp2_with fail
    refine (unhide gY _ (unhide q2)).mono ?_
    rintro e w3 ⟨rfl, q3⟩
    have q4 := hide (Quiet.trans (Quiet.trans (unhide q2) q3) ((Chg.refl _ _).alloc (.cells #[.int .i64 YE, .int .i64 YN, .int .i64 YM, .string ⟨#[]⟩] 35)))
    have bo3 := (q3.blk (unhide stH).1).alloc (.cells #[.int .i64 YE, .int .i64 YN, .int .i64 YM, .string ⟨#[]⟩] 35)
    have bx3 := (q3.blk (unhide stH).2).alloc (.cells #[.int .i64 YE, .int .i64 YN, .int .i64 YM, .string ⟨#[]⟩] 35)
    have by3 := Blk.new w3 35 [.int .i64 YE, .int .i64 YN, .int .i64 YM, .string ⟨#[]⟩]
    clear co
    have co := bo3.cell
    have cx := bx3.cell
    have cy := by3.cell
    clear q3 bo3 bx3 by3 stH q2 gX gY
    go_wp2_with fail
    refine (unhide hr _).mono ?_
    rintro e w5 ⟨rfl, hw5⟩
    subst hw5
    go_wp2
    go_ret
    exact ⟨rfl, unhide q4⟩
  · have e1 : Hid (setE a b c = 1) := by show _ = _; simp [setE, e0]
    rw [e0] at hc
    rw [unhide e1]
    clear e1 e0 R I gX gY
    have q0H := hide q0
    have boH := hide bo
    clear q0 bo
    unfold ptr at *
    go_enter Try.func33, Try.ntmps33
    go_wp2_with fail
    refine hc.mono ?_
    rintro e w' ⟨rfl, rfl⟩
    go_wp2
    go_ret
    exact ⟨rfl, unhide q0H⟩

set_option maxRecDepth 100000 in
set_option maxHeartbeats 4000000 in
theorem owed_add (w : World) (y u : Nat) (re im : Nat → Int) (R : Rep w y u re im) (I : Inv re im) (a b c : Int) (s t : ByteArray) :
    Calls Try.prog 33 #[ptr y, .agg #[.int .i64 4, .int .i64 a, .int .i64 b, .int .i64 c, .string s, .string t]] w fun e w' => e = .returned (.int .i64 (addE re im a b)) ∧ Quiet w w' := by
  have q0 : Quiet w (w.alloc (.cells #[.int .i64 4, .int .i64 a, .int .i64 b, .int .i64 c, .string s, .string t] 28)) := (Chg.refl _ _).alloc _
  have bo := Blk.new w 28 [.int .i64 4, .int .i64 a, .int .i64 b, .int .i64 c, .string s, .string t]
  have co := bo.cell
  have gX : Hid (∀ W, Quiet w W → Calls Try.prog 15 #[.pointer (some ⟨y, 0, none⟩), .agg #[.int .i64 3, .int .i64 a, .int .i64 0, .int .i64 0, .string ⟨#[]⟩, .string ⟨#[]⟩]] W fun e w' => e = .returned (.agg #[.int .i64 (getP re im a).2.2, .int .i64 (getP re im a).1, .int .i64 (getP re im a).2.1, .string ⟨#[]⟩]) ∧ Quiet W w') := fun W q => do_get_w w y u re im R I a 0 0 _ _ W q
  have gY : Hid (∀ W, Quiet w W → Calls Try.prog 15 #[.pointer (some ⟨y, 0, none⟩), .agg #[.int .i64 3, .int .i64 b, .int .i64 0, .int .i64 0, .string ⟨#[]⟩, .string ⟨#[]⟩]] W fun e w' => e = .returned (.agg #[.int .i64 (getP re im b).2.2, .int .i64 (getP re im b).1, .int .i64 (getP re im b).2.1, .string ⟨#[]⟩]) ∧ Quiet W w') := fun W q => do_get_w w y u re im R I b 0 0 _ _ W q
  have hc := cells_any (w.alloc (.cells #[.int .i64 4, .int .i64 a, .int .i64 b, .int .i64 c, .string s, .string t] 28)) a b
  rcases cells_cases a b with ⟨ka, kb, rfl, rfl, hka, hkb, e0⟩ | e0
  · have e1 : Hid (addE re im ka kb = rangedP (re ka + re kb) (im ka + im kb) 67108864) := by show _ = _; simp [addE, e0, putE, rangedP]
    rw [e0] at hc
    rw [unhide e1]
    have r1 := I.r ka hka
    have r2 := I.m ka hka
    have r3 := I.r kb hkb
    have r4 := I.m kb hkb
    have wN : wrap64 (re ka + re kb) = re ka + re kb := by unfold wrap64; omega
    have wM : wrap64 (im ka + im kb) = im ka + im kb := by unfold wrap64; omega
    have hr := hide (fun W => ranged_p W (re ka + re kb) (im ka + im kb) 67108864 (by omega))
    rw [get_in re im ka hka] at gX
    rw [get_in re im kb hkb] at gY
    simp only at gX gY
    clear e1 e0 R I
    generalize re ka = XN at *
    generalize im ka = XM at *
    generalize re kb = YN at *
    generalize im kb = YM at *
    have q0H := hide q0
    have boH := hide bo
    clear q0 bo
    unfold ptr at *
    go_enter Try.func33, Try.ntmps33
    go_wp2_with fail
    refine hc.mono ?_
    rintro e w' ⟨rfl, rfl⟩
    go_wp2_with fail
    refine (unhide gX _ (unhide q0H)).mono ?_
    rintro e w1 ⟨rfl, q1⟩
    have q2 := hide (Quiet.trans (Quiet.trans (unhide q0H) q1) ((Chg.refl _ _).alloc (.cells #[.int .i64 0, .int .i64 XN, .int .i64 XM, .string ⟨#[]⟩] 35)))
    have bo1 := (q1.blk (unhide boH)).alloc (.cells #[.int .i64 0, .int .i64 XN, .int .i64 XM, .string ⟨#[]⟩] 35)
    have bx1 := Blk.new w1 35 [.int .i64 0, .int .i64 XN, .int .i64 XM, .string ⟨#[]⟩]
    have co := bo1.cell
    have stH := hide (And.intro bo1 bx1)
    clear q1 bo1 bx1 boH
    go_wp2_with fail
    refine (unhide gY _ (unhide q2)).mono ?_
    rintro e w3 ⟨rfl, q3⟩
    have q4 := hide (Quiet.trans (Quiet.trans (unhide q2) q3) ((Chg.refl _ _).alloc (.cells #[.int .i64 0, .int .i64 YN, .int .i64 YM, .string ⟨#[]⟩] 35)))
    have bo3 := (q3.blk (unhide stH).1).alloc (.cells #[.int .i64 0, .int .i64 YN, .int .i64 YM, .string ⟨#[]⟩] 35)
    have bx3 := (q3.blk (unhide stH).2).alloc (.cells #[.int .i64 0, .int .i64 YN, .int .i64 YM, .string ⟨#[]⟩] 35)
    have by3 := Blk.new w3 35 [.int .i64 0, .int .i64 YN, .int .i64 YM, .string ⟨#[]⟩]
    clear co
    have co := bo3.cell
    have cx := bx3.cell
    have cy := by3.cell
    clear q3 bo3 bx3 by3 stH q2 gX gY
    have rH := hide (And.intro (And.intro r1 r2) (And.intro r3 r4))
    clear r1 r2 r3 r4
    go_wp2_with fail
    refine (unhide hr _).mono ?_
    rintro e w5 ⟨rfl, hw5⟩
    subst hw5
    go_wp2
    go_ret
    exact ⟨rfl, unhide q4⟩
  · have e1 : Hid (addE re im a b = 1) := by show _ = _; simp [addE, e0]
    rw [e0] at hc
    rw [unhide e1]
    clear e1 e0 R I gX gY
    have q0H := hide q0
    have boH := hide bo
    clear q0 bo
    unfold ptr at *
    go_enter Try.func33, Try.ntmps33
    go_wp2_with fail
    refine hc.mono ?_
    rintro e w' ⟨rfl, rfl⟩
    go_wp2
    go_ret
    exact ⟨rfl, unhide q0H⟩

set_option maxRecDepth 100000 in
set_option maxHeartbeats 4000000 in
theorem owed_sub (w : World) (y u : Nat) (re im : Nat → Int) (R : Rep w y u re im) (I : Inv re im) (a b c : Int) (s t : ByteArray) :
    Calls Try.prog 33 #[ptr y, .agg #[.int .i64 5, .int .i64 a, .int .i64 b, .int .i64 c, .string s, .string t]] w fun e w' => e = .returned (.int .i64 (subE re im a b)) ∧ Quiet w w' := by
  have q0 : Quiet w (w.alloc (.cells #[.int .i64 5, .int .i64 a, .int .i64 b, .int .i64 c, .string s, .string t] 28)) := (Chg.refl _ _).alloc _
  have bo := Blk.new w 28 [.int .i64 5, .int .i64 a, .int .i64 b, .int .i64 c, .string s, .string t]
  have co := bo.cell
  have gX : Hid (∀ W, Quiet w W → Calls Try.prog 15 #[.pointer (some ⟨y, 0, none⟩), .agg #[.int .i64 3, .int .i64 a, .int .i64 0, .int .i64 0, .string ⟨#[]⟩, .string ⟨#[]⟩]] W fun e w' => e = .returned (.agg #[.int .i64 (getP re im a).2.2, .int .i64 (getP re im a).1, .int .i64 (getP re im a).2.1, .string ⟨#[]⟩]) ∧ Quiet W w') := fun W q => do_get_w w y u re im R I a 0 0 _ _ W q
  have gY : Hid (∀ W, Quiet w W → Calls Try.prog 15 #[.pointer (some ⟨y, 0, none⟩), .agg #[.int .i64 3, .int .i64 b, .int .i64 0, .int .i64 0, .string ⟨#[]⟩, .string ⟨#[]⟩]] W fun e w' => e = .returned (.agg #[.int .i64 (getP re im b).2.2, .int .i64 (getP re im b).1, .int .i64 (getP re im b).2.1, .string ⟨#[]⟩]) ∧ Quiet W w') := fun W q => do_get_w w y u re im R I b 0 0 _ _ W q
  have hc := cells_any (w.alloc (.cells #[.int .i64 5, .int .i64 a, .int .i64 b, .int .i64 c, .string s, .string t] 28)) a b
  rcases cells_cases a b with ⟨ka, kb, rfl, rfl, hka, hkb, e0⟩ | e0
  · have e1 : Hid (subE re im ka kb = rangedP (re ka - re kb) (im ka - im kb) 67108864) := by show _ = _; simp [subE, e0, putE, rangedP]
    rw [e0] at hc
    rw [unhide e1]
    have r1 := I.r ka hka
    have r2 := I.m ka hka
    have r3 := I.r kb hkb
    have r4 := I.m kb hkb
    have wN : wrap64 (re ka - re kb) = re ka - re kb := by unfold wrap64; omega
    have wM : wrap64 (im ka - im kb) = im ka - im kb := by unfold wrap64; omega
    have hr := hide (fun W => ranged_p W (re ka - re kb) (im ka - im kb) 67108864 (by omega))
    rw [get_in re im ka hka] at gX
    rw [get_in re im kb hkb] at gY
    simp only at gX gY
    clear e1 e0 R I
    generalize re ka = XN at *
    generalize im ka = XM at *
    generalize re kb = YN at *
    generalize im kb = YM at *
    have q0H := hide q0
    have boH := hide bo
    clear q0 bo
    unfold ptr at *
    go_enter Try.func33, Try.ntmps33
    go_wp2_with fail
    refine hc.mono ?_
    rintro e w' ⟨rfl, rfl⟩
    go_wp2_with fail
    refine (unhide gX _ (unhide q0H)).mono ?_
    rintro e w1 ⟨rfl, q1⟩
    have q2 := hide (Quiet.trans (Quiet.trans (unhide q0H) q1) ((Chg.refl _ _).alloc (.cells #[.int .i64 0, .int .i64 XN, .int .i64 XM, .string ⟨#[]⟩] 35)))
    have bo1 := (q1.blk (unhide boH)).alloc (.cells #[.int .i64 0, .int .i64 XN, .int .i64 XM, .string ⟨#[]⟩] 35)
    have bx1 := Blk.new w1 35 [.int .i64 0, .int .i64 XN, .int .i64 XM, .string ⟨#[]⟩]
    have co := bo1.cell
    have stH := hide (And.intro bo1 bx1)
    clear q1 bo1 bx1 boH
    go_wp2_with fail
    refine (unhide gY _ (unhide q2)).mono ?_
    rintro e w3 ⟨rfl, q3⟩
    have q4 := hide (Quiet.trans (Quiet.trans (unhide q2) q3) ((Chg.refl _ _).alloc (.cells #[.int .i64 0, .int .i64 YN, .int .i64 YM, .string ⟨#[]⟩] 35)))
    have bo3 := (q3.blk (unhide stH).1).alloc (.cells #[.int .i64 0, .int .i64 YN, .int .i64 YM, .string ⟨#[]⟩] 35)
    have bx3 := (q3.blk (unhide stH).2).alloc (.cells #[.int .i64 0, .int .i64 YN, .int .i64 YM, .string ⟨#[]⟩] 35)
    have by3 := Blk.new w3 35 [.int .i64 0, .int .i64 YN, .int .i64 YM, .string ⟨#[]⟩]
    clear co
    have co := bo3.cell
    have cx := bx3.cell
    have cy := by3.cell
    clear q3 bo3 bx3 by3 stH q2 gX gY
    have rH := hide (And.intro (And.intro r1 r2) (And.intro r3 r4))
    clear r1 r2 r3 r4
    go_wp2_with fail
    refine (unhide hr _).mono ?_
    rintro e w5 ⟨rfl, hw5⟩
    subst hw5
    go_wp2
    go_ret
    exact ⟨rfl, unhide q4⟩
  · have e1 : Hid (subE re im a b = 1) := by show _ = _; simp [subE, e0]
    rw [e0] at hc
    rw [unhide e1]
    clear e1 e0 R I gX gY
    have q0H := hide q0
    have boH := hide bo
    clear q0 bo
    unfold ptr at *
    go_enter Try.func33, Try.ntmps33
    go_wp2_with fail
    refine hc.mono ?_
    rintro e w' ⟨rfl, rfl⟩
    go_wp2
    go_ret
    exact ⟨rfl, unhide q0H⟩

set_option maxRecDepth 100000 in
set_option maxHeartbeats 4000000 in
theorem owed_mul (w : World) (y u : Nat) (re im : Nat → Int) (R : Rep w y u re im) (I : Inv re im) (a b c : Int) (s t : ByteArray) :
    Calls Try.prog 33 #[ptr y, .agg #[.int .i64 6, .int .i64 a, .int .i64 b, .int .i64 c, .string s, .string t]] w fun e w' => e = .returned (.int .i64 (mulE re im a b)) ∧ Quiet w w' := by
  have q0 : Quiet w (w.alloc (.cells #[.int .i64 6, .int .i64 a, .int .i64 b, .int .i64 c, .string s, .string t] 28)) := (Chg.refl _ _).alloc _
  have bo := Blk.new w 28 [.int .i64 6, .int .i64 a, .int .i64 b, .int .i64 c, .string s, .string t]
  have co := bo.cell
  have gX : Hid (∀ W, Quiet w W → Calls Try.prog 15 #[.pointer (some ⟨y, 0, none⟩), .agg #[.int .i64 3, .int .i64 a, .int .i64 0, .int .i64 0, .string ⟨#[]⟩, .string ⟨#[]⟩]] W fun e w' => e = .returned (.agg #[.int .i64 (getP re im a).2.2, .int .i64 (getP re im a).1, .int .i64 (getP re im a).2.1, .string ⟨#[]⟩]) ∧ Quiet W w') := fun W q => do_get_w w y u re im R I a 0 0 _ _ W q
  have gY : Hid (∀ W, Quiet w W → Calls Try.prog 15 #[.pointer (some ⟨y, 0, none⟩), .agg #[.int .i64 3, .int .i64 b, .int .i64 0, .int .i64 0, .string ⟨#[]⟩, .string ⟨#[]⟩]] W fun e w' => e = .returned (.agg #[.int .i64 (getP re im b).2.2, .int .i64 (getP re im b).1, .int .i64 (getP re im b).2.1, .string ⟨#[]⟩]) ∧ Quiet W w') := fun W q => do_get_w w y u re im R I b 0 0 _ _ W q
  have hc := cells_any (w.alloc (.cells #[.int .i64 6, .int .i64 a, .int .i64 b, .int .i64 c, .string s, .string t] 28)) a b
  rcases cells_cases a b with ⟨ka, kb, rfl, rfl, hka, hkb, e0⟩ | e0
  · have e1 : Hid (mulE re im ka kb = rangedP (re ka * re kb - im ka * im kb) (re ka * im kb + im ka * re kb) 67108864) := by show _ = _; simp [mulE, e0, putE, rangedP]
    rw [e0] at hc
    rw [unhide e1]
    have r1 := I.r ka hka
    have r2 := I.m ka hka
    have r3 := I.r kb hkb
    have r4 := I.m kb hkb
    have hpr : Hid (∀ W, Quiet w W → Calls Try.prog 38 #[ptr y, .int .i64 ka, .int .i64 kb] W fun e w' => e = .returned (.tuple #[.int .i64 (re ka * re kb - im ka * im kb), .int .i64 (re ka * im kb + im ka * re kb)]) ∧ Quiet W w') := fun W q => by
      have := product_any W y u re im (R.quiet q) I ka kb
      unfold prodP at this
      rw [get_in re im ka hka, get_in re im kb hkb] at this
      exact this
    have hr := hide (fun W => ranged_p W (re ka * re kb - im ka * im kb) (re ka * im kb + im ka * re kb) 67108864 (by omega))
    generalize re ka * re kb - im ka * im kb = PN at *
    generalize re ka * im kb + im ka * re kb = PM at *
    rw [get_in re im ka hka] at gX
    rw [get_in re im kb hkb] at gY
    simp only at gX gY
    clear e1 e0 R I r1 r2 r3 r4
    generalize re ka = XN at *
    generalize im ka = XM at *
    generalize re kb = YN at *
    generalize im kb = YM at *
    have q0H := hide q0
    have boH := hide bo
    clear q0 bo
    unfold ptr at *
    go_enter Try.func33, Try.ntmps33
    go_wp2_with fail
    refine hc.mono ?_
    rintro e w' ⟨rfl, rfl⟩
    go_wp2_with fail
    refine (unhide gX _ (unhide q0H)).mono ?_
    rintro e w1 ⟨rfl, q1⟩
    have q2 := hide (Quiet.trans (Quiet.trans (unhide q0H) q1) ((Chg.refl _ _).alloc (.cells #[.int .i64 0, .int .i64 XN, .int .i64 XM, .string ⟨#[]⟩] 35)))
    have bo1 := (q1.blk (unhide boH)).alloc (.cells #[.int .i64 0, .int .i64 XN, .int .i64 XM, .string ⟨#[]⟩] 35)
    have bx1 := Blk.new w1 35 [.int .i64 0, .int .i64 XN, .int .i64 XM, .string ⟨#[]⟩]
    have co := bo1.cell
    have stH := hide (And.intro bo1 bx1)
    clear q1 bo1 bx1 boH
    go_wp2_with fail
    refine (unhide gY _ (unhide q2)).mono ?_
    rintro e w3 ⟨rfl, q3⟩
    have q4 := hide (Quiet.trans (Quiet.trans (unhide q2) q3) ((Chg.refl _ _).alloc (.cells #[.int .i64 0, .int .i64 YN, .int .i64 YM, .string ⟨#[]⟩] 35)))
    have bo3 := (q3.blk (unhide stH).1).alloc (.cells #[.int .i64 0, .int .i64 YN, .int .i64 YM, .string ⟨#[]⟩] 35)
    have bx3 := (q3.blk (unhide stH).2).alloc (.cells #[.int .i64 0, .int .i64 YN, .int .i64 YM, .string ⟨#[]⟩] 35)
    have by3 := Blk.new w3 35 [.int .i64 0, .int .i64 YN, .int .i64 YM, .string ⟨#[]⟩]
    clear co
    have co := bo3.cell
    have cx := bx3.cell
    have cy := by3.cell
    clear q3 bo3 bx3 by3 stH q2 gX gY
    go_wp2_with fail
    refine (unhide hpr _ (unhide q4)).mono ?_
    rintro e w5 ⟨rfl, q5⟩
    have q6 := hide (Quiet.trans (unhide q4) q5)
    clear q5 co cx cy
    go_wp2_with fail
    refine (unhide hr _).mono ?_
    rintro e w7 ⟨rfl, hw7⟩
    subst hw7
    go_wp2
    go_ret
    exact ⟨rfl, unhide q6⟩
  · have e1 : Hid (mulE re im a b = 1) := by show _ = _; simp [mulE, e0]
    rw [e0] at hc
    rw [unhide e1]
    clear e1 e0 R I gX gY
    have q0H := hide q0
    have boH := hide bo
    clear q0 bo
    unfold ptr at *
    go_enter Try.func33, Try.ntmps33
    go_wp2_with fail
    refine hc.mono ?_
    rintro e w' ⟨rfl, rfl⟩
    go_wp2
    go_ret
    exact ⟨rfl, unhide q0H⟩

set_option maxRecDepth 100000 in
set_option maxHeartbeats 4000000 in
theorem owed_mul32 (w : World) (y u : Nat) (re im : Nat → Int) (R : Rep w y u re im) (I : Inv re im) (a b c : Int) (s t : ByteArray) :
    Calls Try.prog 33 #[ptr y, .agg #[.int .i64 7, .int .i64 a, .int .i64 b, .int .i64 c, .string s, .string t]] w fun e w' => e = .returned (.int .i64 (mul32E re im a b)) ∧ Quiet w w' := by
  have q0 : Quiet w (w.alloc (.cells #[.int .i64 7, .int .i64 a, .int .i64 b, .int .i64 c, .string s, .string t] 28)) := (Chg.refl _ _).alloc _
  have bo := Blk.new w 28 [.int .i64 7, .int .i64 a, .int .i64 b, .int .i64 c, .string s, .string t]
  have co := bo.cell
  have gX : Hid (∀ W, Quiet w W → Calls Try.prog 15 #[.pointer (some ⟨y, 0, none⟩), .agg #[.int .i64 3, .int .i64 a, .int .i64 0, .int .i64 0, .string ⟨#[]⟩, .string ⟨#[]⟩]] W fun e w' => e = .returned (.agg #[.int .i64 (getP re im a).2.2, .int .i64 (getP re im a).1, .int .i64 (getP re im a).2.1, .string ⟨#[]⟩]) ∧ Quiet W w') := fun W q => do_get_w w y u re im R I a 0 0 _ _ W q
  have gY : Hid (∀ W, Quiet w W → Calls Try.prog 15 #[.pointer (some ⟨y, 0, none⟩), .agg #[.int .i64 3, .int .i64 b, .int .i64 0, .int .i64 0, .string ⟨#[]⟩, .string ⟨#[]⟩]] W fun e w' => e = .returned (.agg #[.int .i64 (getP re im b).2.2, .int .i64 (getP re im b).1, .int .i64 (getP re im b).2.1, .string ⟨#[]⟩]) ∧ Quiet W w') := fun W q => do_get_w w y u re im R I b 0 0 _ _ W q
  have hc := cells_any (w.alloc (.cells #[.int .i64 7, .int .i64 a, .int .i64 b, .int .i64 c, .string s, .string t] 28)) a b
  rcases cells_cases a b with ⟨ka, kb, rfl, rfl, hka, hkb, e0⟩ | e0
  · have hf1 := hide (fun W => fits_any W (re ka) (im ka) 2048 (by omega))
    have hf2 := hide (fun W => fits_any W (re kb) (im kb) 2048 (by omega))
    rw [e0] at hc
    by_cases g1 : inP (re ka) (im ka) 2048 = true
    · by_cases g2 : inP (re kb) (im kb) 2048 = true
      · have e1 : Hid (mul32E re im ka kb = rangedP (re ka * re kb - im ka * im kb) (re ka * im kb + im ka * re kb) 67108864) := by show _ = _; simp [mul32E, mulE, m32ok, e0, putE, g1, g2, rangedP]
        rw [unhide e1]
        simp only [g1] at hf1
        simp only [g2] at hf2
        have r1 := I.r ka hka
        have r2 := I.m ka hka
        have r3 := I.r kb hkb
        have r4 := I.m kb hkb
        have hpr : Hid (∀ W, Quiet w W → Calls Try.prog 38 #[ptr y, .int .i64 ka, .int .i64 kb] W fun e w' => e = .returned (.tuple #[.int .i64 (re ka * re kb - im ka * im kb), .int .i64 (re ka * im kb + im ka * re kb)]) ∧ Quiet W w') := fun W q => by
          have := product_any W y u re im (R.quiet q) I ka kb
          unfold prodP at this
          rw [get_in re im ka hka, get_in re im kb hkb] at this
          exact this
        have hr := hide (fun W => ranged_p W (re ka * re kb - im ka * im kb) (re ka * im kb + im ka * re kb) 67108864 (by omega))
        generalize re ka * re kb - im ka * im kb = PN at *
        generalize re ka * im kb + im ka * re kb = PM at *
        rw [get_in re im ka hka] at gX
        rw [get_in re im kb hkb] at gY
        simp only at gX gY
        clear e1 e0 R I r1 r2 r3 r4 g1 g2
        generalize re ka = XN at *
        generalize im ka = XM at *
        generalize re kb = YN at *
        generalize im kb = YM at *
        have q0H := hide q0
        have boH := hide bo
        clear q0 bo
        unfold ptr at *
        go_enter Try.func33, Try.ntmps33
        go_wp2_with fail
        refine hc.mono ?_
        rintro e w' ⟨rfl, rfl⟩
        go_wp2_with fail
        refine (unhide gX _ (unhide q0H)).mono ?_
        rintro e w1 ⟨rfl, q1⟩
        have q2 := hide (Quiet.trans (Quiet.trans (unhide q0H) q1) ((Chg.refl _ _).alloc (.cells #[.int .i64 0, .int .i64 XN, .int .i64 XM, .string ⟨#[]⟩] 35)))
        have bo1 := (q1.blk (unhide boH)).alloc (.cells #[.int .i64 0, .int .i64 XN, .int .i64 XM, .string ⟨#[]⟩] 35)
        have bx1 := Blk.new w1 35 [.int .i64 0, .int .i64 XN, .int .i64 XM, .string ⟨#[]⟩]
        have co := bo1.cell
        have stH := hide (And.intro bo1 bx1)
        clear q1 bo1 bx1 boH
        go_wp2_with fail
        refine (unhide gY _ (unhide q2)).mono ?_
        rintro e w3 ⟨rfl, q3⟩
        have q4 := hide (Quiet.trans (Quiet.trans (unhide q2) q3) ((Chg.refl _ _).alloc (.cells #[.int .i64 0, .int .i64 YN, .int .i64 YM, .string ⟨#[]⟩] 35)))
        have bo3 := (q3.blk (unhide stH).1).alloc (.cells #[.int .i64 0, .int .i64 YN, .int .i64 YM, .string ⟨#[]⟩] 35)
        have bx3 := (q3.blk (unhide stH).2).alloc (.cells #[.int .i64 0, .int .i64 YN, .int .i64 YM, .string ⟨#[]⟩] 35)
        have by3 := Blk.new w3 35 [.int .i64 0, .int .i64 YN, .int .i64 YM, .string ⟨#[]⟩]
        clear co
        have co := bo3.cell
        have cx := bx3.cell
        have cy := by3.cell
        clear q3 bo3 bx3 by3 stH q2 gX gY
        go_wp2_with fail
        refine (unhide hf1 _).mono ?_
        rintro e w5 ⟨rfl, hw5⟩
        subst hw5
        go_wp2_with fail
        refine (unhide hf2 _).mono ?_
        rintro e w5 ⟨rfl, hw5⟩
        subst hw5
        go_wp2_with fail
        refine (unhide hpr _ (unhide q4)).mono ?_
        rintro e w5 ⟨rfl, q5⟩
        have q6 := hide (Quiet.trans (unhide q4) q5)
        clear q5 co cx cy
        go_wp2_with fail
        refine (unhide hr _).mono ?_
        rintro e w7 ⟨rfl, hw7⟩
        subst hw7
        go_wp2
        go_ret
        exact ⟨rfl, unhide q6⟩
      · have g2' : inP (re kb) (im kb) 2048 = false := by simpa using g2
        have e1 : Hid (mul32E re im ka kb = 2) := by show _ = _; simp [mul32E, m32ok, e0, g1, g2']
        rw [unhide e1]
        simp only [g1] at hf1
        simp only [g2'] at hf2
        rw [get_in re im ka hka] at gX
        rw [get_in re im kb hkb] at gY
        simp only at gX gY
        clear e1 e0 R I g1 g2 g2'
        generalize re ka = XN at *
        generalize im ka = XM at *
        generalize re kb = YN at *
        generalize im kb = YM at *
        have q0H := hide q0
        have boH := hide bo
        clear q0 bo
        unfold ptr at *
        go_enter Try.func33, Try.ntmps33
        go_wp2_with fail
        refine hc.mono ?_
        rintro e w' ⟨rfl, rfl⟩
        go_wp2_with fail
        refine (unhide gX _ (unhide q0H)).mono ?_
        rintro e w1 ⟨rfl, q1⟩
        have q2 := hide (Quiet.trans (Quiet.trans (unhide q0H) q1) ((Chg.refl _ _).alloc (.cells #[.int .i64 0, .int .i64 XN, .int .i64 XM, .string ⟨#[]⟩] 35)))
        have bo1 := (q1.blk (unhide boH)).alloc (.cells #[.int .i64 0, .int .i64 XN, .int .i64 XM, .string ⟨#[]⟩] 35)
        have bx1 := Blk.new w1 35 [.int .i64 0, .int .i64 XN, .int .i64 XM, .string ⟨#[]⟩]
        have co := bo1.cell
        have stH := hide (And.intro bo1 bx1)
        clear q1 bo1 bx1 boH
        go_wp2_with fail
        refine (unhide gY _ (unhide q2)).mono ?_
        rintro e w3 ⟨rfl, q3⟩
        have q4 := hide (Quiet.trans (Quiet.trans (unhide q2) q3) ((Chg.refl _ _).alloc (.cells #[.int .i64 0, .int .i64 YN, .int .i64 YM, .string ⟨#[]⟩] 35)))
        have bo3 := (q3.blk (unhide stH).1).alloc (.cells #[.int .i64 0, .int .i64 YN, .int .i64 YM, .string ⟨#[]⟩] 35)
        have bx3 := (q3.blk (unhide stH).2).alloc (.cells #[.int .i64 0, .int .i64 YN, .int .i64 YM, .string ⟨#[]⟩] 35)
        have by3 := Blk.new w3 35 [.int .i64 0, .int .i64 YN, .int .i64 YM, .string ⟨#[]⟩]
        clear co
        have co := bo3.cell
        have cx := bx3.cell
        have cy := by3.cell
        clear q3 bo3 bx3 by3 stH q2 gX gY
        go_wp2_with fail
        refine (unhide hf1 _).mono ?_
        rintro e w5 ⟨rfl, hw5⟩
        subst hw5
        go_wp2_with fail
        refine (unhide hf2 _).mono ?_
        rintro e w5 ⟨rfl, hw5⟩
        subst hw5
        go_wp2
        go_ret
        exact ⟨rfl, unhide q4⟩
    · have g1' : inP (re ka) (im ka) 2048 = false := by simpa using g1
      have e1 : Hid (mul32E re im ka kb = 2) := by show _ = _; simp [mul32E, m32ok, e0, g1']
      rw [unhide e1]
      simp only [g1'] at hf1
      rw [get_in re im ka hka] at gX
      rw [get_in re im kb hkb] at gY
      simp only at gX gY
      clear e1 e0 R I g1 g1'
      generalize re ka = XN at *
      generalize im ka = XM at *
      generalize re kb = YN at *
      generalize im kb = YM at *
      have q0H := hide q0
      have boH := hide bo
      clear q0 bo
      unfold ptr at *
      go_enter Try.func33, Try.ntmps33
      go_wp2_with fail
      refine hc.mono ?_
      rintro e w' ⟨rfl, rfl⟩
      go_wp2_with fail
      refine (unhide gX _ (unhide q0H)).mono ?_
      rintro e w1 ⟨rfl, q1⟩
      have q2 := hide (Quiet.trans (Quiet.trans (unhide q0H) q1) ((Chg.refl _ _).alloc (.cells #[.int .i64 0, .int .i64 XN, .int .i64 XM, .string ⟨#[]⟩] 35)))
      have bo1 := (q1.blk (unhide boH)).alloc (.cells #[.int .i64 0, .int .i64 XN, .int .i64 XM, .string ⟨#[]⟩] 35)
      have bx1 := Blk.new w1 35 [.int .i64 0, .int .i64 XN, .int .i64 XM, .string ⟨#[]⟩]
      have co := bo1.cell
      have stH := hide (And.intro bo1 bx1)
      clear q1 bo1 bx1 boH
      go_wp2_with fail
      refine (unhide gY _ (unhide q2)).mono ?_
      rintro e w3 ⟨rfl, q3⟩
      have q4 := hide (Quiet.trans (Quiet.trans (unhide q2) q3) ((Chg.refl _ _).alloc (.cells #[.int .i64 0, .int .i64 YN, .int .i64 YM, .string ⟨#[]⟩] 35)))
      have bo3 := (q3.blk (unhide stH).1).alloc (.cells #[.int .i64 0, .int .i64 YN, .int .i64 YM, .string ⟨#[]⟩] 35)
      have bx3 := (q3.blk (unhide stH).2).alloc (.cells #[.int .i64 0, .int .i64 YN, .int .i64 YM, .string ⟨#[]⟩] 35)
      have by3 := Blk.new w3 35 [.int .i64 0, .int .i64 YN, .int .i64 YM, .string ⟨#[]⟩]
      clear co
      have co := bo3.cell
      have cx := bx3.cell
      have cy := by3.cell
      clear q3 bo3 bx3 by3 stH q2 gX gY
      go_wp2_with fail
      refine (unhide hf1 _).mono ?_
      rintro e w5 ⟨rfl, hw5⟩
      subst hw5
      go_wp2
      go_ret
      exact ⟨rfl, unhide q4⟩
  · have e1 : Hid (mul32E re im a b = 1) := by show _ = _; simp [mul32E, e0]
    rw [e0] at hc
    rw [unhide e1]
    clear e1 e0 R I gX gY
    have q0H := hide q0
    have boH := hide bo
    clear q0 bo
    unfold ptr at *
    go_enter Try.func33, Try.ntmps33
    go_wp2_with fail
    refine hc.mono ?_
    rintro e w' ⟨rfl, rfl⟩
    go_wp2
    go_ret
    exact ⟨rfl, unhide q0H⟩

set_option maxRecDepth 100000 in
set_option maxHeartbeats 4000000 in
theorem owed_get (w : World) (y u : Nat) (re im : Nat → Int) (R : Rep w y u re im) (I : Inv re im) (a b c : Int) (s t : ByteArray) :
    Calls Try.prog 33 #[ptr y, .agg #[.int .i64 3, .int .i64 a, .int .i64 b, .int .i64 c, .string s, .string t]] w fun e w' => e = .returned (.int .i64 ((getP re im a).2.2)) ∧ Quiet w w' := by
  have q0 : Quiet w (w.alloc (.cells #[.int .i64 3, .int .i64 a, .int .i64 b, .int .i64 c, .string s, .string t] 28)) := (Chg.refl _ _).alloc _
  have bo := Blk.new w 28 [.int .i64 3, .int .i64 a, .int .i64 b, .int .i64 c, .string s, .string t]
  have co := bo.cell
  have gX : Hid (∀ W, Quiet w W → Calls Try.prog 15 #[.pointer (some ⟨y, 0, none⟩), .agg #[.int .i64 3, .int .i64 a, .int .i64 0, .int .i64 0, .string ⟨#[]⟩, .string ⟨#[]⟩]] W fun e w' => e = .returned (.agg #[.int .i64 (getP re im a).2.2, .int .i64 (getP re im a).1, .int .i64 (getP re im a).2.1, .string ⟨#[]⟩]) ∧ Quiet W w') := fun W q => do_get_w w y u re im R I a 0 0 _ _ W q
  have gY : Hid (∀ W, Quiet w W → Calls Try.prog 15 #[.pointer (some ⟨y, 0, none⟩), .agg #[.int .i64 3, .int .i64 b, .int .i64 0, .int .i64 0, .string ⟨#[]⟩, .string ⟨#[]⟩]] W fun e w' => e = .returned (.agg #[.int .i64 (getP re im b).2.2, .int .i64 (getP re im b).1, .int .i64 (getP re im b).2.1, .string ⟨#[]⟩]) ∧ Quiet W w') := fun W q => do_get_w w y u re im R I b 0 0 _ _ W q
  have hc := cells_any (w.alloc (.cells #[.int .i64 3, .int .i64 a, .int .i64 b, .int .i64 c, .string s, .string t] 28)) a a
  rcases cells_cases a a with ⟨ka, kb, rfl, hkk, hka, _, e0⟩ | e0
  · clear hkk
    have e1 : Hid ((getP re im ka).2.2 = 0) := by show _ = _; simp [getP, e0]
    rw [e0] at hc
    rw [unhide e1]
    clear e1 e0 R I
    have q0H := hide q0
    have boH := hide bo
    clear q0 bo
    unfold ptr at *
    generalize (getP re im ↑ka).2.2 = XE at *
    generalize (getP re im ↑ka).1 = XN at *
    generalize (getP re im ↑ka).2.1 = XM at *
    generalize (getP re im b).2.2 = YE at *
    generalize (getP re im b).1 = YN at *
    generalize (getP re im b).2.1 = YM at *
    go_enter Try.func33, Try.ntmps33
    go_wp2_with fail
    refine hc.mono ?_
    rintro e w' ⟨rfl, rfl⟩
    go_wp2_with fail
    refine (unhide gX _ (unhide q0H)).mono ?_
    rintro e w1 ⟨rfl, q1⟩
    have q2 := hide (Quiet.trans (Quiet.trans (unhide q0H) q1) ((Chg.refl _ _).alloc (.cells #[.int .i64 XE, .int .i64 XN, .int .i64 XM, .string ⟨#[]⟩] 35)))
    have bo1 := (q1.blk (unhide boH)).alloc (.cells #[.int .i64 XE, .int .i64 XN, .int .i64 XM, .string ⟨#[]⟩] 35)
    have bx1 := Blk.new w1 35 [.int .i64 XE, .int .i64 XN, .int .i64 XM, .string ⟨#[]⟩]
    have co := bo1.cell
    have stH := hide (And.intro bo1 bx1)
    clear q1 bo1 bx1 boH
    go_wp2_with fail
    refine (unhide gY _ (unhide q2)).mono ?_
    rintro e w3 ⟨rfl, q3⟩
    have q4 := hide (Quiet.trans (Quiet.trans (unhide q2) q3) ((Chg.refl _ _).alloc (.cells #[.int .i64 YE, .int .i64 YN, .int .i64 YM, .string ⟨#[]⟩] 35)))
    have bo3 := (q3.blk (unhide stH).1).alloc (.cells #[.int .i64 YE, .int .i64 YN, .int .i64 YM, .string ⟨#[]⟩] 35)
    have bx3 := (q3.blk (unhide stH).2).alloc (.cells #[.int .i64 YE, .int .i64 YN, .int .i64 YM, .string ⟨#[]⟩] 35)
    have by3 := Blk.new w3 35 [.int .i64 YE, .int .i64 YN, .int .i64 YM, .string ⟨#[]⟩]
    clear co
    have co := bo3.cell
    have cx := bx3.cell
    have cy := by3.cell
    clear q3 bo3 bx3 by3 stH q2 gX gY
    go_wp2
    go_ret
    exact ⟨rfl, unhide q4⟩
  · have e1 : Hid ((getP re im a).2.2 = 1) := by show _ = _; simp [getP, e0]
    rw [e0] at hc
    rw [unhide e1]
    clear e1 e0 R I gX gY
    have q0H := hide q0
    have boH := hide bo
    clear q0 bo
    unfold ptr at *
    go_enter Try.func33, Try.ntmps33
    go_wp2_with fail
    refine hc.mono ?_
    rintro e w' ⟨rfl, rfl⟩
    go_wp2
    go_ret
    exact ⟨rfl, unhide q0H⟩

set_option maxRecDepth 100000 in
set_option maxHeartbeats 4000000 in
theorem owed_rot (w : World) (y u : Nat) (re im : Nat → Int) (R : Rep w y u re im) (I : Inv re im) (a b c : Int) (s t : ByteArray) :
    Calls Try.prog 33 #[ptr y, .agg #[.int .i64 8, .int .i64 a, .int .i64 b, .int .i64 c, .string s, .string t]] w fun e w' => e = .returned (.int .i64 (conjE a)) ∧ Quiet w w' := by
  have q0 : Quiet w (w.alloc (.cells #[.int .i64 8, .int .i64 a, .int .i64 b, .int .i64 c, .string s, .string t] 28)) := (Chg.refl _ _).alloc _
  have bo := Blk.new w 28 [.int .i64 8, .int .i64 a, .int .i64 b, .int .i64 c, .string s, .string t]
  have co := bo.cell
  have gX : Hid (∀ W, Quiet w W → Calls Try.prog 15 #[.pointer (some ⟨y, 0, none⟩), .agg #[.int .i64 3, .int .i64 a, .int .i64 0, .int .i64 0, .string ⟨#[]⟩, .string ⟨#[]⟩]] W fun e w' => e = .returned (.agg #[.int .i64 (getP re im a).2.2, .int .i64 (getP re im a).1, .int .i64 (getP re im a).2.1, .string ⟨#[]⟩]) ∧ Quiet W w') := fun W q => do_get_w w y u re im R I a 0 0 _ _ W q
  have gY : Hid (∀ W, Quiet w W → Calls Try.prog 15 #[.pointer (some ⟨y, 0, none⟩), .agg #[.int .i64 3, .int .i64 b, .int .i64 0, .int .i64 0, .string ⟨#[]⟩, .string ⟨#[]⟩]] W fun e w' => e = .returned (.agg #[.int .i64 (getP re im b).2.2, .int .i64 (getP re im b).1, .int .i64 (getP re im b).2.1, .string ⟨#[]⟩]) ∧ Quiet W w') := fun W q => do_get_w w y u re im R I b 0 0 _ _ W q
  have hc := cells_any (w.alloc (.cells #[.int .i64 8, .int .i64 a, .int .i64 b, .int .i64 c, .string s, .string t] 28)) a a
  rcases cells_cases a a with ⟨ka, kb, rfl, hkk, hka, _, e0⟩ | e0
  · clear hkk
    have e1 : Hid (conjE ka = 0) := by show _ = _; simp [conjE, e0]
    rw [e0] at hc
    rw [unhide e1]
    clear e1 e0 R I
    have q0H := hide q0
    have boH := hide bo
    clear q0 bo
    unfold ptr at *
    generalize (getP re im ↑ka).2.2 = XE at *
    generalize (getP re im ↑ka).1 = XN at *
    generalize (getP re im ↑ka).2.1 = XM at *
    generalize (getP re im b).2.2 = YE at *
    generalize (getP re im b).1 = YN at *
    generalize (getP re im b).2.1 = YM at *
    go_enter Try.func33, Try.ntmps33
    go_wp2_with fail
    refine hc.mono ?_
    rintro e w' ⟨rfl, rfl⟩
    go_wp2_with fail
    refine (unhide gX _ (unhide q0H)).mono ?_
    rintro e w1 ⟨rfl, q1⟩
    have q2 := hide (Quiet.trans (Quiet.trans (unhide q0H) q1) ((Chg.refl _ _).alloc (.cells #[.int .i64 XE, .int .i64 XN, .int .i64 XM, .string ⟨#[]⟩] 35)))
    have bo1 := (q1.blk (unhide boH)).alloc (.cells #[.int .i64 XE, .int .i64 XN, .int .i64 XM, .string ⟨#[]⟩] 35)
    have bx1 := Blk.new w1 35 [.int .i64 XE, .int .i64 XN, .int .i64 XM, .string ⟨#[]⟩]
    have co := bo1.cell
    have stH := hide (And.intro bo1 bx1)
    clear q1 bo1 bx1 boH
    go_wp2_with fail
    refine (unhide gY _ (unhide q2)).mono ?_
    rintro e w3 ⟨rfl, q3⟩
    have q4 := hide (Quiet.trans (Quiet.trans (unhide q2) q3) ((Chg.refl _ _).alloc (.cells #[.int .i64 YE, .int .i64 YN, .int .i64 YM, .string ⟨#[]⟩] 35)))
    have bo3 := (q3.blk (unhide stH).1).alloc (.cells #[.int .i64 YE, .int .i64 YN, .int .i64 YM, .string ⟨#[]⟩] 35)
    have bx3 := (q3.blk (unhide stH).2).alloc (.cells #[.int .i64 YE, .int .i64 YN, .int .i64 YM, .string ⟨#[]⟩] 35)
    have by3 := Blk.new w3 35 [.int .i64 YE, .int .i64 YN, .int .i64 YM, .string ⟨#[]⟩]
    clear co
    have co := bo3.cell
    have cx := bx3.cell
    have cy := by3.cell
    clear q3 bo3 bx3 by3 stH q2 gX gY
    go_wp2
    go_ret
    exact ⟨rfl, unhide q4⟩
  · have e1 : Hid (conjE a = 1) := by show _ = _; simp [conjE, e0]
    rw [e0] at hc
    rw [unhide e1]
    clear e1 e0 R I gX gY
    have q0H := hide q0
    have boH := hide bo
    clear q0 bo
    unfold ptr at *
    go_enter Try.func33, Try.ntmps33
    go_wp2_with fail
    refine hc.mono ?_
    rintro e w' ⟨rfl, rfl⟩
    go_wp2
    go_ret
    exact ⟨rfl, unhide q0H⟩

set_option maxRecDepth 100000 in
set_option maxHeartbeats 4000000 in
theorem owed_conj (w : World) (y u : Nat) (re im : Nat → Int) (R : Rep w y u re im) (I : Inv re im) (a b c : Int) (s t : ByteArray) :
    Calls Try.prog 33 #[ptr y, .agg #[.int .i64 9, .int .i64 a, .int .i64 b, .int .i64 c, .string s, .string t]] w fun e w' => e = .returned (.int .i64 (conjE a)) ∧ Quiet w w' := by
  have q0 : Quiet w (w.alloc (.cells #[.int .i64 9, .int .i64 a, .int .i64 b, .int .i64 c, .string s, .string t] 28)) := (Chg.refl _ _).alloc _
  have bo := Blk.new w 28 [.int .i64 9, .int .i64 a, .int .i64 b, .int .i64 c, .string s, .string t]
  have co := bo.cell
  have gX : Hid (∀ W, Quiet w W → Calls Try.prog 15 #[.pointer (some ⟨y, 0, none⟩), .agg #[.int .i64 3, .int .i64 a, .int .i64 0, .int .i64 0, .string ⟨#[]⟩, .string ⟨#[]⟩]] W fun e w' => e = .returned (.agg #[.int .i64 (getP re im a).2.2, .int .i64 (getP re im a).1, .int .i64 (getP re im a).2.1, .string ⟨#[]⟩]) ∧ Quiet W w') := fun W q => do_get_w w y u re im R I a 0 0 _ _ W q
  have gY : Hid (∀ W, Quiet w W → Calls Try.prog 15 #[.pointer (some ⟨y, 0, none⟩), .agg #[.int .i64 3, .int .i64 b, .int .i64 0, .int .i64 0, .string ⟨#[]⟩, .string ⟨#[]⟩]] W fun e w' => e = .returned (.agg #[.int .i64 (getP re im b).2.2, .int .i64 (getP re im b).1, .int .i64 (getP re im b).2.1, .string ⟨#[]⟩]) ∧ Quiet W w') := fun W q => do_get_w w y u re im R I b 0 0 _ _ W q
  have hc := cells_any (w.alloc (.cells #[.int .i64 9, .int .i64 a, .int .i64 b, .int .i64 c, .string s, .string t] 28)) a a
  rcases cells_cases a a with ⟨ka, kb, rfl, hkk, hka, _, e0⟩ | e0
  · clear hkk
    have e1 : Hid (conjE ka = 0) := by show _ = _; simp [conjE, e0]
    rw [e0] at hc
    rw [unhide e1]
    clear e1 e0 R I
    have q0H := hide q0
    have boH := hide bo
    clear q0 bo
    unfold ptr at *
    generalize (getP re im ↑ka).2.2 = XE at *
    generalize (getP re im ↑ka).1 = XN at *
    generalize (getP re im ↑ka).2.1 = XM at *
    generalize (getP re im b).2.2 = YE at *
    generalize (getP re im b).1 = YN at *
    generalize (getP re im b).2.1 = YM at *
    go_enter Try.func33, Try.ntmps33
    go_wp2_with fail
    refine hc.mono ?_
    rintro e w' ⟨rfl, rfl⟩
    go_wp2_with fail
    refine (unhide gX _ (unhide q0H)).mono ?_
    rintro e w1 ⟨rfl, q1⟩
    have q2 := hide (Quiet.trans (Quiet.trans (unhide q0H) q1) ((Chg.refl _ _).alloc (.cells #[.int .i64 XE, .int .i64 XN, .int .i64 XM, .string ⟨#[]⟩] 35)))
    have bo1 := (q1.blk (unhide boH)).alloc (.cells #[.int .i64 XE, .int .i64 XN, .int .i64 XM, .string ⟨#[]⟩] 35)
    have bx1 := Blk.new w1 35 [.int .i64 XE, .int .i64 XN, .int .i64 XM, .string ⟨#[]⟩]
    have co := bo1.cell
    have stH := hide (And.intro bo1 bx1)
    clear q1 bo1 bx1 boH
    go_wp2_with fail
    refine (unhide gY _ (unhide q2)).mono ?_
    rintro e w3 ⟨rfl, q3⟩
    have q4 := hide (Quiet.trans (Quiet.trans (unhide q2) q3) ((Chg.refl _ _).alloc (.cells #[.int .i64 YE, .int .i64 YN, .int .i64 YM, .string ⟨#[]⟩] 35)))
    have bo3 := (q3.blk (unhide stH).1).alloc (.cells #[.int .i64 YE, .int .i64 YN, .int .i64 YM, .string ⟨#[]⟩] 35)
    have bx3 := (q3.blk (unhide stH).2).alloc (.cells #[.int .i64 YE, .int .i64 YN, .int .i64 YM, .string ⟨#[]⟩] 35)
    have by3 := Blk.new w3 35 [.int .i64 YE, .int .i64 YN, .int .i64 YM, .string ⟨#[]⟩]
    clear co
    have co := bo3.cell
    have cx := bx3.cell
    have cy := by3.cell
    clear q3 bo3 bx3 by3 stH q2 gX gY
    go_wp2
    go_ret
    exact ⟨rfl, unhide q4⟩
  · have e1 : Hid (conjE a = 1) := by show _ = _; simp [conjE, e0]
    rw [e0] at hc
    rw [unhide e1]
    clear e1 e0 R I gX gY
    have q0H := hide q0
    have boH := hide bo
    clear q0 bo
    unfold ptr at *
    go_enter Try.func33, Try.ntmps33
    go_wp2_with fail
    refine hc.mono ?_
    rintro e w' ⟨rfl, rfl⟩
    go_wp2
    go_ret
    exact ⟨rfl, unhide q0H⟩

set_option maxRecDepth 100000 in
set_option maxHeartbeats 4000000 in
theorem owed_same (w : World) (y u : Nat) (re im : Nat → Int) (R : Rep w y u re im) (I : Inv re im) (a b c : Int) (s t : ByteArray) :
    Calls Try.prog 33 #[ptr y, .agg #[.int .i64 13, .int .i64 a, .int .i64 b, .int .i64 c, .string s, .string t]] w fun e w' => e = .returned (.int .i64 ((sameP re im a b).2)) ∧ Quiet w w' := by
  have q0 : Quiet w (w.alloc (.cells #[.int .i64 13, .int .i64 a, .int .i64 b, .int .i64 c, .string s, .string t] 28)) := (Chg.refl _ _).alloc _
  have bo := Blk.new w 28 [.int .i64 13, .int .i64 a, .int .i64 b, .int .i64 c, .string s, .string t]
  have co := bo.cell
  have gX : Hid (∀ W, Quiet w W → Calls Try.prog 15 #[.pointer (some ⟨y, 0, none⟩), .agg #[.int .i64 3, .int .i64 a, .int .i64 0, .int .i64 0, .string ⟨#[]⟩, .string ⟨#[]⟩]] W fun e w' => e = .returned (.agg #[.int .i64 (getP re im a).2.2, .int .i64 (getP re im a).1, .int .i64 (getP re im a).2.1, .string ⟨#[]⟩]) ∧ Quiet W w') := fun W q => do_get_w w y u re im R I a 0 0 _ _ W q
  have gY : Hid (∀ W, Quiet w W → Calls Try.prog 15 #[.pointer (some ⟨y, 0, none⟩), .agg #[.int .i64 3, .int .i64 b, .int .i64 0, .int .i64 0, .string ⟨#[]⟩, .string ⟨#[]⟩]] W fun e w' => e = .returned (.agg #[.int .i64 (getP re im b).2.2, .int .i64 (getP re im b).1, .int .i64 (getP re im b).2.1, .string ⟨#[]⟩]) ∧ Quiet W w') := fun W q => do_get_w w y u re im R I b 0 0 _ _ W q
  have hc := cells_any (w.alloc (.cells #[.int .i64 13, .int .i64 a, .int .i64 b, .int .i64 c, .string s, .string t] 28)) a b
  rcases cells_cases a b with ⟨ka, kb, rfl, rfl, hka, hkb, e0⟩ | e0
  · have e1 : Hid ((sameP re im ka kb).2 = 0) := by show _ = _; simp [sameP, e0]
    rw [e0] at hc
    rw [unhide e1]
    clear e1 e0 R I
    have q0H := hide q0
    have boH := hide bo
    clear q0 bo
    unfold ptr at *
    generalize (getP re im ↑ka).2.2 = XE at *
    generalize (getP re im ↑ka).1 = XN at *
    generalize (getP re im ↑ka).2.1 = XM at *
    generalize (getP re im ↑kb).2.2 = YE at *
    generalize (getP re im ↑kb).1 = YN at *
    generalize (getP re im ↑kb).2.1 = YM at *
    go_enter Try.func33, Try.ntmps33
    go_wp2_with fail
    refine hc.mono ?_
    rintro e w' ⟨rfl, rfl⟩
    go_wp2_with fail
    refine (unhide gX _ (unhide q0H)).mono ?_
    rintro e w1 ⟨rfl, q1⟩
    have q2 := hide (Quiet.trans (Quiet.trans (unhide q0H) q1) ((Chg.refl _ _).alloc (.cells #[.int .i64 XE, .int .i64 XN, .int .i64 XM, .string ⟨#[]⟩] 35)))
    have bo1 := (q1.blk (unhide boH)).alloc (.cells #[.int .i64 XE, .int .i64 XN, .int .i64 XM, .string ⟨#[]⟩] 35)
    have bx1 := Blk.new w1 35 [.int .i64 XE, .int .i64 XN, .int .i64 XM, .string ⟨#[]⟩]
    have co := bo1.cell
    have stH := hide (And.intro bo1 bx1)
    clear q1 bo1 bx1 boH
    go_wp2_with fail
    refine (unhide gY _ (unhide q2)).mono ?_
    rintro e w3 ⟨rfl, q3⟩
    have q4 := hide (Quiet.trans (Quiet.trans (unhide q2) q3) ((Chg.refl _ _).alloc (.cells #[.int .i64 YE, .int .i64 YN, .int .i64 YM, .string ⟨#[]⟩] 35)))
    have bo3 := (q3.blk (unhide stH).1).alloc (.cells #[.int .i64 YE, .int .i64 YN, .int .i64 YM, .string ⟨#[]⟩] 35)
    have bx3 := (q3.blk (unhide stH).2).alloc (.cells #[.int .i64 YE, .int .i64 YN, .int .i64 YM, .string ⟨#[]⟩] 35)
    have by3 := Blk.new w3 35 [.int .i64 YE, .int .i64 YN, .int .i64 YM, .string ⟨#[]⟩]
    clear co
    have co := bo3.cell
    have cx := bx3.cell
    have cy := by3.cell
    clear q3 bo3 bx3 by3 stH q2 gX gY
    go_wp2
    go_ret
    exact ⟨rfl, unhide q4⟩
  · have e1 : Hid ((sameP re im a b).2 = 1) := by show _ = _; simp [sameP, e0]
    rw [e0] at hc
    rw [unhide e1]
    clear e1 e0 R I gX gY
    have q0H := hide q0
    have boH := hide bo
    clear q0 bo
    unfold ptr at *
    go_enter Try.func33, Try.ntmps33
    go_wp2_with fail
    refine hc.mono ?_
    rintro e w' ⟨rfl, rfl⟩
    go_wp2
    go_ret
    exact ⟨rfl, unhide q0H⟩

set_option maxRecDepth 100000 in
set_option maxHeartbeats 4000000 in
theorem owed_eval (w : World) (y u : Nat) (re im : Nat → Int) (R : Rep w y u re im) (I : Inv re im) (a b c : Int) (s t : ByteArray) :
    Calls Try.prog 33 #[ptr y, .agg #[.int .i64 12, .int .i64 a, .int .i64 b, .int .i64 c, .string s, .string t]] w fun e w' => e = .returned (.int .i64 ((evalP re im a b).2.2)) ∧ Quiet w w' := by
  have q0 : Quiet w (w.alloc (.cells #[.int .i64 12, .int .i64 a, .int .i64 b, .int .i64 c, .string s, .string t] 28)) := (Chg.refl _ _).alloc _
  have bo := Blk.new w 28 [.int .i64 12, .int .i64 a, .int .i64 b, .int .i64 c, .string s, .string t]
  have co := bo.cell
  have gX : Hid (∀ W, Quiet w W → Calls Try.prog 15 #[.pointer (some ⟨y, 0, none⟩), .agg #[.int .i64 3, .int .i64 a, .int .i64 0, .int .i64 0, .string ⟨#[]⟩, .string ⟨#[]⟩]] W fun e w' => e = .returned (.agg #[.int .i64 (getP re im a).2.2, .int .i64 (getP re im a).1, .int .i64 (getP re im a).2.1, .string ⟨#[]⟩]) ∧ Quiet W w') := fun W q => do_get_w w y u re im R I a 0 0 _ _ W q
  have gY : Hid (∀ W, Quiet w W → Calls Try.prog 15 #[.pointer (some ⟨y, 0, none⟩), .agg #[.int .i64 3, .int .i64 b, .int .i64 0, .int .i64 0, .string ⟨#[]⟩, .string ⟨#[]⟩]] W fun e w' => e = .returned (.agg #[.int .i64 (getP re im b).2.2, .int .i64 (getP re im b).1, .int .i64 (getP re im b).2.1, .string ⟨#[]⟩]) ∧ Quiet W w') := fun W q => do_get_w w y u re im R I b 0 0 _ _ W q
  have e1 : Hid ((evalP re im a b).2.2 = rangedP a b 32) := by
    show _ = _
    unfold evalP rangedP
    split <;> rfl
  rw [unhide e1]
  have hr := hide (fun W => ranged_p W a b 32 (by omega))
  clear e1 R I
  have q0H := hide q0
  have boH := hide bo
  clear q0 bo
  unfold ptr at *
  generalize (getP re im a).2.2 = XE at *
  generalize (getP re im a).1 = XN at *
  generalize (getP re im a).2.1 = XM at *
  generalize (getP re im b).2.2 = YE at *
  generalize (getP re im b).1 = YN at *
  generalize (getP re im b).2.1 = YM at *
  go_enter Try.func33, Try.ntmps33
  go_wp2_with fail
  refine (unhide gX _ (unhide q0H)).mono ?_
  rintro e w1 ⟨rfl, q1⟩
  have q2 := hide (Quiet.trans (Quiet.trans (unhide q0H) q1) ((Chg.refl _ _).alloc (.cells #[.int .i64 XE, .int .i64 XN, .int .i64 XM, .string ⟨#[]⟩] 35)))
  have bo1 := (q1.blk (unhide boH)).alloc (.cells #[.int .i64 XE, .int .i64 XN, .int .i64 XM, .string ⟨#[]⟩] 35)
  have bx1 := Blk.new w1 35 [.int .i64 XE, .int .i64 XN, .int .i64 XM, .string ⟨#[]⟩]
  have co := bo1.cell
  have stH := hide (And.intro bo1 bx1)
  clear q1 bo1 bx1 boH
  go_wp2_with fail
  refine (unhide gY _ (unhide q2)).mono ?_
  rintro e w3 ⟨rfl, q3⟩
  have q4 := hide (Quiet.trans (Quiet.trans (unhide q2) q3) ((Chg.refl _ _).alloc (.cells #[.int .i64 YE, .int .i64 YN, .int .i64 YM, .string ⟨#[]⟩] 35)))
  have bo3 := (q3.blk (unhide stH).1).alloc (.cells #[.int .i64 YE, .int .i64 YN, .int .i64 YM, .string ⟨#[]⟩] 35)
  have bx3 := (q3.blk (unhide stH).2).alloc (.cells #[.int .i64 YE, .int .i64 YN, .int .i64 YM, .string ⟨#[]⟩] 35)
  have by3 := Blk.new w3 35 [.int .i64 YE, .int .i64 YN, .int .i64 YM, .string ⟨#[]⟩]
  clear co
  have co := bo3.cell
  have cx := bx3.cell
  have cy := by3.cell
  clear q3 bo3 bx3 by3 stH q2 gX gY
  go_wp2_with fail
  refine (unhide hr _).mono ?_
  rintro e w5 ⟨rfl, hw5⟩
  subst hw5
  go_wp2
  go_ret
  exact ⟨rfl, unhide q4⟩

set_option maxRecDepth 100000 in
set_option maxHeartbeats 4000000 in
theorem owed_new (w : World) (y u : Nat) (re im : Nat → Int) (R : Rep w y u re im) (I : Inv re im) (a b c : Int) (s t : ByteArray) :
    Calls Try.prog 33 #[ptr y, .agg #[.int .i64 1, .int .i64 a, .int .i64 b, .int .i64 c, .string s, .string t]] w fun e w' => e = .returned (.int .i64 (0)) ∧ Quiet w w' := by
  have q0 : Quiet w (w.alloc (.cells #[.int .i64 1, .int .i64 a, .int .i64 b, .int .i64 c, .string s, .string t] 28)) := (Chg.refl _ _).alloc _
  have bo := Blk.new w 28 [.int .i64 1, .int .i64 a, .int .i64 b, .int .i64 c, .string s, .string t]
  have co := bo.cell
  have gX : Hid (∀ W, Quiet w W → Calls Try.prog 15 #[.pointer (some ⟨y, 0, none⟩), .agg #[.int .i64 3, .int .i64 a, .int .i64 0, .int .i64 0, .string ⟨#[]⟩, .string ⟨#[]⟩]] W fun e w' => e = .returned (.agg #[.int .i64 (getP re im a).2.2, .int .i64 (getP re im a).1, .int .i64 (getP re im a).2.1, .string ⟨#[]⟩]) ∧ Quiet W w') := fun W q => do_get_w w y u re im R I a 0 0 _ _ W q
  have gY : Hid (∀ W, Quiet w W → Calls Try.prog 15 #[.pointer (some ⟨y, 0, none⟩), .agg #[.int .i64 3, .int .i64 b, .int .i64 0, .int .i64 0, .string ⟨#[]⟩, .string ⟨#[]⟩]] W fun e w' => e = .returned (.agg #[.int .i64 (getP re im b).2.2, .int .i64 (getP re im b).1, .int .i64 (getP re im b).2.1, .string ⟨#[]⟩]) ∧ Quiet W w') := fun W q => do_get_w w y u re im R I b 0 0 _ _ W q
  clear R I
  have q0H := hide q0
  have boH := hide bo
  clear q0 bo
  unfold ptr at *
  generalize (getP re im a).2.2 = XE at *
  generalize (getP re im a).1 = XN at *
  generalize (getP re im a).2.1 = XM at *
  generalize (getP re im b).2.2 = YE at *
  generalize (getP re im b).1 = YN at *
  generalize (getP re im b).2.1 = YM at *
  go_enter Try.func33, Try.ntmps33
  go_wp2_with fail
  refine (unhide gX _ (unhide q0H)).mono ?_
  rintro e w1 ⟨rfl, q1⟩
  have q2 := hide (Quiet.trans (Quiet.trans (unhide q0H) q1) ((Chg.refl _ _).alloc (.cells #[.int .i64 XE, .int .i64 XN, .int .i64 XM, .string ⟨#[]⟩] 35)))
  have bo1 := (q1.blk (unhide boH)).alloc (.cells #[.int .i64 XE, .int .i64 XN, .int .i64 XM, .string ⟨#[]⟩] 35)
  have bx1 := Blk.new w1 35 [.int .i64 XE, .int .i64 XN, .int .i64 XM, .string ⟨#[]⟩]
  have co := bo1.cell
  have stH := hide (And.intro bo1 bx1)
  clear q1 bo1 bx1 boH
  go_wp2_with fail
  refine (unhide gY _ (unhide q2)).mono ?_
  rintro e w3 ⟨rfl, q3⟩
  have q4 := hide (Quiet.trans (Quiet.trans (unhide q2) q3) ((Chg.refl _ _).alloc (.cells #[.int .i64 YE, .int .i64 YN, .int .i64 YM, .string ⟨#[]⟩] 35)))
  have bo3 := (q3.blk (unhide stH).1).alloc (.cells #[.int .i64 YE, .int .i64 YN, .int .i64 YM, .string ⟨#[]⟩] 35)
  have bx3 := (q3.blk (unhide stH).2).alloc (.cells #[.int .i64 YE, .int .i64 YN, .int .i64 YM, .string ⟨#[]⟩] 35)
  have by3 := Blk.new w3 35 [.int .i64 YE, .int .i64 YN, .int .i64 YM, .string ⟨#[]⟩]
  clear co
  have co := bo3.cell
  have cx := bx3.cell
  have cy := by3.cell
  clear q3 bo3 bx3 by3 stH q2 gX gY
  go_wp2
  go_ret
  exact ⟨rfl, unhide q4⟩

set_option maxRecDepth 100000 in
set_option maxHeartbeats 4000000 in
theorem owed_show (w : World) (y u : Nat) (re im : Nat → Int) (R : Rep w y u re im) (I : Inv re im) (a b c : Int) (s t : ByteArray) :
    Calls Try.prog 33 #[ptr y, .agg #[.int .i64 14, .int .i64 a, .int .i64 b, .int .i64 c, .string s, .string t]] w fun e w' => e = .returned (.int .i64 (0)) ∧ Quiet w w' := by
  have q0 : Quiet w (w.alloc (.cells #[.int .i64 14, .int .i64 a, .int .i64 b, .int .i64 c, .string s, .string t] 28)) := (Chg.refl _ _).alloc _
  have bo := Blk.new w 28 [.int .i64 14, .int .i64 a, .int .i64 b, .int .i64 c, .string s, .string t]
  have co := bo.cell
  have gX : Hid (∀ W, Quiet w W → Calls Try.prog 15 #[.pointer (some ⟨y, 0, none⟩), .agg #[.int .i64 3, .int .i64 a, .int .i64 0, .int .i64 0, .string ⟨#[]⟩, .string ⟨#[]⟩]] W fun e w' => e = .returned (.agg #[.int .i64 (getP re im a).2.2, .int .i64 (getP re im a).1, .int .i64 (getP re im a).2.1, .string ⟨#[]⟩]) ∧ Quiet W w') := fun W q => do_get_w w y u re im R I a 0 0 _ _ W q
  have gY : Hid (∀ W, Quiet w W → Calls Try.prog 15 #[.pointer (some ⟨y, 0, none⟩), .agg #[.int .i64 3, .int .i64 b, .int .i64 0, .int .i64 0, .string ⟨#[]⟩, .string ⟨#[]⟩]] W fun e w' => e = .returned (.agg #[.int .i64 (getP re im b).2.2, .int .i64 (getP re im b).1, .int .i64 (getP re im b).2.1, .string ⟨#[]⟩]) ∧ Quiet W w') := fun W q => do_get_w w y u re im R I b 0 0 _ _ W q
  clear R I
  have q0H := hide q0
  have boH := hide bo
  clear q0 bo
  unfold ptr at *
  generalize (getP re im a).2.2 = XE at *
  generalize (getP re im a).1 = XN at *
  generalize (getP re im a).2.1 = XM at *
  generalize (getP re im b).2.2 = YE at *
  generalize (getP re im b).1 = YN at *
  generalize (getP re im b).2.1 = YM at *
  go_enter Try.func33, Try.ntmps33
  go_wp2_with fail
  refine (unhide gX _ (unhide q0H)).mono ?_
  rintro e w1 ⟨rfl, q1⟩
  have q2 := hide (Quiet.trans (Quiet.trans (unhide q0H) q1) ((Chg.refl _ _).alloc (.cells #[.int .i64 XE, .int .i64 XN, .int .i64 XM, .string ⟨#[]⟩] 35)))
  have bo1 := (q1.blk (unhide boH)).alloc (.cells #[.int .i64 XE, .int .i64 XN, .int .i64 XM, .string ⟨#[]⟩] 35)
  have bx1 := Blk.new w1 35 [.int .i64 XE, .int .i64 XN, .int .i64 XM, .string ⟨#[]⟩]
  have co := bo1.cell
  have stH := hide (And.intro bo1 bx1)
  clear q1 bo1 bx1 boH
  go_wp2_with fail
  refine (unhide gY _ (unhide q2)).mono ?_
  rintro e w3 ⟨rfl, q3⟩
  have q4 := hide (Quiet.trans (Quiet.trans (unhide q2) q3) ((Chg.refl _ _).alloc (.cells #[.int .i64 YE, .int .i64 YN, .int .i64 YM, .string ⟨#[]⟩] 35)))
  have bo3 := (q3.blk (unhide stH).1).alloc (.cells #[.int .i64 YE, .int .i64 YN, .int .i64 YM, .string ⟨#[]⟩] 35)
  have bx3 := (q3.blk (unhide stH).2).alloc (.cells #[.int .i64 YE, .int .i64 YN, .int .i64 YM, .string ⟨#[]⟩] 35)
  have by3 := Blk.new w3 35 [.int .i64 YE, .int .i64 YN, .int .i64 YM, .string ⟨#[]⟩]
  clear co
  have co := bo3.cell
  have cx := bx3.cell
  have cy := by3.cell
  clear q3 bo3 bx3 by3 stH q2 gX gY
  go_wp2
  go_ret
  exact ⟨rfl, unhide q4⟩

set_option maxRecDepth 100000 in
set_option maxHeartbeats 4000000 in
theorem owed_check (w : World) (y u : Nat) (re im : Nat → Int) (R : Rep w y u re im) (I : Inv re im) (a b c : Int) (s t : ByteArray) :
    Calls Try.prog 33 #[ptr y, .agg #[.int .i64 15, .int .i64 a, .int .i64 b, .int .i64 c, .string s, .string t]] w fun e w' => e = .returned (.int .i64 (0)) ∧ Quiet w w' := by
  have q0 : Quiet w (w.alloc (.cells #[.int .i64 15, .int .i64 a, .int .i64 b, .int .i64 c, .string s, .string t] 28)) := (Chg.refl _ _).alloc _
  have bo := Blk.new w 28 [.int .i64 15, .int .i64 a, .int .i64 b, .int .i64 c, .string s, .string t]
  have co := bo.cell
  have gX : Hid (∀ W, Quiet w W → Calls Try.prog 15 #[.pointer (some ⟨y, 0, none⟩), .agg #[.int .i64 3, .int .i64 a, .int .i64 0, .int .i64 0, .string ⟨#[]⟩, .string ⟨#[]⟩]] W fun e w' => e = .returned (.agg #[.int .i64 (getP re im a).2.2, .int .i64 (getP re im a).1, .int .i64 (getP re im a).2.1, .string ⟨#[]⟩]) ∧ Quiet W w') := fun W q => do_get_w w y u re im R I a 0 0 _ _ W q
  have gY : Hid (∀ W, Quiet w W → Calls Try.prog 15 #[.pointer (some ⟨y, 0, none⟩), .agg #[.int .i64 3, .int .i64 b, .int .i64 0, .int .i64 0, .string ⟨#[]⟩, .string ⟨#[]⟩]] W fun e w' => e = .returned (.agg #[.int .i64 (getP re im b).2.2, .int .i64 (getP re im b).1, .int .i64 (getP re im b).2.1, .string ⟨#[]⟩]) ∧ Quiet W w') := fun W q => do_get_w w y u re im R I b 0 0 _ _ W q
  clear R I
  have q0H := hide q0
  have boH := hide bo
  clear q0 bo
  unfold ptr at *
  generalize (getP re im a).2.2 = XE at *
  generalize (getP re im a).1 = XN at *
  generalize (getP re im a).2.1 = XM at *
  generalize (getP re im b).2.2 = YE at *
  generalize (getP re im b).1 = YN at *
  generalize (getP re im b).2.1 = YM at *
  go_enter Try.func33, Try.ntmps33
  go_wp2_with fail
  refine (unhide gX _ (unhide q0H)).mono ?_
  rintro e w1 ⟨rfl, q1⟩
  have q2 := hide (Quiet.trans (Quiet.trans (unhide q0H) q1) ((Chg.refl _ _).alloc (.cells #[.int .i64 XE, .int .i64 XN, .int .i64 XM, .string ⟨#[]⟩] 35)))
  have bo1 := (q1.blk (unhide boH)).alloc (.cells #[.int .i64 XE, .int .i64 XN, .int .i64 XM, .string ⟨#[]⟩] 35)
  have bx1 := Blk.new w1 35 [.int .i64 XE, .int .i64 XN, .int .i64 XM, .string ⟨#[]⟩]
  have co := bo1.cell
  have stH := hide (And.intro bo1 bx1)
  clear q1 bo1 bx1 boH
  go_wp2_with fail
  refine (unhide gY _ (unhide q2)).mono ?_
  rintro e w3 ⟨rfl, q3⟩
  have q4 := hide (Quiet.trans (Quiet.trans (unhide q2) q3) ((Chg.refl _ _).alloc (.cells #[.int .i64 YE, .int .i64 YN, .int .i64 YM, .string ⟨#[]⟩] 35)))
  have bo3 := (q3.blk (unhide stH).1).alloc (.cells #[.int .i64 YE, .int .i64 YN, .int .i64 YM, .string ⟨#[]⟩] 35)
  have bx3 := (q3.blk (unhide stH).2).alloc (.cells #[.int .i64 YE, .int .i64 YN, .int .i64 YM, .string ⟨#[]⟩] 35)
  have by3 := Blk.new w3 35 [.int .i64 YE, .int .i64 YN, .int .i64 YM, .string ⟨#[]⟩]
  clear co
  have co := bo3.cell
  have cx := bx3.cell
  have cy := by3.cell
  clear q3 bo3 bx3 by3 stH q2 gX gY
  go_wp2
  go_ret
  exact ⟨rfl, unhide q4⟩

set_option maxRecDepth 100000 in
set_option maxHeartbeats 4000000 in
theorem owed_none (w : World) (y u : Nat) (re im : Nat → Int) (R : Rep w y u re im) (I : Inv re im) (k : Int) (a b c : Int) (s t : ByteArray) (h2 : (k == 2) = false) (h3 : (k == 3) = false) (h4 : (k == 4) = false) (h5 : (k == 5) = false) (h6 : (k == 6) = false) (h7 : (k == 7) = false) (h8 : (k == 8) = false) (h9 : (k == 9) = false) (h10 : (k == 10) = false) (h11 : (k == 11) = false) (h12 : (k == 12) = false) (h13 : (k == 13) = false) :
    Calls Try.prog 33 #[ptr y, .agg #[.int .i64 k, .int .i64 a, .int .i64 b, .int .i64 c, .string s, .string t]] w fun e w' => e = .returned (.int .i64 (0)) ∧ Quiet w w' := by
  have q0 : Quiet w (w.alloc (.cells #[.int .i64 k, .int .i64 a, .int .i64 b, .int .i64 c, .string s, .string t] 28)) := (Chg.refl _ _).alloc _
  have bo := Blk.new w 28 [.int .i64 k, .int .i64 a, .int .i64 b, .int .i64 c, .string s, .string t]
  have co := bo.cell
  have gX : Hid (∀ W, Quiet w W → Calls Try.prog 15 #[.pointer (some ⟨y, 0, none⟩), .agg #[.int .i64 3, .int .i64 a, .int .i64 0, .int .i64 0, .string ⟨#[]⟩, .string ⟨#[]⟩]] W fun e w' => e = .returned (.agg #[.int .i64 (getP re im a).2.2, .int .i64 (getP re im a).1, .int .i64 (getP re im a).2.1, .string ⟨#[]⟩]) ∧ Quiet W w') := fun W q => do_get_w w y u re im R I a 0 0 _ _ W q
  have gY : Hid (∀ W, Quiet w W → Calls Try.prog 15 #[.pointer (some ⟨y, 0, none⟩), .agg #[.int .i64 3, .int .i64 b, .int .i64 0, .int .i64 0, .string ⟨#[]⟩, .string ⟨#[]⟩]] W fun e w' => e = .returned (.agg #[.int .i64 (getP re im b).2.2, .int .i64 (getP re im b).1, .int .i64 (getP re im b).2.1, .string ⟨#[]⟩]) ∧ Quiet W w') := fun W q => do_get_w w y u re im R I b 0 0 _ _ W q
  clear R I
  have q0H := hide q0
  have boH := hide bo
  clear q0 bo
  unfold ptr at *
  generalize (getP re im a).2.2 = XE at *
  generalize (getP re im a).1 = XN at *
  generalize (getP re im a).2.1 = XM at *
  generalize (getP re im b).2.2 = YE at *
  generalize (getP re im b).1 = YN at *
  generalize (getP re im b).2.1 = YM at *
  go_enter Try.func33, Try.ntmps33
  go_wp2_with fail
  refine (unhide gX _ (unhide q0H)).mono ?_
  rintro e w1 ⟨rfl, q1⟩
  have q2 := hide (Quiet.trans (Quiet.trans (unhide q0H) q1) ((Chg.refl _ _).alloc (.cells #[.int .i64 XE, .int .i64 XN, .int .i64 XM, .string ⟨#[]⟩] 35)))
  have bo1 := (q1.blk (unhide boH)).alloc (.cells #[.int .i64 XE, .int .i64 XN, .int .i64 XM, .string ⟨#[]⟩] 35)
  have bx1 := Blk.new w1 35 [.int .i64 XE, .int .i64 XN, .int .i64 XM, .string ⟨#[]⟩]
  have co := bo1.cell
  have stH := hide (And.intro bo1 bx1)
  clear q1 bo1 bx1 boH
  go_wp2_with fail
  refine (unhide gY _ (unhide q2)).mono ?_
  rintro e w3 ⟨rfl, q3⟩
  have q4 := hide (Quiet.trans (Quiet.trans (unhide q2) q3) ((Chg.refl _ _).alloc (.cells #[.int .i64 YE, .int .i64 YN, .int .i64 YM, .string ⟨#[]⟩] 35)))
  have bo3 := (q3.blk (unhide stH).1).alloc (.cells #[.int .i64 YE, .int .i64 YN, .int .i64 YM, .string ⟨#[]⟩] 35)
  have bx3 := (q3.blk (unhide stH).2).alloc (.cells #[.int .i64 YE, .int .i64 YN, .int .i64 YM, .string ⟨#[]⟩] 35)
  have by3 := Blk.new w3 35 [.int .i64 YE, .int .i64 YN, .int .i64 YM, .string ⟨#[]⟩]
  clear co
  have co := bo3.cell
  have cx := bx3.cell
  have cy := by3.cell
  clear q3 bo3 bx3 by3 stH q2 gX gY
  go_wp2
  go_ret
  exact ⟨rfl, unhide q4⟩

set_option maxRecDepth 100000 in
set_option maxHeartbeats 4000000 in
theorem owed_dft (w : World) (y u : Nat) (re im : Nat → Int) (R : Rep w y u re im) (I : Inv re im) (a b c : Int) (s t : ByteArray) :
    Calls Try.prog 33 #[ptr y, .agg #[.int .i64 11, .int .i64 a, .int .i64 b, .int .i64 c, .string s, .string t]] w fun e w' => e = .returned (.int .i64 (dftE re im a)) ∧ Quiet w w' := by
  have q0 : Quiet w (w.alloc (.cells #[.int .i64 11, .int .i64 a, .int .i64 b, .int .i64 c, .string s, .string t] 28)) := (Chg.refl _ _).alloc _
  have bo := Blk.new w 28 [.int .i64 11, .int .i64 a, .int .i64 b, .int .i64 c, .string s, .string t]
  have co := bo.cell
  have gX : Hid (∀ W, Quiet w W → Calls Try.prog 15 #[.pointer (some ⟨y, 0, none⟩), .agg #[.int .i64 3, .int .i64 a, .int .i64 0, .int .i64 0, .string ⟨#[]⟩, .string ⟨#[]⟩]] W fun e w' => e = .returned (.agg #[.int .i64 (getP re im a).2.2, .int .i64 (getP re im a).1, .int .i64 (getP re im a).2.1, .string ⟨#[]⟩]) ∧ Quiet W w') := fun W q => do_get_w w y u re im R I a 0 0 _ _ W q
  have gY : Hid (∀ W, Quiet w W → Calls Try.prog 15 #[.pointer (some ⟨y, 0, none⟩), .agg #[.int .i64 3, .int .i64 b, .int .i64 0, .int .i64 0, .string ⟨#[]⟩, .string ⟨#[]⟩]] W fun e w' => e = .returned (.agg #[.int .i64 (getP re im b).2.2, .int .i64 (getP re im b).1, .int .i64 (getP re im b).2.1, .string ⟨#[]⟩]) ∧ Quiet W w') := fun W q => do_get_w w y u re im R I b 0 0 _ _ W q
  by_cases hd : a < 0 ∨ 1 < a
  · have e1 : Hid (dftE re im a = 5) := by show _ = _; simp [dftE, hd]
    rw [unhide e1]
    clear e1 R I
    by_cases h0 : a < 0
    · clear hd
      have q0H := hide q0
      have boH := hide bo
      clear q0 bo
      unfold ptr at *
      generalize (getP re im a).2.2 = XE at *
      generalize (getP re im a).1 = XN at *
      generalize (getP re im a).2.1 = XM at *
      generalize (getP re im b).2.2 = YE at *
      generalize (getP re im b).1 = YN at *
      generalize (getP re im b).2.1 = YM at *
      go_enter Try.func33, Try.ntmps33
      go_wp2_with fail
      refine (unhide gX _ (unhide q0H)).mono ?_
      rintro e w1 ⟨rfl, q1⟩
      have q2 := hide (Quiet.trans (Quiet.trans (unhide q0H) q1) ((Chg.refl _ _).alloc (.cells #[.int .i64 XE, .int .i64 XN, .int .i64 XM, .string ⟨#[]⟩] 35)))
      have bo1 := (q1.blk (unhide boH)).alloc (.cells #[.int .i64 XE, .int .i64 XN, .int .i64 XM, .string ⟨#[]⟩] 35)
      have bx1 := Blk.new w1 35 [.int .i64 XE, .int .i64 XN, .int .i64 XM, .string ⟨#[]⟩]
      have co := bo1.cell
      have stH := hide (And.intro bo1 bx1)
      clear q1 bo1 bx1 boH
      go_wp2_with fail
      refine (unhide gY _ (unhide q2)).mono ?_
      rintro e w3 ⟨rfl, q3⟩
      have q4 := hide (Quiet.trans (Quiet.trans (unhide q2) q3) ((Chg.refl _ _).alloc (.cells #[.int .i64 YE, .int .i64 YN, .int .i64 YM, .string ⟨#[]⟩] 35)))
      have bo3 := (q3.blk (unhide stH).1).alloc (.cells #[.int .i64 YE, .int .i64 YN, .int .i64 YM, .string ⟨#[]⟩] 35)
      have bx3 := (q3.blk (unhide stH).2).alloc (.cells #[.int .i64 YE, .int .i64 YN, .int .i64 YM, .string ⟨#[]⟩] 35)
      have by3 := Blk.new w3 35 [.int .i64 YE, .int .i64 YN, .int .i64 YM, .string ⟨#[]⟩]
      clear co
      have co := bo3.cell
      have cx := bx3.cell
      have cy := by3.cell
      clear q3 bo3 bx3 by3 stH q2 gX gY
      go_wp2
      go_ret
      exact ⟨rfl, unhide q4⟩
    · have h1 : 1 < a := by omega
      clear hd
      have q0H := hide q0
      have boH := hide bo
      clear q0 bo
      unfold ptr at *
      generalize (getP re im a).2.2 = XE at *
      generalize (getP re im a).1 = XN at *
      generalize (getP re im a).2.1 = XM at *
      generalize (getP re im b).2.2 = YE at *
      generalize (getP re im b).1 = YN at *
      generalize (getP re im b).2.1 = YM at *
      go_enter Try.func33, Try.ntmps33
      go_wp2_with fail
      refine (unhide gX _ (unhide q0H)).mono ?_
      rintro e w1 ⟨rfl, q1⟩
      have q2 := hide (Quiet.trans (Quiet.trans (unhide q0H) q1) ((Chg.refl _ _).alloc (.cells #[.int .i64 XE, .int .i64 XN, .int .i64 XM, .string ⟨#[]⟩] 35)))
      have bo1 := (q1.blk (unhide boH)).alloc (.cells #[.int .i64 XE, .int .i64 XN, .int .i64 XM, .string ⟨#[]⟩] 35)
      have bx1 := Blk.new w1 35 [.int .i64 XE, .int .i64 XN, .int .i64 XM, .string ⟨#[]⟩]
      have co := bo1.cell
      have stH := hide (And.intro bo1 bx1)
      clear q1 bo1 bx1 boH
      go_wp2_with fail
      refine (unhide gY _ (unhide q2)).mono ?_
      rintro e w3 ⟨rfl, q3⟩
      have q4 := hide (Quiet.trans (Quiet.trans (unhide q2) q3) ((Chg.refl _ _).alloc (.cells #[.int .i64 YE, .int .i64 YN, .int .i64 YM, .string ⟨#[]⟩] 35)))
      have bo3 := (q3.blk (unhide stH).1).alloc (.cells #[.int .i64 YE, .int .i64 YN, .int .i64 YM, .string ⟨#[]⟩] 35)
      have bx3 := (q3.blk (unhide stH).2).alloc (.cells #[.int .i64 YE, .int .i64 YN, .int .i64 YM, .string ⟨#[]⟩] 35)
      have by3 := Blk.new w3 35 [.int .i64 YE, .int .i64 YN, .int .i64 YM, .string ⟨#[]⟩]
      clear co
      have co := bo3.cell
      have cx := bx3.cell
      have cy := by3.cell
      clear q3 bo3 bx3 by3 stH q2 gX gY
      go_wp2
      go_ret
      exact ⟨rfl, unhide q4⟩
  · have h0 : ¬ a < 0 := by omega
    have h1 : ¬ 1 < a := by omega
    have hod : Hid (∀ W, Quiet w W → Calls Try.prog 53 #[ptr y, .int .i64 a] W fun e w' => e = .returned (.int .i64 (dftE re im a)) ∧ Quiet W w') := fun W q => owedDft_any W y u re im (R.quiet q) I a (by omega)
    generalize dftE re im a = D at *
    clear hd R I
    have q0H := hide q0
    have boH := hide bo
    clear q0 bo
    unfold ptr at *
    generalize (getP re im a).2.2 = XE at *
    generalize (getP re im a).1 = XN at *
    generalize (getP re im a).2.1 = XM at *
    generalize (getP re im b).2.2 = YE at *
    generalize (getP re im b).1 = YN at *
    generalize (getP re im b).2.1 = YM at *
    go_enter Try.func33, Try.ntmps33
    go_wp2_with fail
    refine (unhide gX _ (unhide q0H)).mono ?_
    rintro e w1 ⟨rfl, q1⟩
    have q2 := hide (Quiet.trans (Quiet.trans (unhide q0H) q1) ((Chg.refl _ _).alloc (.cells #[.int .i64 XE, .int .i64 XN, .int .i64 XM, .string ⟨#[]⟩] 35)))
    have bo1 := (q1.blk (unhide boH)).alloc (.cells #[.int .i64 XE, .int .i64 XN, .int .i64 XM, .string ⟨#[]⟩] 35)
    have bx1 := Blk.new w1 35 [.int .i64 XE, .int .i64 XN, .int .i64 XM, .string ⟨#[]⟩]
    have co := bo1.cell
    have stH := hide (And.intro bo1 bx1)
    clear q1 bo1 bx1 boH
    go_wp2_with fail
    refine (unhide gY _ (unhide q2)).mono ?_
    rintro e w3 ⟨rfl, q3⟩
    have q4 := hide (Quiet.trans (Quiet.trans (unhide q2) q3) ((Chg.refl _ _).alloc (.cells #[.int .i64 YE, .int .i64 YN, .int .i64 YM, .string ⟨#[]⟩] 35)))
    have bo3 := (q3.blk (unhide stH).1).alloc (.cells #[.int .i64 YE, .int .i64 YN, .int .i64 YM, .string ⟨#[]⟩] 35)
    have bx3 := (q3.blk (unhide stH).2).alloc (.cells #[.int .i64 YE, .int .i64 YN, .int .i64 YM, .string ⟨#[]⟩] 35)
    have by3 := Blk.new w3 35 [.int .i64 YE, .int .i64 YN, .int .i64 YM, .string ⟨#[]⟩]
    clear co
    have co := bo3.cell
    have cx := bx3.cell
    have cy := by3.cell
    clear q3 bo3 bx3 by3 stH q2 gX gY
    go_wp2_with fail
    refine (unhide hod _ (unhide q4)).mono ?_
    rintro e w5 ⟨rfl, q5⟩
    go_wp2
    go_ret
    exact ⟨rfl, Quiet.trans (unhide q4) q5⟩
end Go.Proofs.Qxb6500362a
