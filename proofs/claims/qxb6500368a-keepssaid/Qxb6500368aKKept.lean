/-
  KEEPS: Kept, kind by kind, over whatever its callees answer. (gen8kkept.py)
-/
import Derived.Test.Qxb6500368aKText
import Derived.ChangeKeysEq
namespace Go.Proofs.Qxb6500368a
open Go.RowKit Go.Qx
set_option linter.unusedVariables false
set_option linter.unusedSimpArgs false

theorem cells9 : Try.prog.cellsOf 9 = 1 := by kernel_rfl
theorem und9 : Try.prog.underlying 9 = some .string := by kernel_rfl
theorem plain9 : Try.prog.plainKey 9 = true := by kernel_rfl
theorem eq27 (w : World) (a b c : ByteArray) : (Op.equalIn 9999 27 (.agg #[.string a, .string b, .string c]) (.agg #[.string a, .string b, .string c])).run Try.prog w = .ok true w := by
  obtain ⟨i, hi⟩ : ∃ i, Try.prog.info? 9 = some i := ⟨_, rfl⟩
  rw [show (9999 : Nat) = 9998 + 1 from rfl, run_equalIn_array (P := Try.prog) (w := w) 9998 (t := 27) (e := 9) (n := 3) _ _ (by kernel_rfl) hi, cells9]
  have h : ∀ X : ByteArray, (Op.equalIn 9998 9 (.string X) (.string X)).run Try.prog w = .ok true w := fun X => by
    rw [show (9998 : Nat) = 9997 + 1 from rfl, run_equalIn_string w 9997 9 X X und9]; simp
  have p : ∀ (xs : Array Value) (j : Nat) (v : Value), xs[j]? = some v → (part 9 xs j).run Try.prog w = .ok v w := fun xs j v hv => run_part_plain (P := Try.prog) w plain9 hv
  rw [show List.range 3 = [0, 1, 2] from rfl]
  simp only [Op.eqItems, Sem.run_bind, Nat.zero_mul, Nat.one_mul, Nat.reduceMul, p _ _ _ (show (#[Value.string a, Value.string b, Value.string c])[0]? = some (.string a) from rfl), p _ _ _ (show (#[Value.string a, Value.string b, Value.string c])[1]? = some (.string b) from rfl), p _ _ _ (show (#[Value.string a, Value.string b, Value.string c])[2]? = some (.string c) from rfl), h, Result.andThen_ok, Bool.not_true, Bool.false_eq_true, if_false]
  rfl

/-- From w on, whatever was made in between, the call answers v and makes new blocks alone. -/
def QC (w : World) (f : Nat) (args : Array Value) (v : Value) : Prop := ∀ W, Quiet w W → Calls Try.prog f args W fun e w' => e = .returned v ∧ Quiet W w'

theorem kept_w0 (w : World) (g h o a : List Value) (W : World) (hW : ((((w.alloc (.cells g.toArray 29)).alloc (.cells h.toArray 29)).alloc (.cells o.toArray 31)).alloc (.cells a.toArray 34)) = W) :
    Quiet w W ∧ Blk W w.heap.size 29 g ∧ Blk W (w.heap.size + 1) 29 h ∧ Blk W (w.heap.size + 2) 31 o ∧ Blk W (w.heap.size + 3) 34 a ∧ W.heap.size = w.heap.size + 4 := by
  subst hW
  exact ⟨((((Chg.refl _ _).alloc _).alloc _).alloc _).alloc _, (((Blk.new w 29 g).alloc _).alloc _).alloc _, ((Blk.alloc (Blk.at_new (by simp)) _)).alloc _, Blk.alloc (Blk.at_new (by simp)) _, Blk.at_new (by simp), by simp⟩

set_option maxRecDepth 100000 in
set_option maxHeartbeats 8000000 in
theorem kept_err (w : World) (R : Nat → ByteArray) (wk : Nat) (k a b c E : Int) (hE : ¬ E = 0) (s t : ByteArray) (hOw : Hid (QC w 25 #[.agg #[.string (R 0), .string (R 1), .string (R 2), .int .i64 (wk : Int)], .agg #[.int .i64 k, .int .i64 a, .int .i64 b, .int .i64 c, .string s, .string t]] (.tuple #[.int .i64 E, .int .i64 (wk : Int)]))) :
    Calls Try.prog 12 #[.agg #[.string (R 0), .string (R 1), .string (R 2), .int .i64 (wk : Int)], .agg #[.string (R 0), .string (R 1), .string (R 2), .int .i64 (wk : Int)], .agg #[.int .i64 k, .int .i64 a, .int .i64 b, .int .i64 c, .string s, .string t], .agg #[.int .i64 E, .int .i64 0, .int .i64 0, .string ⟨#[]⟩]] w fun e w' => e = .returned (.bool true) ∧ Quiet w w' := by
  have hE2 : (E == 0) = false := by simpa using hE
  obtain ⟨W0, hW0⟩ : ∃ W0, ((((w.alloc (.cells #[.string (R 0), .string (R 1), .string (R 2), .int .i64 (wk : Int)] 29)).alloc (.cells #[.string (R 0), .string (R 1), .string (R 2), .int .i64 (wk : Int)] 29)).alloc (.cells #[.int .i64 k, .int .i64 a, .int .i64 b, .int .i64 c, .string s, .string t] 31)).alloc (.cells #[.int .i64 E, .int .i64 0, .int .i64 0, .string ⟨#[]⟩] 34)) = W0 := ⟨_, rfl⟩
  obtain ⟨Q0, GB, HB, OB, AB, hsz⟩ := kept_w0 w [.string (R 0), .string (R 1), .string (R 2), .int .i64 (wk : Int)] [.string (R 0), .string (R 1), .string (R 2), .int .i64 (wk : Int)] [.int .i64 k, .int .i64 a, .int .i64 b, .int .i64 c, .string s, .string t] [.int .i64 E, .int .i64 0, .int .i64 0, .string ⟨#[]⟩] W0 hW0
  have QH := hide Q0
  have GBH := hide GB
  have HBH := hide HB
  have OBH := hide OB
  have ABH := hide AB
  have hszH := hide hsz
  clear Q0 GB HB OB AB hsz
  have hX : ∀ X : ByteArray, (X.toList == X.toList) = true := fun X => by simp
  have hEq := eq27
  have gB := Quiet.blk (w := W0) (w' := W0) (Quiet.refl W0) (unhide GBH)
  have hB := Quiet.blk (w := W0) (w' := W0) (Quiet.refl W0) (unhide HBH)
  have oB := Quiet.blk (w := W0) (w' := W0) (Quiet.refl W0) (unhide OBH)
  have aB := Quiet.blk (w := W0) (w' := W0) (Quiet.refl W0) (unhide ABH)
  have g0 := gB.cell 0
  have g1 := gB.cell 1
  have g2 := gB.cell 2
  have g3 := gB.cell 3
  have h0 := hB.cell 0
  have h1 := hB.cell 1
  have h2 := hB.cell 2
  have h3 := hB.cell 3
  have o0 := oB.cell 0
  have o1 := oB.cell 1
  have o2 := oB.cell 2
  have o3 := oB.cell 3
  have o4 := oB.cell 4
  have o5 := oB.cell 5
  have a0 := aB.cell 0
  have a1 := aB.cell 1
  have a2 := aB.cell 2
  have a3 := aB.cell 3
  simp at g0 g1 g2 g3 h0 h1 h2 h3 o0 o1 o2 o3 o4 o5 a0 a1 a2 a3
  clear gB hB oB aB
  unfold QC at *
  go_enter Try.func12, Try.ntmps12
  go_wp2_with fail
  refine (unhide hOw W0 (unhide QH)).mono ?_
  clear hOw
  rintro e w1 ⟨rfl, q1⟩
  have q1H := hide q1
  clear q1
  clear g0 g1 g2 g3 h0 h1 h2 h3 o0 o1 o2 o3 o4 o5 a0 a1 a2 a3
  have gB := Quiet.blk (w := W0) (w' := w1) (unhide q1H) (unhide GBH)
  have hB := Quiet.blk (w := W0) (w' := w1) (unhide q1H) (unhide HBH)
  have oB := Quiet.blk (w := W0) (w' := w1) (unhide q1H) (unhide OBH)
  have aB := Quiet.blk (w := W0) (w' := w1) (unhide q1H) (unhide ABH)
  have g0 := gB.cell 0
  have g1 := gB.cell 1
  have g2 := gB.cell 2
  have g3 := gB.cell 3
  have h0 := hB.cell 0
  have h1 := hB.cell 1
  have h2 := hB.cell 2
  have h3 := hB.cell 3
  have o0 := oB.cell 0
  have o1 := oB.cell 1
  have o2 := oB.cell 2
  have o3 := oB.cell 3
  have o4 := oB.cell 4
  have o5 := oB.cell 5
  have a0 := aB.cell 0
  have a1 := aB.cell 1
  have a2 := aB.cell 2
  have a3 := aB.cell 3
  simp at g0 g1 g2 g3 h0 h1 h2 h3 o0 o1 o2 o3 o4 o5 a0 a1 a2 a3
  clear gB hB oB aB
  go_wp2
  go_ret
  exact ⟨rfl, Quiet.trans (unhide QH) (unhide q1H)⟩

set_option maxRecDepth 100000 in
set_option maxHeartbeats 8000000 in
theorem kept_none (w : World) (R : Nat → ByteArray) (wk : Nat) (k a b c : Int) (hk1 : (k == 1) = false) (hk2 : (k == 2) = false) (hk3 : (k == 3) = false) (hk4 : (k == 4) = false) (hk5 : (k == 5) = false) (hk6 : (k == 6) = false) (hk7 : (k == 7) = false) (hk8 : (k == 8) = false) (s t : ByteArray) (hOw : Hid (QC w 25 #[.agg #[.string (R 0), .string (R 1), .string (R 2), .int .i64 (wk : Int)], .agg #[.int .i64 k, .int .i64 a, .int .i64 b, .int .i64 c, .string s, .string t]] (.tuple #[.int .i64 0, .int .i64 (wk : Int)]))) :
    Calls Try.prog 12 #[.agg #[.string (R 0), .string (R 1), .string (R 2), .int .i64 (wk : Int)], .agg #[.string (R 0), .string (R 1), .string (R 2), .int .i64 (wk : Int)], .agg #[.int .i64 k, .int .i64 a, .int .i64 b, .int .i64 c, .string s, .string t], .agg #[.int .i64 0, .int .i64 0, .int .i64 0, .string ⟨#[]⟩]] w fun e w' => e = .returned (.bool true) ∧ Quiet w w' := by
  obtain ⟨W0, hW0⟩ : ∃ W0, ((((w.alloc (.cells #[.string (R 0), .string (R 1), .string (R 2), .int .i64 (wk : Int)] 29)).alloc (.cells #[.string (R 0), .string (R 1), .string (R 2), .int .i64 (wk : Int)] 29)).alloc (.cells #[.int .i64 k, .int .i64 a, .int .i64 b, .int .i64 c, .string s, .string t] 31)).alloc (.cells #[.int .i64 0, .int .i64 0, .int .i64 0, .string ⟨#[]⟩] 34)) = W0 := ⟨_, rfl⟩
  obtain ⟨Q0, GB, HB, OB, AB, hsz⟩ := kept_w0 w [.string (R 0), .string (R 1), .string (R 2), .int .i64 (wk : Int)] [.string (R 0), .string (R 1), .string (R 2), .int .i64 (wk : Int)] [.int .i64 k, .int .i64 a, .int .i64 b, .int .i64 c, .string s, .string t] [.int .i64 0, .int .i64 0, .int .i64 0, .string ⟨#[]⟩] W0 hW0
  have QH := hide Q0
  have GBH := hide GB
  have HBH := hide HB
  have OBH := hide OB
  have ABH := hide AB
  have hszH := hide hsz
  clear Q0 GB HB OB AB hsz
  have hX : ∀ X : ByteArray, (X.toList == X.toList) = true := fun X => by simp
  have hEq := eq27
  have gB := Quiet.blk (w := W0) (w' := W0) (Quiet.refl W0) (unhide GBH)
  have hB := Quiet.blk (w := W0) (w' := W0) (Quiet.refl W0) (unhide HBH)
  have oB := Quiet.blk (w := W0) (w' := W0) (Quiet.refl W0) (unhide OBH)
  have aB := Quiet.blk (w := W0) (w' := W0) (Quiet.refl W0) (unhide ABH)
  have g0 := gB.cell 0
  have g1 := gB.cell 1
  have g2 := gB.cell 2
  have g3 := gB.cell 3
  have h0 := hB.cell 0
  have h1 := hB.cell 1
  have h2 := hB.cell 2
  have h3 := hB.cell 3
  have o0 := oB.cell 0
  have o1 := oB.cell 1
  have o2 := oB.cell 2
  have o3 := oB.cell 3
  have o4 := oB.cell 4
  have o5 := oB.cell 5
  have a0 := aB.cell 0
  have a1 := aB.cell 1
  have a2 := aB.cell 2
  have a3 := aB.cell 3
  simp at g0 g1 g2 g3 h0 h1 h2 h3 o0 o1 o2 o3 o4 o5 a0 a1 a2 a3
  clear gB hB oB aB
  unfold QC at *
  go_enter Try.func12, Try.ntmps12
  go_wp2_with fail
  refine (unhide hOw W0 (unhide QH)).mono ?_
  clear hOw
  rintro e w1 ⟨rfl, q1⟩
  have q1H := hide q1
  clear q1
  clear g0 g1 g2 g3 h0 h1 h2 h3 o0 o1 o2 o3 o4 o5 a0 a1 a2 a3
  have gB := Quiet.blk (w := W0) (w' := w1) (unhide q1H) (unhide GBH)
  have hB := Quiet.blk (w := W0) (w' := w1) (unhide q1H) (unhide HBH)
  have oB := Quiet.blk (w := W0) (w' := w1) (unhide q1H) (unhide OBH)
  have aB := Quiet.blk (w := W0) (w' := w1) (unhide q1H) (unhide ABH)
  have g0 := gB.cell 0
  have g1 := gB.cell 1
  have g2 := gB.cell 2
  have g3 := gB.cell 3
  have h0 := hB.cell 0
  have h1 := hB.cell 1
  have h2 := hB.cell 2
  have h3 := hB.cell 3
  have o0 := oB.cell 0
  have o1 := oB.cell 1
  have o2 := oB.cell 2
  have o3 := oB.cell 3
  have o4 := oB.cell 4
  have o5 := oB.cell 5
  have a0 := aB.cell 0
  have a1 := aB.cell 1
  have a2 := aB.cell 2
  have a3 := aB.cell 3
  simp at g0 g1 g2 g3 h0 h1 h2 h3 o0 o1 o2 o3 o4 o5 a0 a1 a2 a3
  clear gB hB oB aB
  obtain ⟨W2, hW2⟩ : ∃ W, ((w1.alloc (.cells #[.string (R 0), .string (R 1), .string (R 2), .int .i64 (wk : Int)] 29)).setCell ⟨w1.heap.size, 3, none⟩ (.int .i64 (wk : Int))) = W := ⟨_, rfl⟩
  have q2H : Hid (Quiet W0 W2) := by rw [← hW2]; exact Chg.setCell (Chg.alloc (unhide q1H) (.cells #[.string (R 0), .string (R 1), .string (R 2), .int .i64 (wk : Int)] 29)) (p := ⟨w1.heap.size, 3, none⟩) (.inr ((unhide q1H).size)) _
  have NB : Hid (Blk W2 w1.heap.size 29 [.string (R 0), .string (R 1), .string (R 2), .int .i64 (wk : Int)]) := by rw [← hW2]; exact (Blk.new w1 29 [.string (R 0), .string (R 1), .string (R 2), .int .i64 (wk : Int)]).set 3 (.int .i64 (wk : Int))
  have gB := Quiet.blk (w := W0) (w' := W2) (unhide q2H) (unhide GBH)
  have hB := Quiet.blk (w := W0) (w' := W2) (unhide q2H) (unhide HBH)
  have oB := Quiet.blk (w := W0) (w' := W2) (unhide q2H) (unhide OBH)
  have aB := Quiet.blk (w := W0) (w' := W2) (unhide q2H) (unhide ABH)
  have g0z := gB.cell 0
  have g1z := gB.cell 1
  have g2z := gB.cell 2
  have g3z := gB.cell 3
  have h0z := hB.cell 0
  have h1z := hB.cell 1
  have h2z := hB.cell 2
  have h3z := hB.cell 3
  have o0z := oB.cell 0
  have o1z := oB.cell 1
  have o2z := oB.cell 2
  have o3z := oB.cell 3
  have o4z := oB.cell 4
  have o5z := oB.cell 5
  have a0z := aB.cell 0
  have a1z := aB.cell 1
  have a2z := aB.cell 2
  have a3z := aB.cell 3
  simp at g0z g1z g2z g3z h0z h1z h2z h3z o0z o1z o2z o3z o4z o5z a0z a1z a2z a3z
  clear gB hB oB aB
  have nz0 := (unhide NB).cell 0
  have nz1 := (unhide NB).cell 1
  have nz2 := (unhide NB).cell 2
  have nz3 := (unhide NB).cell 3
  simp at nz0 nz1 nz2 nz3
  have fN := (unhide NB).frozen
  have cs0 := (Blk.new w1 29 [.string (R 0), .string (R 1), .string (R 2), .int .i64 (wk : Int)]).cell 3
  simp at cs0
  have q3H : Hid (Quiet W0 (W2.alloc (.cells #[.int .i64 0, .int .i64 0, .int .i64 0, .string ⟨#[]⟩] 34))) := Chg.alloc (unhide q2H) _
  have MB : Hid (Blk (W2.alloc (.cells #[.int .i64 0, .int .i64 0, .int .i64 0, .string ⟨#[]⟩] 34)) W2.heap.size 34 [.int .i64 0, .int .i64 0, .int .i64 0, .string ⟨#[]⟩]) := Blk.new W2 34 [.int .i64 0, .int .i64 0, .int .i64 0, .string ⟨#[]⟩]
  have NB3 : Hid (Blk (W2.alloc (.cells #[.int .i64 0, .int .i64 0, .int .i64 0, .string ⟨#[]⟩] 34)) w1.heap.size 29 [.string (R 0), .string (R 1), .string (R 2), .int .i64 (wk : Int)]) := (unhide NB).alloc _
  have gB := Quiet.blk (w := W0) (w' := (W2.alloc (.cells #[.int .i64 0, .int .i64 0, .int .i64 0, .string ⟨#[]⟩] 34))) (unhide q3H) (unhide GBH)
  have hB := Quiet.blk (w := W0) (w' := (W2.alloc (.cells #[.int .i64 0, .int .i64 0, .int .i64 0, .string ⟨#[]⟩] 34))) (unhide q3H) (unhide HBH)
  have oB := Quiet.blk (w := W0) (w' := (W2.alloc (.cells #[.int .i64 0, .int .i64 0, .int .i64 0, .string ⟨#[]⟩] 34))) (unhide q3H) (unhide OBH)
  have aB := Quiet.blk (w := W0) (w' := (W2.alloc (.cells #[.int .i64 0, .int .i64 0, .int .i64 0, .string ⟨#[]⟩] 34))) (unhide q3H) (unhide ABH)
  have g0x := gB.cell 0
  have g1x := gB.cell 1
  have g2x := gB.cell 2
  have g3x := gB.cell 3
  have h0x := hB.cell 0
  have h1x := hB.cell 1
  have h2x := hB.cell 2
  have h3x := hB.cell 3
  have o0x := oB.cell 0
  have o1x := oB.cell 1
  have o2x := oB.cell 2
  have o3x := oB.cell 3
  have o4x := oB.cell 4
  have o5x := oB.cell 5
  have a0x := aB.cell 0
  have a1x := aB.cell 1
  have a2x := aB.cell 2
  have a3x := aB.cell 3
  simp at g0x g1x g2x g3x h0x h1x h2x h3x o0x o1x o2x o3x o4x o5x a0x a1x a2x a3x
  clear gB hB oB aB
  have nx0 := (unhide NB3).cell 0
  have nx1 := (unhide NB3).cell 1
  have nx2 := (unhide NB3).cell 2
  have nx3 := (unhide NB3).cell 3
  simp at nx0 nx1 nx2 nx3
  have mx0 := (unhide MB).cell 0
  have mx1 := (unhide MB).cell 1
  have mx2 := (unhide MB).cell 2
  have mx3 := (unhide MB).cell 3
  simp at mx0 mx1 mx2 mx3
  go_wp2
  go_ret
  exact ⟨rfl, Quiet.trans (unhide QH) (unhide q3H)⟩

set_option maxRecDepth 100000 in
set_option maxHeartbeats 8000000 in
theorem kept_spent (w : World) (R : Nat → ByteArray) (wk : Nat) (a b c : Int) (s t : ByteArray) (hOw : Hid (QC w 25 #[.agg #[.string (R 0), .string (R 1), .string (R 2), .int .i64 (wk : Int)], .agg #[.int .i64 6, .int .i64 a, .int .i64 b, .int .i64 c, .string s, .string t]] (.tuple #[.int .i64 0, .int .i64 (wk : Int)]))) :
    Calls Try.prog 12 #[.agg #[.string (R 0), .string (R 1), .string (R 2), .int .i64 (wk : Int)], .agg #[.string (R 0), .string (R 1), .string (R 2), .int .i64 (wk : Int)], .agg #[.int .i64 6, .int .i64 a, .int .i64 b, .int .i64 c, .string s, .string t], .agg #[.int .i64 0, .int .i64 (wk : Int), .int .i64 0, .string ⟨#[]⟩]] w fun e w' => e = .returned (.bool true) ∧ Quiet w w' := by
  obtain ⟨W0, hW0⟩ : ∃ W0, ((((w.alloc (.cells #[.string (R 0), .string (R 1), .string (R 2), .int .i64 (wk : Int)] 29)).alloc (.cells #[.string (R 0), .string (R 1), .string (R 2), .int .i64 (wk : Int)] 29)).alloc (.cells #[.int .i64 6, .int .i64 a, .int .i64 b, .int .i64 c, .string s, .string t] 31)).alloc (.cells #[.int .i64 0, .int .i64 (wk : Int), .int .i64 0, .string ⟨#[]⟩] 34)) = W0 := ⟨_, rfl⟩
  obtain ⟨Q0, GB, HB, OB, AB, hsz⟩ := kept_w0 w [.string (R 0), .string (R 1), .string (R 2), .int .i64 (wk : Int)] [.string (R 0), .string (R 1), .string (R 2), .int .i64 (wk : Int)] [.int .i64 6, .int .i64 a, .int .i64 b, .int .i64 c, .string s, .string t] [.int .i64 0, .int .i64 (wk : Int), .int .i64 0, .string ⟨#[]⟩] W0 hW0
  have QH := hide Q0
  have GBH := hide GB
  have HBH := hide HB
  have OBH := hide OB
  have ABH := hide AB
  have hszH := hide hsz
  clear Q0 GB HB OB AB hsz
  have hX : ∀ X : ByteArray, (X.toList == X.toList) = true := fun X => by simp
  have hEq := eq27
  have gB := Quiet.blk (w := W0) (w' := W0) (Quiet.refl W0) (unhide GBH)
  have hB := Quiet.blk (w := W0) (w' := W0) (Quiet.refl W0) (unhide HBH)
  have oB := Quiet.blk (w := W0) (w' := W0) (Quiet.refl W0) (unhide OBH)
  have aB := Quiet.blk (w := W0) (w' := W0) (Quiet.refl W0) (unhide ABH)
  have g0 := gB.cell 0
  have g1 := gB.cell 1
  have g2 := gB.cell 2
  have g3 := gB.cell 3
  have h0 := hB.cell 0
  have h1 := hB.cell 1
  have h2 := hB.cell 2
  have h3 := hB.cell 3
  have o0 := oB.cell 0
  have o1 := oB.cell 1
  have o2 := oB.cell 2
  have o3 := oB.cell 3
  have o4 := oB.cell 4
  have o5 := oB.cell 5
  have a0 := aB.cell 0
  have a1 := aB.cell 1
  have a2 := aB.cell 2
  have a3 := aB.cell 3
  simp at g0 g1 g2 g3 h0 h1 h2 h3 o0 o1 o2 o3 o4 o5 a0 a1 a2 a3
  clear gB hB oB aB
  unfold QC at *
  go_enter Try.func12, Try.ntmps12
  go_wp2_with fail
  refine (unhide hOw W0 (unhide QH)).mono ?_
  clear hOw
  rintro e w1 ⟨rfl, q1⟩
  have q1H := hide q1
  clear q1
  clear g0 g1 g2 g3 h0 h1 h2 h3 o0 o1 o2 o3 o4 o5 a0 a1 a2 a3
  have gB := Quiet.blk (w := W0) (w' := w1) (unhide q1H) (unhide GBH)
  have hB := Quiet.blk (w := W0) (w' := w1) (unhide q1H) (unhide HBH)
  have oB := Quiet.blk (w := W0) (w' := w1) (unhide q1H) (unhide OBH)
  have aB := Quiet.blk (w := W0) (w' := w1) (unhide q1H) (unhide ABH)
  have g0 := gB.cell 0
  have g1 := gB.cell 1
  have g2 := gB.cell 2
  have g3 := gB.cell 3
  have h0 := hB.cell 0
  have h1 := hB.cell 1
  have h2 := hB.cell 2
  have h3 := hB.cell 3
  have o0 := oB.cell 0
  have o1 := oB.cell 1
  have o2 := oB.cell 2
  have o3 := oB.cell 3
  have o4 := oB.cell 4
  have o5 := oB.cell 5
  have a0 := aB.cell 0
  have a1 := aB.cell 1
  have a2 := aB.cell 2
  have a3 := aB.cell 3
  simp at g0 g1 g2 g3 h0 h1 h2 h3 o0 o1 o2 o3 o4 o5 a0 a1 a2 a3
  clear gB hB oB aB
  obtain ⟨W2, hW2⟩ : ∃ W, ((w1.alloc (.cells #[.string (R 0), .string (R 1), .string (R 2), .int .i64 (wk : Int)] 29)).setCell ⟨w1.heap.size, 3, none⟩ (.int .i64 (wk : Int))) = W := ⟨_, rfl⟩
  have q2H : Hid (Quiet W0 W2) := by rw [← hW2]; exact Chg.setCell (Chg.alloc (unhide q1H) (.cells #[.string (R 0), .string (R 1), .string (R 2), .int .i64 (wk : Int)] 29)) (p := ⟨w1.heap.size, 3, none⟩) (.inr ((unhide q1H).size)) _
  have NB : Hid (Blk W2 w1.heap.size 29 [.string (R 0), .string (R 1), .string (R 2), .int .i64 (wk : Int)]) := by rw [← hW2]; exact (Blk.new w1 29 [.string (R 0), .string (R 1), .string (R 2), .int .i64 (wk : Int)]).set 3 (.int .i64 (wk : Int))
  have gB := Quiet.blk (w := W0) (w' := W2) (unhide q2H) (unhide GBH)
  have hB := Quiet.blk (w := W0) (w' := W2) (unhide q2H) (unhide HBH)
  have oB := Quiet.blk (w := W0) (w' := W2) (unhide q2H) (unhide OBH)
  have aB := Quiet.blk (w := W0) (w' := W2) (unhide q2H) (unhide ABH)
  have g0z := gB.cell 0
  have g1z := gB.cell 1
  have g2z := gB.cell 2
  have g3z := gB.cell 3
  have h0z := hB.cell 0
  have h1z := hB.cell 1
  have h2z := hB.cell 2
  have h3z := hB.cell 3
  have o0z := oB.cell 0
  have o1z := oB.cell 1
  have o2z := oB.cell 2
  have o3z := oB.cell 3
  have o4z := oB.cell 4
  have o5z := oB.cell 5
  have a0z := aB.cell 0
  have a1z := aB.cell 1
  have a2z := aB.cell 2
  have a3z := aB.cell 3
  simp at g0z g1z g2z g3z h0z h1z h2z h3z o0z o1z o2z o3z o4z o5z a0z a1z a2z a3z
  clear gB hB oB aB
  have nz0 := (unhide NB).cell 0
  have nz1 := (unhide NB).cell 1
  have nz2 := (unhide NB).cell 2
  have nz3 := (unhide NB).cell 3
  simp at nz0 nz1 nz2 nz3
  have fN := (unhide NB).frozen
  have cs0 := (Blk.new w1 29 [.string (R 0), .string (R 1), .string (R 2), .int .i64 (wk : Int)]).cell 3
  simp at cs0
  have q3H : Hid (Quiet W0 (W2.alloc (.cells #[.int .i64 0, .int .i64 (wk : Int), .int .i64 0, .string ⟨#[]⟩] 34))) := Chg.alloc (unhide q2H) _
  have MB : Hid (Blk (W2.alloc (.cells #[.int .i64 0, .int .i64 (wk : Int), .int .i64 0, .string ⟨#[]⟩] 34)) W2.heap.size 34 [.int .i64 0, .int .i64 (wk : Int), .int .i64 0, .string ⟨#[]⟩]) := Blk.new W2 34 [.int .i64 0, .int .i64 (wk : Int), .int .i64 0, .string ⟨#[]⟩]
  have NB3 : Hid (Blk (W2.alloc (.cells #[.int .i64 0, .int .i64 (wk : Int), .int .i64 0, .string ⟨#[]⟩] 34)) w1.heap.size 29 [.string (R 0), .string (R 1), .string (R 2), .int .i64 (wk : Int)]) := (unhide NB).alloc _
  have gB := Quiet.blk (w := W0) (w' := (W2.alloc (.cells #[.int .i64 0, .int .i64 (wk : Int), .int .i64 0, .string ⟨#[]⟩] 34))) (unhide q3H) (unhide GBH)
  have hB := Quiet.blk (w := W0) (w' := (W2.alloc (.cells #[.int .i64 0, .int .i64 (wk : Int), .int .i64 0, .string ⟨#[]⟩] 34))) (unhide q3H) (unhide HBH)
  have oB := Quiet.blk (w := W0) (w' := (W2.alloc (.cells #[.int .i64 0, .int .i64 (wk : Int), .int .i64 0, .string ⟨#[]⟩] 34))) (unhide q3H) (unhide OBH)
  have aB := Quiet.blk (w := W0) (w' := (W2.alloc (.cells #[.int .i64 0, .int .i64 (wk : Int), .int .i64 0, .string ⟨#[]⟩] 34))) (unhide q3H) (unhide ABH)
  have g0x := gB.cell 0
  have g1x := gB.cell 1
  have g2x := gB.cell 2
  have g3x := gB.cell 3
  have h0x := hB.cell 0
  have h1x := hB.cell 1
  have h2x := hB.cell 2
  have h3x := hB.cell 3
  have o0x := oB.cell 0
  have o1x := oB.cell 1
  have o2x := oB.cell 2
  have o3x := oB.cell 3
  have o4x := oB.cell 4
  have o5x := oB.cell 5
  have a0x := aB.cell 0
  have a1x := aB.cell 1
  have a2x := aB.cell 2
  have a3x := aB.cell 3
  simp at g0x g1x g2x g3x h0x h1x h2x h3x o0x o1x o2x o3x o4x o5x a0x a1x a2x a3x
  clear gB hB oB aB
  have nx0 := (unhide NB3).cell 0
  have nx1 := (unhide NB3).cell 1
  have nx2 := (unhide NB3).cell 2
  have nx3 := (unhide NB3).cell 3
  simp at nx0 nx1 nx2 nx3
  have mx0 := (unhide MB).cell 0
  have mx1 := (unhide MB).cell 1
  have mx2 := (unhide MB).cell 2
  have mx3 := (unhide MB).cell 3
  simp at mx0 mx1 mx2 mx3
  have q3z : Hid (Quiet W0 (W2.alloc (.cells #[.int .i64 0, .int .i64 0, .int .i64 0, .string ⟨#[]⟩] 34))) := Chg.alloc (unhide q2H) _
  have gB := Quiet.blk (w := W0) (w' := (W2.alloc (.cells #[.int .i64 0, .int .i64 0, .int .i64 0, .string ⟨#[]⟩] 34))) (unhide q3z) (unhide GBH)
  have hB := Quiet.blk (w := W0) (w' := (W2.alloc (.cells #[.int .i64 0, .int .i64 0, .int .i64 0, .string ⟨#[]⟩] 34))) (unhide q3z) (unhide HBH)
  have oB := Quiet.blk (w := W0) (w' := (W2.alloc (.cells #[.int .i64 0, .int .i64 0, .int .i64 0, .string ⟨#[]⟩] 34))) (unhide q3z) (unhide OBH)
  have aB := Quiet.blk (w := W0) (w' := (W2.alloc (.cells #[.int .i64 0, .int .i64 0, .int .i64 0, .string ⟨#[]⟩] 34))) (unhide q3z) (unhide ABH)
  have g0y := gB.cell 0
  have g1y := gB.cell 1
  have g2y := gB.cell 2
  have g3y := gB.cell 3
  have h0y := hB.cell 0
  have h1y := hB.cell 1
  have h2y := hB.cell 2
  have h3y := hB.cell 3
  have o0y := oB.cell 0
  have o1y := oB.cell 1
  have o2y := oB.cell 2
  have o3y := oB.cell 3
  have o4y := oB.cell 4
  have o5y := oB.cell 5
  have a0y := aB.cell 0
  have a1y := aB.cell 1
  have a2y := aB.cell 2
  have a3y := aB.cell 3
  simp at g0y g1y g2y g3y h0y h1y h2y h3y o0y o1y o2y o3y o4y o5y a0y a1y a2y a3y
  clear gB hB oB aB
  go_wp2
  go_ret
  exact ⟨rfl, Quiet.trans (unhide QH) (unhide q3H)⟩

set_option maxRecDepth 100000 in
set_option maxHeartbeats 8000000 in
theorem kept_check (w : World) (R : Nat → ByteArray) (wk : Nat) (a b c : Int) (s t : ByteArray) (hOw : Hid (QC w 25 #[.agg #[.string (R 0), .string (R 1), .string (R 2), .int .i64 (wk : Int)], .agg #[.int .i64 8, .int .i64 a, .int .i64 b, .int .i64 c, .string s, .string t]] (.tuple #[.int .i64 0, .int .i64 (wk : Int)]))) :
    Calls Try.prog 12 #[.agg #[.string (R 0), .string (R 1), .string (R 2), .int .i64 (wk : Int)], .agg #[.string (R 0), .string (R 1), .string (R 2), .int .i64 (wk : Int)], .agg #[.int .i64 8, .int .i64 a, .int .i64 b, .int .i64 c, .string s, .string t], .agg #[.int .i64 0, .int .i64 1, .int .i64 0, .string ⟨#[]⟩]] w fun e w' => e = .returned (.bool true) ∧ Quiet w w' := by
  obtain ⟨W0, hW0⟩ : ∃ W0, ((((w.alloc (.cells #[.string (R 0), .string (R 1), .string (R 2), .int .i64 (wk : Int)] 29)).alloc (.cells #[.string (R 0), .string (R 1), .string (R 2), .int .i64 (wk : Int)] 29)).alloc (.cells #[.int .i64 8, .int .i64 a, .int .i64 b, .int .i64 c, .string s, .string t] 31)).alloc (.cells #[.int .i64 0, .int .i64 1, .int .i64 0, .string ⟨#[]⟩] 34)) = W0 := ⟨_, rfl⟩
  obtain ⟨Q0, GB, HB, OB, AB, hsz⟩ := kept_w0 w [.string (R 0), .string (R 1), .string (R 2), .int .i64 (wk : Int)] [.string (R 0), .string (R 1), .string (R 2), .int .i64 (wk : Int)] [.int .i64 8, .int .i64 a, .int .i64 b, .int .i64 c, .string s, .string t] [.int .i64 0, .int .i64 1, .int .i64 0, .string ⟨#[]⟩] W0 hW0
  have QH := hide Q0
  have GBH := hide GB
  have HBH := hide HB
  have OBH := hide OB
  have ABH := hide AB
  have hszH := hide hsz
  clear Q0 GB HB OB AB hsz
  have hX : ∀ X : ByteArray, (X.toList == X.toList) = true := fun X => by simp
  have hEq := eq27
  have gB := Quiet.blk (w := W0) (w' := W0) (Quiet.refl W0) (unhide GBH)
  have hB := Quiet.blk (w := W0) (w' := W0) (Quiet.refl W0) (unhide HBH)
  have oB := Quiet.blk (w := W0) (w' := W0) (Quiet.refl W0) (unhide OBH)
  have aB := Quiet.blk (w := W0) (w' := W0) (Quiet.refl W0) (unhide ABH)
  have g0 := gB.cell 0
  have g1 := gB.cell 1
  have g2 := gB.cell 2
  have g3 := gB.cell 3
  have h0 := hB.cell 0
  have h1 := hB.cell 1
  have h2 := hB.cell 2
  have h3 := hB.cell 3
  have o0 := oB.cell 0
  have o1 := oB.cell 1
  have o2 := oB.cell 2
  have o3 := oB.cell 3
  have o4 := oB.cell 4
  have o5 := oB.cell 5
  have a0 := aB.cell 0
  have a1 := aB.cell 1
  have a2 := aB.cell 2
  have a3 := aB.cell 3
  simp at g0 g1 g2 g3 h0 h1 h2 h3 o0 o1 o2 o3 o4 o5 a0 a1 a2 a3
  clear gB hB oB aB
  unfold QC at *
  go_enter Try.func12, Try.ntmps12
  go_wp2_with fail
  refine (unhide hOw W0 (unhide QH)).mono ?_
  clear hOw
  rintro e w1 ⟨rfl, q1⟩
  have q1H := hide q1
  clear q1
  clear g0 g1 g2 g3 h0 h1 h2 h3 o0 o1 o2 o3 o4 o5 a0 a1 a2 a3
  have gB := Quiet.blk (w := W0) (w' := w1) (unhide q1H) (unhide GBH)
  have hB := Quiet.blk (w := W0) (w' := w1) (unhide q1H) (unhide HBH)
  have oB := Quiet.blk (w := W0) (w' := w1) (unhide q1H) (unhide OBH)
  have aB := Quiet.blk (w := W0) (w' := w1) (unhide q1H) (unhide ABH)
  have g0 := gB.cell 0
  have g1 := gB.cell 1
  have g2 := gB.cell 2
  have g3 := gB.cell 3
  have h0 := hB.cell 0
  have h1 := hB.cell 1
  have h2 := hB.cell 2
  have h3 := hB.cell 3
  have o0 := oB.cell 0
  have o1 := oB.cell 1
  have o2 := oB.cell 2
  have o3 := oB.cell 3
  have o4 := oB.cell 4
  have o5 := oB.cell 5
  have a0 := aB.cell 0
  have a1 := aB.cell 1
  have a2 := aB.cell 2
  have a3 := aB.cell 3
  simp at g0 g1 g2 g3 h0 h1 h2 h3 o0 o1 o2 o3 o4 o5 a0 a1 a2 a3
  clear gB hB oB aB
  obtain ⟨W2, hW2⟩ : ∃ W, ((w1.alloc (.cells #[.string (R 0), .string (R 1), .string (R 2), .int .i64 (wk : Int)] 29)).setCell ⟨w1.heap.size, 3, none⟩ (.int .i64 (wk : Int))) = W := ⟨_, rfl⟩
  have q2H : Hid (Quiet W0 W2) := by rw [← hW2]; exact Chg.setCell (Chg.alloc (unhide q1H) (.cells #[.string (R 0), .string (R 1), .string (R 2), .int .i64 (wk : Int)] 29)) (p := ⟨w1.heap.size, 3, none⟩) (.inr ((unhide q1H).size)) _
  have NB : Hid (Blk W2 w1.heap.size 29 [.string (R 0), .string (R 1), .string (R 2), .int .i64 (wk : Int)]) := by rw [← hW2]; exact (Blk.new w1 29 [.string (R 0), .string (R 1), .string (R 2), .int .i64 (wk : Int)]).set 3 (.int .i64 (wk : Int))
  have gB := Quiet.blk (w := W0) (w' := W2) (unhide q2H) (unhide GBH)
  have hB := Quiet.blk (w := W0) (w' := W2) (unhide q2H) (unhide HBH)
  have oB := Quiet.blk (w := W0) (w' := W2) (unhide q2H) (unhide OBH)
  have aB := Quiet.blk (w := W0) (w' := W2) (unhide q2H) (unhide ABH)
  have g0z := gB.cell 0
  have g1z := gB.cell 1
  have g2z := gB.cell 2
  have g3z := gB.cell 3
  have h0z := hB.cell 0
  have h1z := hB.cell 1
  have h2z := hB.cell 2
  have h3z := hB.cell 3
  have o0z := oB.cell 0
  have o1z := oB.cell 1
  have o2z := oB.cell 2
  have o3z := oB.cell 3
  have o4z := oB.cell 4
  have o5z := oB.cell 5
  have a0z := aB.cell 0
  have a1z := aB.cell 1
  have a2z := aB.cell 2
  have a3z := aB.cell 3
  simp at g0z g1z g2z g3z h0z h1z h2z h3z o0z o1z o2z o3z o4z o5z a0z a1z a2z a3z
  clear gB hB oB aB
  have nz0 := (unhide NB).cell 0
  have nz1 := (unhide NB).cell 1
  have nz2 := (unhide NB).cell 2
  have nz3 := (unhide NB).cell 3
  simp at nz0 nz1 nz2 nz3
  have fN := (unhide NB).frozen
  have cs0 := (Blk.new w1 29 [.string (R 0), .string (R 1), .string (R 2), .int .i64 (wk : Int)]).cell 3
  simp at cs0
  have q3H : Hid (Quiet W0 (W2.alloc (.cells #[.int .i64 0, .int .i64 1, .int .i64 0, .string ⟨#[]⟩] 34))) := Chg.alloc (unhide q2H) _
  have MB : Hid (Blk (W2.alloc (.cells #[.int .i64 0, .int .i64 1, .int .i64 0, .string ⟨#[]⟩] 34)) W2.heap.size 34 [.int .i64 0, .int .i64 1, .int .i64 0, .string ⟨#[]⟩]) := Blk.new W2 34 [.int .i64 0, .int .i64 1, .int .i64 0, .string ⟨#[]⟩]
  have NB3 : Hid (Blk (W2.alloc (.cells #[.int .i64 0, .int .i64 1, .int .i64 0, .string ⟨#[]⟩] 34)) w1.heap.size 29 [.string (R 0), .string (R 1), .string (R 2), .int .i64 (wk : Int)]) := (unhide NB).alloc _
  have gB := Quiet.blk (w := W0) (w' := (W2.alloc (.cells #[.int .i64 0, .int .i64 1, .int .i64 0, .string ⟨#[]⟩] 34))) (unhide q3H) (unhide GBH)
  have hB := Quiet.blk (w := W0) (w' := (W2.alloc (.cells #[.int .i64 0, .int .i64 1, .int .i64 0, .string ⟨#[]⟩] 34))) (unhide q3H) (unhide HBH)
  have oB := Quiet.blk (w := W0) (w' := (W2.alloc (.cells #[.int .i64 0, .int .i64 1, .int .i64 0, .string ⟨#[]⟩] 34))) (unhide q3H) (unhide OBH)
  have aB := Quiet.blk (w := W0) (w' := (W2.alloc (.cells #[.int .i64 0, .int .i64 1, .int .i64 0, .string ⟨#[]⟩] 34))) (unhide q3H) (unhide ABH)
  have g0x := gB.cell 0
  have g1x := gB.cell 1
  have g2x := gB.cell 2
  have g3x := gB.cell 3
  have h0x := hB.cell 0
  have h1x := hB.cell 1
  have h2x := hB.cell 2
  have h3x := hB.cell 3
  have o0x := oB.cell 0
  have o1x := oB.cell 1
  have o2x := oB.cell 2
  have o3x := oB.cell 3
  have o4x := oB.cell 4
  have o5x := oB.cell 5
  have a0x := aB.cell 0
  have a1x := aB.cell 1
  have a2x := aB.cell 2
  have a3x := aB.cell 3
  simp at g0x g1x g2x g3x h0x h1x h2x h3x o0x o1x o2x o3x o4x o5x a0x a1x a2x a3x
  clear gB hB oB aB
  have nx0 := (unhide NB3).cell 0
  have nx1 := (unhide NB3).cell 1
  have nx2 := (unhide NB3).cell 2
  have nx3 := (unhide NB3).cell 3
  simp at nx0 nx1 nx2 nx3
  have mx0 := (unhide MB).cell 0
  have mx1 := (unhide MB).cell 1
  have mx2 := (unhide MB).cell 2
  have mx3 := (unhide MB).cell 3
  simp at mx0 mx1 mx2 mx3
  have q3z : Hid (Quiet W0 (W2.alloc (.cells #[.int .i64 0, .int .i64 0, .int .i64 0, .string ⟨#[]⟩] 34))) := Chg.alloc (unhide q2H) _
  have gB := Quiet.blk (w := W0) (w' := (W2.alloc (.cells #[.int .i64 0, .int .i64 0, .int .i64 0, .string ⟨#[]⟩] 34))) (unhide q3z) (unhide GBH)
  have hB := Quiet.blk (w := W0) (w' := (W2.alloc (.cells #[.int .i64 0, .int .i64 0, .int .i64 0, .string ⟨#[]⟩] 34))) (unhide q3z) (unhide HBH)
  have oB := Quiet.blk (w := W0) (w' := (W2.alloc (.cells #[.int .i64 0, .int .i64 0, .int .i64 0, .string ⟨#[]⟩] 34))) (unhide q3z) (unhide OBH)
  have aB := Quiet.blk (w := W0) (w' := (W2.alloc (.cells #[.int .i64 0, .int .i64 0, .int .i64 0, .string ⟨#[]⟩] 34))) (unhide q3z) (unhide ABH)
  have g0y := gB.cell 0
  have g1y := gB.cell 1
  have g2y := gB.cell 2
  have g3y := gB.cell 3
  have h0y := hB.cell 0
  have h1y := hB.cell 1
  have h2y := hB.cell 2
  have h3y := hB.cell 3
  have o0y := oB.cell 0
  have o1y := oB.cell 1
  have o2y := oB.cell 2
  have o3y := oB.cell 3
  have o4y := oB.cell 4
  have o5y := oB.cell 5
  have a0y := aB.cell 0
  have a1y := aB.cell 1
  have a2y := aB.cell 2
  have a3y := aB.cell 3
  simp at g0y g1y g2y g3y h0y h1y h2y h3y o0y o1y o2y o3y o4y o5y a0y a1y a2y a3y
  clear gB hB oB aB
  go_wp2
  go_ret
  exact ⟨rfl, Quiet.trans (unhide QH) (unhide q3H)⟩
end Go.Proofs.Qxb6500368a
