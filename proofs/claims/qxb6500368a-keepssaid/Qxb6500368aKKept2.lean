/-
  KEEPS: Kept, kind by kind, over whatever its callees answer. (gen8kkept.py)
-/
import Derived.Test.Qxb6500368aKKept
import Derived.ChangeKeysEq
namespace Go.Proofs.Qxb6500368a
open Go.RowKit Go.Qx
set_option linter.unusedVariables false
set_option linter.unusedSimpArgs false

set_option maxRecDepth 100000 in
set_option maxHeartbeats 8000000 in
theorem kept_show (w : World) (R : Nat → ByteArray) (wk : Nat) (a b c : Int) (X : ByteArray) (s t : ByteArray) (hOw : Hid (QC w 25 #[.agg #[.string (R 0), .string (R 1), .string (R 2), .int .i64 (wk : Int)], .agg #[.int .i64 7, .int .i64 a, .int .i64 b, .int .i64 c, .string s, .string t]] (.tuple #[.int .i64 0, .int .i64 (wk : Int)]))) (hTx : Hid (QC w 29 #[.agg #[.string (R 0), .string (R 1), .string (R 2), .int .i64 (wk : Int)]] (.string X))) :
    Calls Try.prog 12 #[.agg #[.string (R 0), .string (R 1), .string (R 2), .int .i64 (wk : Int)], .agg #[.string (R 0), .string (R 1), .string (R 2), .int .i64 (wk : Int)], .agg #[.int .i64 7, .int .i64 a, .int .i64 b, .int .i64 c, .string s, .string t], .agg #[.int .i64 0, .int .i64 0, .int .i64 0, .string X]] w fun e w' => e = .returned (.bool true) ∧ Quiet w w' := by
  obtain ⟨W0, hW0⟩ : ∃ W0, ((((w.alloc (.cells #[.string (R 0), .string (R 1), .string (R 2), .int .i64 (wk : Int)] 29)).alloc (.cells #[.string (R 0), .string (R 1), .string (R 2), .int .i64 (wk : Int)] 29)).alloc (.cells #[.int .i64 7, .int .i64 a, .int .i64 b, .int .i64 c, .string s, .string t] 31)).alloc (.cells #[.int .i64 0, .int .i64 0, .int .i64 0, .string X] 34)) = W0 := ⟨_, rfl⟩
  obtain ⟨Q0, GB, HB, OB, AB, hsz⟩ := kept_w0 w [.string (R 0), .string (R 1), .string (R 2), .int .i64 (wk : Int)] [.string (R 0), .string (R 1), .string (R 2), .int .i64 (wk : Int)] [.int .i64 7, .int .i64 a, .int .i64 b, .int .i64 c, .string s, .string t] [.int .i64 0, .int .i64 0, .int .i64 0, .string X] W0 hW0
  have QH := hide Q0
  have GBH := hide GB
  have HBH := hide HB
  have OBH := hide OB
  have ABH := hide AB
  have hszH := hide hsz
  clear Q0 GB HB OB AB hsz
  have hX : ∀ X : ByteArray, (X.toList == X.toList) = true := fun X => by simp
  have hEq := eq27
  have gB := Quiet.blk (w := W0) (w' := W0) (Quiet.refl W0) (unhide GBH)
  have hB := Quiet.blk (w := W0) (w' := W0) (Quiet.refl W0) (unhide HBH)
  have oB := Quiet.blk (w := W0) (w' := W0) (Quiet.refl W0) (unhide OBH)
  have aB := Quiet.blk (w := W0) (w' := W0) (Quiet.refl W0) (unhide ABH)
  have g0 := gB.cell 0
  have g1 := gB.cell 1
  have g2 := gB.cell 2
  have g3 := gB.cell 3
  have h0 := hB.cell 0
  have h1 := hB.cell 1
  have h2 := hB.cell 2
  have h3 := hB.cell 3
  have o0 := oB.cell 0
  have o1 := oB.cell 1
  have o2 := oB.cell 2
  have o3 := oB.cell 3
  have o4 := oB.cell 4
  have o5 := oB.cell 5
  have a0 := aB.cell 0
  have a1 := aB.cell 1
  have a2 := aB.cell 2
  have a3 := aB.cell 3
  simp at g0 g1 g2 g3 h0 h1 h2 h3 o0 o1 o2 o3 o4 o5 a0 a1 a2 a3
  clear gB hB oB aB
  unfold QC at *
  go_enter Try.func12, Try.ntmps12
  go_wp2_with fail
  refine (unhide hOw W0 (unhide QH)).mono ?_
  clear hOw
  rintro e w1 ⟨rfl, q1⟩
  have q1H := hide q1
  clear q1
  clear g0 g1 g2 g3 h0 h1 h2 h3 o0 o1 o2 o3 o4 o5 a0 a1 a2 a3
  have gB := Quiet.blk (w := W0) (w' := w1) (unhide q1H) (unhide GBH)
  have hB := Quiet.blk (w := W0) (w' := w1) (unhide q1H) (unhide HBH)
  have oB := Quiet.blk (w := W0) (w' := w1) (unhide q1H) (unhide OBH)
  have aB := Quiet.blk (w := W0) (w' := w1) (unhide q1H) (unhide ABH)
  have g0 := gB.cell 0
  have g1 := gB.cell 1
  have g2 := gB.cell 2
  have g3 := gB.cell 3
  have h0 := hB.cell 0
  have h1 := hB.cell 1
  have h2 := hB.cell 2
  have h3 := hB.cell 3
  have o0 := oB.cell 0
  have o1 := oB.cell 1
  have o2 := oB.cell 2
  have o3 := oB.cell 3
  have o4 := oB.cell 4
  have o5 := oB.cell 5
  have a0 := aB.cell 0
  have a1 := aB.cell 1
  have a2 := aB.cell 2
  have a3 := aB.cell 3
  simp at g0 g1 g2 g3 h0 h1 h2 h3 o0 o1 o2 o3 o4 o5 a0 a1 a2 a3
  clear gB hB oB aB
  obtain ⟨W2, hW2⟩ : ∃ W, ((w1.alloc (.cells #[.string (R 0), .string (R 1), .string (R 2), .int .i64 (wk : Int)] 29)).setCell ⟨w1.heap.size, 3, none⟩ (.int .i64 (wk : Int))) = W := ⟨_, rfl⟩
  have q2H : Hid (Quiet W0 W2) := by rw [← hW2]; exact Chg.setCell (Chg.alloc (unhide q1H) (.cells #[.string (R 0), .string (R 1), .string (R 2), .int .i64 (wk : Int)] 29)) (p := ⟨w1.heap.size, 3, none⟩) (.inr ((unhide q1H).size)) _
  have NB : Hid (Blk W2 w1.heap.size 29 [.string (R 0), .string (R 1), .string (R 2), .int .i64 (wk : Int)]) := by rw [← hW2]; exact (Blk.new w1 29 [.string (R 0), .string (R 1), .string (R 2), .int .i64 (wk : Int)]).set 3 (.int .i64 (wk : Int))
  have gB := Quiet.blk (w := W0) (w' := W2) (unhide q2H) (unhide GBH)
  have hB := Quiet.blk (w := W0) (w' := W2) (unhide q2H) (unhide HBH)
  have oB := Quiet.blk (w := W0) (w' := W2) (unhide q2H) (unhide OBH)
  have aB := Quiet.blk (w := W0) (w' := W2) (unhide q2H) (unhide ABH)
  have g0z := gB.cell 0
  have g1z := gB.cell 1
  have g2z := gB.cell 2
  have g3z := gB.cell 3
  have h0z := hB.cell 0
  have h1z := hB.cell 1
  have h2z := hB.cell 2
  have h3z := hB.cell 3
  have o0z := oB.cell 0
  have o1z := oB.cell 1
  have o2z := oB.cell 2
  have o3z := oB.cell 3
  have o4z := oB.cell 4
  have o5z := oB.cell 5
  have a0z := aB.cell 0
  have a1z := aB.cell 1
  have a2z := aB.cell 2
  have a3z := aB.cell 3
  simp at g0z g1z g2z g3z h0z h1z h2z h3z o0z o1z o2z o3z o4z o5z a0z a1z a2z a3z
  clear gB hB oB aB
  have nz0 := (unhide NB).cell 0
  have nz1 := (unhide NB).cell 1
  have nz2 := (unhide NB).cell 2
  have nz3 := (unhide NB).cell 3
  simp at nz0 nz1 nz2 nz3
  have fN := (unhide NB).frozen
  have cs0 := (Blk.new w1 29 [.string (R 0), .string (R 1), .string (R 2), .int .i64 (wk : Int)]).cell 3
  simp at cs0
  have q3H : Hid (Quiet W0 (W2.alloc (.cells #[.int .i64 0, .int .i64 0, .int .i64 0, .string ⟨#[]⟩] 34))) := Chg.alloc (unhide q2H) _
  have MB : Hid (Blk (W2.alloc (.cells #[.int .i64 0, .int .i64 0, .int .i64 0, .string ⟨#[]⟩] 34)) W2.heap.size 34 [.int .i64 0, .int .i64 0, .int .i64 0, .string ⟨#[]⟩]) := Blk.new W2 34 [.int .i64 0, .int .i64 0, .int .i64 0, .string ⟨#[]⟩]
  have NB3 : Hid (Blk (W2.alloc (.cells #[.int .i64 0, .int .i64 0, .int .i64 0, .string ⟨#[]⟩] 34)) w1.heap.size 29 [.string (R 0), .string (R 1), .string (R 2), .int .i64 (wk : Int)]) := (unhide NB).alloc _
  have gB := Quiet.blk (w := W0) (w' := (W2.alloc (.cells #[.int .i64 0, .int .i64 0, .int .i64 0, .string ⟨#[]⟩] 34))) (unhide q3H) (unhide GBH)
  have hB := Quiet.blk (w := W0) (w' := (W2.alloc (.cells #[.int .i64 0, .int .i64 0, .int .i64 0, .string ⟨#[]⟩] 34))) (unhide q3H) (unhide HBH)
  have oB := Quiet.blk (w := W0) (w' := (W2.alloc (.cells #[.int .i64 0, .int .i64 0, .int .i64 0, .string ⟨#[]⟩] 34))) (unhide q3H) (unhide OBH)
  have aB := Quiet.blk (w := W0) (w' := (W2.alloc (.cells #[.int .i64 0, .int .i64 0, .int .i64 0, .string ⟨#[]⟩] 34))) (unhide q3H) (unhide ABH)
  have g0x := gB.cell 0
  have g1x := gB.cell 1
  have g2x := gB.cell 2
  have g3x := gB.cell 3
  have h0x := hB.cell 0
  have h1x := hB.cell 1
  have h2x := hB.cell 2
  have h3x := hB.cell 3
  have o0x := oB.cell 0
  have o1x := oB.cell 1
  have o2x := oB.cell 2
  have o3x := oB.cell 3
  have o4x := oB.cell 4
  have o5x := oB.cell 5
  have a0x := aB.cell 0
  have a1x := aB.cell 1
  have a2x := aB.cell 2
  have a3x := aB.cell 3
  simp at g0x g1x g2x g3x h0x h1x h2x h3x o0x o1x o2x o3x o4x o5x a0x a1x a2x a3x
  clear gB hB oB aB
  have nx0 := (unhide NB3).cell 0
  have nx1 := (unhide NB3).cell 1
  have nx2 := (unhide NB3).cell 2
  have nx3 := (unhide NB3).cell 3
  simp at nx0 nx1 nx2 nx3
  have mx0 := (unhide MB).cell 0
  have mx1 := (unhide MB).cell 1
  have mx2 := (unhide MB).cell 2
  have mx3 := (unhide MB).cell 3
  simp at mx0 mx1 mx2 mx3
  go_wp2_with fail
  refine (unhide hTx (W2.alloc (.cells #[.int .i64 0, .int .i64 0, .int .i64 0, .string ⟨#[]⟩] 34)) (Quiet.trans (unhide QH) (unhide q3H))).mono ?_
  clear hTx
  rintro e w5 ⟨rfl, q5⟩
  have q5H : Hid (Quiet W0 w5) := Quiet.trans (unhide q3H) q5
  have MB5 : Hid (Blk w5 W2.heap.size 34 [.int .i64 0, .int .i64 0, .int .i64 0, .string ⟨#[]⟩]) := q5.blk (unhide MB)
  have NB5 : Hid (Blk w5 w1.heap.size 29 [.string (R 0), .string (R 1), .string (R 2), .int .i64 (wk : Int)]) := q5.blk (unhide NB3)
  have mv0 := (unhide MB5).cell 0
  have mv1 := (unhide MB5).cell 1
  have mv2 := (unhide MB5).cell 2
  have mv3 := (unhide MB5).cell 3
  simp at mv0 mv1 mv2 mv3
  have gB := Quiet.blk (w := W0) (w' := w5) (unhide q5H) (unhide GBH)
  have hB := Quiet.blk (w := W0) (w' := w5) (unhide q5H) (unhide HBH)
  have oB := Quiet.blk (w := W0) (w' := w5) (unhide q5H) (unhide OBH)
  have aB := Quiet.blk (w := W0) (w' := w5) (unhide q5H) (unhide ABH)
  have g0v := gB.cell 0
  have g1v := gB.cell 1
  have g2v := gB.cell 2
  have g3v := gB.cell 3
  have h0v := hB.cell 0
  have h1v := hB.cell 1
  have h2v := hB.cell 2
  have h3v := hB.cell 3
  have o0v := oB.cell 0
  have o1v := oB.cell 1
  have o2v := oB.cell 2
  have o3v := oB.cell 3
  have o4v := oB.cell 4
  have o5v := oB.cell 5
  have a0v := aB.cell 0
  have a1v := aB.cell 1
  have a2v := aB.cell 2
  have a3v := aB.cell 3
  simp at g0v g1v g2v g3v h0v h1v h2v h3v o0v o1v o2v o3v o4v o5v a0v a1v a2v a3v
  clear gB hB oB aB
  have fv := (unhide MB5).frozen
  have q6H : Hid (Quiet W0 (w5.setCell ⟨W2.heap.size, 3, none⟩ (.string X))) := Chg.setCell (unhide q5H) (p := ⟨W2.heap.size, 3, none⟩) (.inr ((unhide q2H).size)) _
  have MB6 : Hid (Blk (w5.setCell ⟨W2.heap.size, 3, none⟩ (.string X)) W2.heap.size 34 [.int .i64 0, .int .i64 0, .int .i64 0, .string X]) := (unhide MB5).set 3 (.string X)
  have NB6 : Hid (Blk (w5.setCell ⟨W2.heap.size, 3, none⟩ (.string X)) w1.heap.size 29 [.string (R 0), .string (R 1), .string (R 2), .int .i64 (wk : Int)]) := (unhide NB5).set_other (a := ⟨W2.heap.size, 3, none⟩) (Nat.ne_of_lt (unhide NB).lt) _
  have gB := Quiet.blk (w := W0) (w' := (w5.setCell ⟨W2.heap.size, 3, none⟩ (.string X))) (unhide q6H) (unhide GBH)
  have hB := Quiet.blk (w := W0) (w' := (w5.setCell ⟨W2.heap.size, 3, none⟩ (.string X))) (unhide q6H) (unhide HBH)
  have oB := Quiet.blk (w := W0) (w' := (w5.setCell ⟨W2.heap.size, 3, none⟩ (.string X))) (unhide q6H) (unhide OBH)
  have aB := Quiet.blk (w := W0) (w' := (w5.setCell ⟨W2.heap.size, 3, none⟩ (.string X))) (unhide q6H) (unhide ABH)
  have g0u := gB.cell 0
  have g1u := gB.cell 1
  have g2u := gB.cell 2
  have g3u := gB.cell 3
  have h0u := hB.cell 0
  have h1u := hB.cell 1
  have h2u := hB.cell 2
  have h3u := hB.cell 3
  have o0u := oB.cell 0
  have o1u := oB.cell 1
  have o2u := oB.cell 2
  have o3u := oB.cell 3
  have o4u := oB.cell 4
  have o5u := oB.cell 5
  have a0u := aB.cell 0
  have a1u := aB.cell 1
  have a2u := aB.cell 2
  have a3u := aB.cell 3
  simp at g0u g1u g2u g3u h0u h1u h2u h3u o0u o1u o2u o3u o4u o5u a0u a1u a2u a3u
  clear gB hB oB aB
  have mu0 := (unhide MB6).cell 0
  have mu1 := (unhide MB6).cell 1
  have mu2 := (unhide MB6).cell 2
  have mu3 := (unhide MB6).cell 3
  simp at mu0 mu1 mu2 mu3
  have nu0 := (unhide NB6).cell 0
  have nu1 := (unhide NB6).cell 1
  have nu2 := (unhide NB6).cell 2
  have nu3 := (unhide NB6).cell 3
  simp at nu0 nu1 nu2 nu3
  clear q5
  go_wp2
  go_ret
  exact ⟨rfl, Quiet.trans (unhide QH) (unhide q6H)⟩

set_option maxRecDepth 100000 in
set_option maxHeartbeats 8000000 in
theorem kept_at (w : World) (R : Nat → ByteArray) (wk : Nat) (c : Int) (ka j l : Nat) (y : Nat → Int) (s t : ByteArray) (hOw : Hid (QC w 25 #[.agg #[.string (R 0), .string (R 1), .string (R 2), .int .i64 (wk : Int)], .agg #[.int .i64 2, .int .i64 (ka : Int), .int .i64 (j : Int), .int .i64 c, .string s, .string t]] (.tuple #[.int .i64 0, .int .i64 (wk : Int)]))) (hQd : Hid (∀ W, Quiet w W → Calls Try.prog 28 #[.string (R ka)] W fun e w' => ∃ p, e = .returned (.tuple #[.slice (some ⟨p, 0, none⟩) l l, .int .i64 0]) ∧ Quiet W w' ∧ W.heap.size ≤ p ∧ Blk w' p 3 (ints .i64 y l))) (hka : ka < 3) (hj : j < l) :
    Calls Try.prog 12 #[.agg #[.string (R 0), .string (R 1), .string (R 2), .int .i64 (wk : Int)], .agg #[.string (R 0), .string (R 1), .string (R 2), .int .i64 (wk : Int)], .agg #[.int .i64 2, .int .i64 (ka : Int), .int .i64 (j : Int), .int .i64 c, .string s, .string t], .agg #[.int .i64 0, .int .i64 (y j), .int .i64 0, .string ⟨#[]⟩]] w fun e w' => e = .returned (.bool true) ∧ Quiet w w' := by
  have ka0 : (0 : Int) ≤ (ka : Int) := by omega
  have ka3 : (ka : Int) < 3 := by omega
  have j0 : (0 : Int) ≤ (j : Int) := by omega
  have j1 : (j : Int) < (l : Int) := by omega
  obtain ⟨W0, hW0⟩ : ∃ W0, ((((w.alloc (.cells #[.string (R 0), .string (R 1), .string (R 2), .int .i64 (wk : Int)] 29)).alloc (.cells #[.string (R 0), .string (R 1), .string (R 2), .int .i64 (wk : Int)] 29)).alloc (.cells #[.int .i64 2, .int .i64 (ka : Int), .int .i64 (j : Int), .int .i64 c, .string s, .string t] 31)).alloc (.cells #[.int .i64 0, .int .i64 (y j), .int .i64 0, .string ⟨#[]⟩] 34)) = W0 := ⟨_, rfl⟩
  obtain ⟨Q0, GB, HB, OB, AB, hsz⟩ := kept_w0 w [.string (R 0), .string (R 1), .string (R 2), .int .i64 (wk : Int)] [.string (R 0), .string (R 1), .string (R 2), .int .i64 (wk : Int)] [.int .i64 2, .int .i64 (ka : Int), .int .i64 (j : Int), .int .i64 c, .string s, .string t] [.int .i64 0, .int .i64 (y j), .int .i64 0, .string ⟨#[]⟩] W0 hW0
  have QH := hide Q0
  have GBH := hide GB
  have HBH := hide HB
  have OBH := hide OB
  have ABH := hide AB
  have hszH := hide hsz
  clear Q0 GB HB OB AB hsz
  have hX : ∀ X : ByteArray, (X.toList == X.toList) = true := fun X => by simp
  have hEq := eq27
  have gB := Quiet.blk (w := W0) (w' := W0) (Quiet.refl W0) (unhide GBH)
  have hB := Quiet.blk (w := W0) (w' := W0) (Quiet.refl W0) (unhide HBH)
  have oB := Quiet.blk (w := W0) (w' := W0) (Quiet.refl W0) (unhide OBH)
  have aB := Quiet.blk (w := W0) (w' := W0) (Quiet.refl W0) (unhide ABH)
  have g0 := gB.cell 0
  have g1 := gB.cell 1
  have g2 := gB.cell 2
  have g3 := gB.cell 3
  have h0 := hB.cell 0
  have h1 := hB.cell 1
  have h2 := hB.cell 2
  have h3 := hB.cell 3
  have o0 := oB.cell 0
  have o1 := oB.cell 1
  have o2 := oB.cell 2
  have o3 := oB.cell 3
  have o4 := oB.cell 4
  have o5 := oB.cell 5
  have a0 := aB.cell 0
  have a1 := aB.cell 1
  have a2 := aB.cell 2
  have a3 := aB.cell 3
  simp at g0 g1 g2 g3 h0 h1 h2 h3 o0 o1 o2 o3 o4 o5 a0 a1 a2 a3
  clear gB hB oB aB
  unfold QC at *
  go_enter Try.func12, Try.ntmps12
  go_wp2_with fail
  refine (unhide hOw W0 (unhide QH)).mono ?_
  clear hOw
  rintro e w1 ⟨rfl, q1⟩
  have q1H := hide q1
  clear q1
  clear g0 g1 g2 g3 h0 h1 h2 h3 o0 o1 o2 o3 o4 o5 a0 a1 a2 a3
  have gB := Quiet.blk (w := W0) (w' := w1) (unhide q1H) (unhide GBH)
  have hB := Quiet.blk (w := W0) (w' := w1) (unhide q1H) (unhide HBH)
  have oB := Quiet.blk (w := W0) (w' := w1) (unhide q1H) (unhide OBH)
  have aB := Quiet.blk (w := W0) (w' := w1) (unhide q1H) (unhide ABH)
  have g0 := gB.cell 0
  have g1 := gB.cell 1
  have g2 := gB.cell 2
  have g3 := gB.cell 3
  have h0 := hB.cell 0
  have h1 := hB.cell 1
  have h2 := hB.cell 2
  have h3 := hB.cell 3
  have o0 := oB.cell 0
  have o1 := oB.cell 1
  have o2 := oB.cell 2
  have o3 := oB.cell 3
  have o4 := oB.cell 4
  have o5 := oB.cell 5
  have a0 := aB.cell 0
  have a1 := aB.cell 1
  have a2 := aB.cell 2
  have a3 := aB.cell 3
  simp at g0 g1 g2 g3 h0 h1 h2 h3 o0 o1 o2 o3 o4 o5 a0 a1 a2 a3
  clear gB hB oB aB
  obtain ⟨W2, hW2⟩ : ∃ W, ((w1.alloc (.cells #[.string (R 0), .string (R 1), .string (R 2), .int .i64 (wk : Int)] 29)).setCell ⟨w1.heap.size, 3, none⟩ (.int .i64 (wk : Int))) = W := ⟨_, rfl⟩
  have q2H : Hid (Quiet W0 W2) := by rw [← hW2]; exact Chg.setCell (Chg.alloc (unhide q1H) (.cells #[.string (R 0), .string (R 1), .string (R 2), .int .i64 (wk : Int)] 29)) (p := ⟨w1.heap.size, 3, none⟩) (.inr ((unhide q1H).size)) _
  have NB : Hid (Blk W2 w1.heap.size 29 [.string (R 0), .string (R 1), .string (R 2), .int .i64 (wk : Int)]) := by rw [← hW2]; exact (Blk.new w1 29 [.string (R 0), .string (R 1), .string (R 2), .int .i64 (wk : Int)]).set 3 (.int .i64 (wk : Int))
  have gB := Quiet.blk (w := W0) (w' := W2) (unhide q2H) (unhide GBH)
  have hB := Quiet.blk (w := W0) (w' := W2) (unhide q2H) (unhide HBH)
  have oB := Quiet.blk (w := W0) (w' := W2) (unhide q2H) (unhide OBH)
  have aB := Quiet.blk (w := W0) (w' := W2) (unhide q2H) (unhide ABH)
  have g0z := gB.cell 0
  have g1z := gB.cell 1
  have g2z := gB.cell 2
  have g3z := gB.cell 3
  have h0z := hB.cell 0
  have h1z := hB.cell 1
  have h2z := hB.cell 2
  have h3z := hB.cell 3
  have o0z := oB.cell 0
  have o1z := oB.cell 1
  have o2z := oB.cell 2
  have o3z := oB.cell 3
  have o4z := oB.cell 4
  have o5z := oB.cell 5
  have a0z := aB.cell 0
  have a1z := aB.cell 1
  have a2z := aB.cell 2
  have a3z := aB.cell 3
  simp at g0z g1z g2z g3z h0z h1z h2z h3z o0z o1z o2z o3z o4z o5z a0z a1z a2z a3z
  clear gB hB oB aB
  have nz0 := (unhide NB).cell 0
  have nz1 := (unhide NB).cell 1
  have nz2 := (unhide NB).cell 2
  have nz3 := (unhide NB).cell 3
  simp at nz0 nz1 nz2 nz3
  have fN := (unhide NB).frozen
  have cs0 := (Blk.new w1 29 [.string (R 0), .string (R 1), .string (R 2), .int .i64 (wk : Int)]).cell 3
  simp at cs0
  have q3H : Hid (Quiet W0 (W2.alloc (.cells #[.int .i64 0, .int .i64 0, .int .i64 0, .string ⟨#[]⟩] 34))) := Chg.alloc (unhide q2H) _
  have MB : Hid (Blk (W2.alloc (.cells #[.int .i64 0, .int .i64 0, .int .i64 0, .string ⟨#[]⟩] 34)) W2.heap.size 34 [.int .i64 0, .int .i64 0, .int .i64 0, .string ⟨#[]⟩]) := Blk.new W2 34 [.int .i64 0, .int .i64 0, .int .i64 0, .string ⟨#[]⟩]
  have NB3 : Hid (Blk (W2.alloc (.cells #[.int .i64 0, .int .i64 0, .int .i64 0, .string ⟨#[]⟩] 34)) w1.heap.size 29 [.string (R 0), .string (R 1), .string (R 2), .int .i64 (wk : Int)]) := (unhide NB).alloc _
  have gB := Quiet.blk (w := W0) (w' := (W2.alloc (.cells #[.int .i64 0, .int .i64 0, .int .i64 0, .string ⟨#[]⟩] 34))) (unhide q3H) (unhide GBH)
  have hB := Quiet.blk (w := W0) (w' := (W2.alloc (.cells #[.int .i64 0, .int .i64 0, .int .i64 0, .string ⟨#[]⟩] 34))) (unhide q3H) (unhide HBH)
  have oB := Quiet.blk (w := W0) (w' := (W2.alloc (.cells #[.int .i64 0, .int .i64 0, .int .i64 0, .string ⟨#[]⟩] 34))) (unhide q3H) (unhide OBH)
  have aB := Quiet.blk (w := W0) (w' := (W2.alloc (.cells #[.int .i64 0, .int .i64 0, .int .i64 0, .string ⟨#[]⟩] 34))) (unhide q3H) (unhide ABH)
  have g0x := gB.cell 0
  have g1x := gB.cell 1
  have g2x := gB.cell 2
  have g3x := gB.cell 3
  have h0x := hB.cell 0
  have h1x := hB.cell 1
  have h2x := hB.cell 2
  have h3x := hB.cell 3
  have o0x := oB.cell 0
  have o1x := oB.cell 1
  have o2x := oB.cell 2
  have o3x := oB.cell 3
  have o4x := oB.cell 4
  have o5x := oB.cell 5
  have a0x := aB.cell 0
  have a1x := aB.cell 1
  have a2x := aB.cell 2
  have a3x := aB.cell 3
  simp at g0x g1x g2x g3x h0x h1x h2x h3x o0x o1x o2x o3x o4x o5x a0x a1x a2x a3x
  clear gB hB oB aB
  have nx0 := (unhide NB3).cell 0
  have nx1 := (unhide NB3).cell 1
  have nx2 := (unhide NB3).cell 2
  have nx3 := (unhide NB3).cell 3
  simp at nx0 nx1 nx2 nx3
  have mx0 := (unhide MB).cell 0
  have mx1 := (unhide MB).cell 1
  have mx2 := (unhide MB).cell 2
  have mx3 := (unhide MB).cell 3
  simp at mx0 mx1 mx2 mx3
  have rkB := Quiet.blk (w := W0) (w' := (W2.alloc (.cells #[.int .i64 0, .int .i64 0, .int .i64 0, .string ⟨#[]⟩] 34))) (unhide q3H) (unhide GBH)
  have rk := rkB.cell ka
  rw [show [.string (R 0), .string (R 1), .string (R 2), .int .i64 (wk : Int)] = imgC R (wk : Int) from rfl, imgC_get R _ ka hka] at rk
  clear rkB
  go_wp2_with fail
  refine (unhide hQd (W2.alloc (.cells #[.int .i64 0, .int .i64 0, .int .i64 0, .string ⟨#[]⟩] 34)) (Quiet.trans (unhide QH) (unhide q3H))).mono ?_
  clear hQd
  rintro e w5 ⟨p, rfl, q5, hp, BX⟩
  have cx := BX.cell j
  rw [ints_get _ _ _ _ hj] at cx
  clear BX hp
  have q5H : Hid (Quiet W0 w5) := Quiet.trans (unhide q3H) q5
  have MB5 : Hid (Blk w5 W2.heap.size 34 [.int .i64 0, .int .i64 0, .int .i64 0, .string ⟨#[]⟩]) := q5.blk (unhide MB)
  have NB5 : Hid (Blk w5 w1.heap.size 29 [.string (R 0), .string (R 1), .string (R 2), .int .i64 (wk : Int)]) := q5.blk (unhide NB3)
  have mv0 := (unhide MB5).cell 0
  have mv1 := (unhide MB5).cell 1
  have mv2 := (unhide MB5).cell 2
  have mv3 := (unhide MB5).cell 3
  simp at mv0 mv1 mv2 mv3
  have gB := Quiet.blk (w := W0) (w' := w5) (unhide q5H) (unhide GBH)
  have hB := Quiet.blk (w := W0) (w' := w5) (unhide q5H) (unhide HBH)
  have oB := Quiet.blk (w := W0) (w' := w5) (unhide q5H) (unhide OBH)
  have aB := Quiet.blk (w := W0) (w' := w5) (unhide q5H) (unhide ABH)
  have g0v := gB.cell 0
  have g1v := gB.cell 1
  have g2v := gB.cell 2
  have g3v := gB.cell 3
  have h0v := hB.cell 0
  have h1v := hB.cell 1
  have h2v := hB.cell 2
  have h3v := hB.cell 3
  have o0v := oB.cell 0
  have o1v := oB.cell 1
  have o2v := oB.cell 2
  have o3v := oB.cell 3
  have o4v := oB.cell 4
  have o5v := oB.cell 5
  have a0v := aB.cell 0
  have a1v := aB.cell 1
  have a2v := aB.cell 2
  have a3v := aB.cell 3
  simp at g0v g1v g2v g3v h0v h1v h2v h3v o0v o1v o2v o3v o4v o5v a0v a1v a2v a3v
  clear gB hB oB aB
  have fv := (unhide MB5).frozen
  have q6H : Hid (Quiet W0 (w5.setCell ⟨W2.heap.size, 1, none⟩ (.int .i64 (y j)))) := Chg.setCell (unhide q5H) (p := ⟨W2.heap.size, 1, none⟩) (.inr ((unhide q2H).size)) _
  have MB6 : Hid (Blk (w5.setCell ⟨W2.heap.size, 1, none⟩ (.int .i64 (y j))) W2.heap.size 34 [.int .i64 0, .int .i64 (y j), .int .i64 0, .string ⟨#[]⟩]) := (unhide MB5).set 1 (.int .i64 (y j))
  have NB6 : Hid (Blk (w5.setCell ⟨W2.heap.size, 1, none⟩ (.int .i64 (y j))) w1.heap.size 29 [.string (R 0), .string (R 1), .string (R 2), .int .i64 (wk : Int)]) := (unhide NB5).set_other (a := ⟨W2.heap.size, 1, none⟩) (Nat.ne_of_lt (unhide NB).lt) _
  have gB := Quiet.blk (w := W0) (w' := (w5.setCell ⟨W2.heap.size, 1, none⟩ (.int .i64 (y j)))) (unhide q6H) (unhide GBH)
  have hB := Quiet.blk (w := W0) (w' := (w5.setCell ⟨W2.heap.size, 1, none⟩ (.int .i64 (y j)))) (unhide q6H) (unhide HBH)
  have oB := Quiet.blk (w := W0) (w' := (w5.setCell ⟨W2.heap.size, 1, none⟩ (.int .i64 (y j)))) (unhide q6H) (unhide OBH)
  have aB := Quiet.blk (w := W0) (w' := (w5.setCell ⟨W2.heap.size, 1, none⟩ (.int .i64 (y j)))) (unhide q6H) (unhide ABH)
  have g0u := gB.cell 0
  have g1u := gB.cell 1
  have g2u := gB.cell 2
  have g3u := gB.cell 3
  have h0u := hB.cell 0
  have h1u := hB.cell 1
  have h2u := hB.cell 2
  have h3u := hB.cell 3
  have o0u := oB.cell 0
  have o1u := oB.cell 1
  have o2u := oB.cell 2
  have o3u := oB.cell 3
  have o4u := oB.cell 4
  have o5u := oB.cell 5
  have a0u := aB.cell 0
  have a1u := aB.cell 1
  have a2u := aB.cell 2
  have a3u := aB.cell 3
  simp at g0u g1u g2u g3u h0u h1u h2u h3u o0u o1u o2u o3u o4u o5u a0u a1u a2u a3u
  clear gB hB oB aB
  have mu0 := (unhide MB6).cell 0
  have mu1 := (unhide MB6).cell 1
  have mu2 := (unhide MB6).cell 2
  have mu3 := (unhide MB6).cell 3
  simp at mu0 mu1 mu2 mu3
  have nu0 := (unhide NB6).cell 0
  have nu1 := (unhide NB6).cell 1
  have nu2 := (unhide NB6).cell 2
  have nu3 := (unhide NB6).cell 3
  simp at nu0 nu1 nu2 nu3
  clear q5
  generalize y j = yj at *
  go_wp2
  go_ret
  exact ⟨rfl, Quiet.trans (unhide QH) (unhide q6H)⟩

set_option maxRecDepth 100000 in
set_option maxHeartbeats 8000000 in
theorem kept_load0 (w : World) (R : Nat → ByteArray) (wk : Nat) (b c : Int) (s t : ByteArray) (hOw : Hid (QC w 25 #[.agg #[.string (R 0), .string (R 1), .string (R 2), .int .i64 (wk : Int)], .agg #[.int .i64 1, .int .i64 0, .int .i64 b, .int .i64 c, .string s, .string t]] (.tuple #[.int .i64 0, .int .i64 (wk : Int)]))) :
    Calls Try.prog 12 #[.agg #[.string (R 0), .string (R 1), .string (R 2), .int .i64 (wk : Int)], .agg #[.string s, .string (R 1), .string (R 2), .int .i64 (wk : Int)], .agg #[.int .i64 1, .int .i64 0, .int .i64 b, .int .i64 c, .string s, .string t], .agg #[.int .i64 0, .int .i64 0, .int .i64 0, .string ⟨#[]⟩]] w fun e w' => e = .returned (.bool true) ∧ Quiet w w' := by
  obtain ⟨W0, hW0⟩ : ∃ W0, ((((w.alloc (.cells #[.string (R 0), .string (R 1), .string (R 2), .int .i64 (wk : Int)] 29)).alloc (.cells #[.string s, .string (R 1), .string (R 2), .int .i64 (wk : Int)] 29)).alloc (.cells #[.int .i64 1, .int .i64 0, .int .i64 b, .int .i64 c, .string s, .string t] 31)).alloc (.cells #[.int .i64 0, .int .i64 0, .int .i64 0, .string ⟨#[]⟩] 34)) = W0 := ⟨_, rfl⟩
  obtain ⟨Q0, GB, HB, OB, AB, hsz⟩ := kept_w0 w [.string (R 0), .string (R 1), .string (R 2), .int .i64 (wk : Int)] [.string s, .string (R 1), .string (R 2), .int .i64 (wk : Int)] [.int .i64 1, .int .i64 0, .int .i64 b, .int .i64 c, .string s, .string t] [.int .i64 0, .int .i64 0, .int .i64 0, .string ⟨#[]⟩] W0 hW0
  have QH := hide Q0
  have GBH := hide GB
  have HBH := hide HB
  have OBH := hide OB
  have ABH := hide AB
  have hszH := hide hsz
  clear Q0 GB HB OB AB hsz
  have hX : ∀ X : ByteArray, (X.toList == X.toList) = true := fun X => by simp
  have hEq := eq27
  have gB := Quiet.blk (w := W0) (w' := W0) (Quiet.refl W0) (unhide GBH)
  have hB := Quiet.blk (w := W0) (w' := W0) (Quiet.refl W0) (unhide HBH)
  have oB := Quiet.blk (w := W0) (w' := W0) (Quiet.refl W0) (unhide OBH)
  have aB := Quiet.blk (w := W0) (w' := W0) (Quiet.refl W0) (unhide ABH)
  have g0 := gB.cell 0
  have g1 := gB.cell 1
  have g2 := gB.cell 2
  have g3 := gB.cell 3
  have h0 := hB.cell 0
  have h1 := hB.cell 1
  have h2 := hB.cell 2
  have h3 := hB.cell 3
  have o0 := oB.cell 0
  have o1 := oB.cell 1
  have o2 := oB.cell 2
  have o3 := oB.cell 3
  have o4 := oB.cell 4
  have o5 := oB.cell 5
  have a0 := aB.cell 0
  have a1 := aB.cell 1
  have a2 := aB.cell 2
  have a3 := aB.cell 3
  simp at g0 g1 g2 g3 h0 h1 h2 h3 o0 o1 o2 o3 o4 o5 a0 a1 a2 a3
  clear gB hB oB aB
  unfold QC at *
  go_enter Try.func12, Try.ntmps12
  go_wp2_with fail
  refine (unhide hOw W0 (unhide QH)).mono ?_
  clear hOw
  rintro e w1 ⟨rfl, q1⟩
  have q1H := hide q1
  clear q1
  clear g0 g1 g2 g3 h0 h1 h2 h3 o0 o1 o2 o3 o4 o5 a0 a1 a2 a3
  have gB := Quiet.blk (w := W0) (w' := w1) (unhide q1H) (unhide GBH)
  have hB := Quiet.blk (w := W0) (w' := w1) (unhide q1H) (unhide HBH)
  have oB := Quiet.blk (w := W0) (w' := w1) (unhide q1H) (unhide OBH)
  have aB := Quiet.blk (w := W0) (w' := w1) (unhide q1H) (unhide ABH)
  have g0 := gB.cell 0
  have g1 := gB.cell 1
  have g2 := gB.cell 2
  have g3 := gB.cell 3
  have h0 := hB.cell 0
  have h1 := hB.cell 1
  have h2 := hB.cell 2
  have h3 := hB.cell 3
  have o0 := oB.cell 0
  have o1 := oB.cell 1
  have o2 := oB.cell 2
  have o3 := oB.cell 3
  have o4 := oB.cell 4
  have o5 := oB.cell 5
  have a0 := aB.cell 0
  have a1 := aB.cell 1
  have a2 := aB.cell 2
  have a3 := aB.cell 3
  simp at g0 g1 g2 g3 h0 h1 h2 h3 o0 o1 o2 o3 o4 o5 a0 a1 a2 a3
  clear gB hB oB aB
  obtain ⟨W2, hW2⟩ : ∃ W, ((w1.alloc (.cells #[.string (R 0), .string (R 1), .string (R 2), .int .i64 (wk : Int)] 29)).setCell ⟨w1.heap.size, 3, none⟩ (.int .i64 (wk : Int))) = W := ⟨_, rfl⟩
  have q2H : Hid (Quiet W0 W2) := by rw [← hW2]; exact Chg.setCell (Chg.alloc (unhide q1H) (.cells #[.string (R 0), .string (R 1), .string (R 2), .int .i64 (wk : Int)] 29)) (p := ⟨w1.heap.size, 3, none⟩) (.inr ((unhide q1H).size)) _
  have NB : Hid (Blk W2 w1.heap.size 29 [.string (R 0), .string (R 1), .string (R 2), .int .i64 (wk : Int)]) := by rw [← hW2]; exact (Blk.new w1 29 [.string (R 0), .string (R 1), .string (R 2), .int .i64 (wk : Int)]).set 3 (.int .i64 (wk : Int))
  have gB := Quiet.blk (w := W0) (w' := W2) (unhide q2H) (unhide GBH)
  have hB := Quiet.blk (w := W0) (w' := W2) (unhide q2H) (unhide HBH)
  have oB := Quiet.blk (w := W0) (w' := W2) (unhide q2H) (unhide OBH)
  have aB := Quiet.blk (w := W0) (w' := W2) (unhide q2H) (unhide ABH)
  have g0z := gB.cell 0
  have g1z := gB.cell 1
  have g2z := gB.cell 2
  have g3z := gB.cell 3
  have h0z := hB.cell 0
  have h1z := hB.cell 1
  have h2z := hB.cell 2
  have h3z := hB.cell 3
  have o0z := oB.cell 0
  have o1z := oB.cell 1
  have o2z := oB.cell 2
  have o3z := oB.cell 3
  have o4z := oB.cell 4
  have o5z := oB.cell 5
  have a0z := aB.cell 0
  have a1z := aB.cell 1
  have a2z := aB.cell 2
  have a3z := aB.cell 3
  simp at g0z g1z g2z g3z h0z h1z h2z h3z o0z o1z o2z o3z o4z o5z a0z a1z a2z a3z
  clear gB hB oB aB
  have nz0 := (unhide NB).cell 0
  have nz1 := (unhide NB).cell 1
  have nz2 := (unhide NB).cell 2
  have nz3 := (unhide NB).cell 3
  simp at nz0 nz1 nz2 nz3
  have fN := (unhide NB).frozen
  have cs0 := (Blk.new w1 29 [.string (R 0), .string (R 1), .string (R 2), .int .i64 (wk : Int)]).cell 3
  simp at cs0
  obtain ⟨W5, hW5⟩ : ∃ W, (W2.setCell ⟨w1.heap.size, 0, none⟩ (.string s)) = W := ⟨_, rfl⟩
  have q5H : Hid (Quiet W0 W5) := by rw [← hW5]; exact Chg.setCell (unhide q2H) (p := ⟨w1.heap.size, 0, none⟩) (.inr ((unhide q1H).size)) _
  have NB5 : Hid (Blk W5 w1.heap.size 29 [.string s, .string (R 1), .string (R 2), .int .i64 (wk : Int)]) := by rw [← hW5]; exact (unhide NB).set 0 (.string s)
  have gB := Quiet.blk (w := W0) (w' := W5) (unhide q5H) (unhide GBH)
  have hB := Quiet.blk (w := W0) (w' := W5) (unhide q5H) (unhide HBH)
  have oB := Quiet.blk (w := W0) (w' := W5) (unhide q5H) (unhide OBH)
  have aB := Quiet.blk (w := W0) (w' := W5) (unhide q5H) (unhide ABH)
  have g0v := gB.cell 0
  have g1v := gB.cell 1
  have g2v := gB.cell 2
  have g3v := gB.cell 3
  have h0v := hB.cell 0
  have h1v := hB.cell 1
  have h2v := hB.cell 2
  have h3v := hB.cell 3
  have o0v := oB.cell 0
  have o1v := oB.cell 1
  have o2v := oB.cell 2
  have o3v := oB.cell 3
  have o4v := oB.cell 4
  have o5v := oB.cell 5
  have a0v := aB.cell 0
  have a1v := aB.cell 1
  have a2v := aB.cell 2
  have a3v := aB.cell 3
  simp at g0v g1v g2v g3v h0v h1v h2v h3v o0v o1v o2v o3v o4v o5v a0v a1v a2v a3v
  clear gB hB oB aB
  have nv0 := (unhide NB5).cell 0
  have nv1 := (unhide NB5).cell 1
  have nv2 := (unhide NB5).cell 2
  have nv3 := (unhide NB5).cell 3
  simp at nv0 nv1 nv2 nv3
  have q3H : Hid (Quiet W0 (W5.alloc (.cells #[.int .i64 0, .int .i64 0, .int .i64 0, .string ⟨#[]⟩] 34))) := Chg.alloc (unhide q5H) _
  have MB : Hid (Blk (W5.alloc (.cells #[.int .i64 0, .int .i64 0, .int .i64 0, .string ⟨#[]⟩] 34)) W5.heap.size 34 [.int .i64 0, .int .i64 0, .int .i64 0, .string ⟨#[]⟩]) := Blk.new W5 34 [.int .i64 0, .int .i64 0, .int .i64 0, .string ⟨#[]⟩]
  have NB3 : Hid (Blk (W5.alloc (.cells #[.int .i64 0, .int .i64 0, .int .i64 0, .string ⟨#[]⟩] 34)) w1.heap.size 29 [.string s, .string (R 1), .string (R 2), .int .i64 (wk : Int)]) := (unhide NB5).alloc _
  have gB := Quiet.blk (w := W0) (w' := (W5.alloc (.cells #[.int .i64 0, .int .i64 0, .int .i64 0, .string ⟨#[]⟩] 34))) (unhide q3H) (unhide GBH)
  have hB := Quiet.blk (w := W0) (w' := (W5.alloc (.cells #[.int .i64 0, .int .i64 0, .int .i64 0, .string ⟨#[]⟩] 34))) (unhide q3H) (unhide HBH)
  have oB := Quiet.blk (w := W0) (w' := (W5.alloc (.cells #[.int .i64 0, .int .i64 0, .int .i64 0, .string ⟨#[]⟩] 34))) (unhide q3H) (unhide OBH)
  have aB := Quiet.blk (w := W0) (w' := (W5.alloc (.cells #[.int .i64 0, .int .i64 0, .int .i64 0, .string ⟨#[]⟩] 34))) (unhide q3H) (unhide ABH)
  have g0x := gB.cell 0
  have g1x := gB.cell 1
  have g2x := gB.cell 2
  have g3x := gB.cell 3
  have h0x := hB.cell 0
  have h1x := hB.cell 1
  have h2x := hB.cell 2
  have h3x := hB.cell 3
  have o0x := oB.cell 0
  have o1x := oB.cell 1
  have o2x := oB.cell 2
  have o3x := oB.cell 3
  have o4x := oB.cell 4
  have o5x := oB.cell 5
  have a0x := aB.cell 0
  have a1x := aB.cell 1
  have a2x := aB.cell 2
  have a3x := aB.cell 3
  simp at g0x g1x g2x g3x h0x h1x h2x h3x o0x o1x o2x o3x o4x o5x a0x a1x a2x a3x
  clear gB hB oB aB
  have nx0 := (unhide NB3).cell 0
  have nx1 := (unhide NB3).cell 1
  have nx2 := (unhide NB3).cell 2
  have nx3 := (unhide NB3).cell 3
  simp at nx0 nx1 nx2 nx3
  have mx0 := (unhide MB).cell 0
  have mx1 := (unhide MB).cell 1
  have mx2 := (unhide MB).cell 2
  have mx3 := (unhide MB).cell 3
  simp at mx0 mx1 mx2 mx3
  go_wp2
  go_ret
  exact ⟨rfl, Quiet.trans (unhide QH) (unhide q3H)⟩

set_option maxRecDepth 100000 in
set_option maxHeartbeats 8000000 in
theorem kept_load1 (w : World) (R : Nat → ByteArray) (wk : Nat) (b c : Int) (s t : ByteArray) (hOw : Hid (QC w 25 #[.agg #[.string (R 0), .string (R 1), .string (R 2), .int .i64 (wk : Int)], .agg #[.int .i64 1, .int .i64 1, .int .i64 b, .int .i64 c, .string s, .string t]] (.tuple #[.int .i64 0, .int .i64 (wk : Int)]))) :
    Calls Try.prog 12 #[.agg #[.string (R 0), .string (R 1), .string (R 2), .int .i64 (wk : Int)], .agg #[.string (R 0), .string s, .string (R 2), .int .i64 (wk : Int)], .agg #[.int .i64 1, .int .i64 1, .int .i64 b, .int .i64 c, .string s, .string t], .agg #[.int .i64 0, .int .i64 0, .int .i64 0, .string ⟨#[]⟩]] w fun e w' => e = .returned (.bool true) ∧ Quiet w w' := by
  obtain ⟨W0, hW0⟩ : ∃ W0, ((((w.alloc (.cells #[.string (R 0), .string (R 1), .string (R 2), .int .i64 (wk : Int)] 29)).alloc (.cells #[.string (R 0), .string s, .string (R 2), .int .i64 (wk : Int)] 29)).alloc (.cells #[.int .i64 1, .int .i64 1, .int .i64 b, .int .i64 c, .string s, .string t] 31)).alloc (.cells #[.int .i64 0, .int .i64 0, .int .i64 0, .string ⟨#[]⟩] 34)) = W0 := ⟨_, rfl⟩
  obtain ⟨Q0, GB, HB, OB, AB, hsz⟩ := kept_w0 w [.string (R 0), .string (R 1), .string (R 2), .int .i64 (wk : Int)] [.string (R 0), .string s, .string (R 2), .int .i64 (wk : Int)] [.int .i64 1, .int .i64 1, .int .i64 b, .int .i64 c, .string s, .string t] [.int .i64 0, .int .i64 0, .int .i64 0, .string ⟨#[]⟩] W0 hW0
  have QH := hide Q0
  have GBH := hide GB
  have HBH := hide HB
  have OBH := hide OB
  have ABH := hide AB
  have hszH := hide hsz
  clear Q0 GB HB OB AB hsz
  have hX : ∀ X : ByteArray, (X.toList == X.toList) = true := fun X => by simp
  have hEq := eq27
  have gB := Quiet.blk (w := W0) (w' := W0) (Quiet.refl W0) (unhide GBH)
  have hB := Quiet.blk (w := W0) (w' := W0) (Quiet.refl W0) (unhide HBH)
  have oB := Quiet.blk (w := W0) (w' := W0) (Quiet.refl W0) (unhide OBH)
  have aB := Quiet.blk (w := W0) (w' := W0) (Quiet.refl W0) (unhide ABH)
  have g0 := gB.cell 0
  have g1 := gB.cell 1
  have g2 := gB.cell 2
  have g3 := gB.cell 3
  have h0 := hB.cell 0
  have h1 := hB.cell 1
  have h2 := hB.cell 2
  have h3 := hB.cell 3
  have o0 := oB.cell 0
  have o1 := oB.cell 1
  have o2 := oB.cell 2
  have o3 := oB.cell 3
  have o4 := oB.cell 4
  have o5 := oB.cell 5
  have a0 := aB.cell 0
  have a1 := aB.cell 1
  have a2 := aB.cell 2
  have a3 := aB.cell 3
  simp at g0 g1 g2 g3 h0 h1 h2 h3 o0 o1 o2 o3 o4 o5 a0 a1 a2 a3
  clear gB hB oB aB
  unfold QC at *
  go_enter Try.func12, Try.ntmps12
  go_wp2_with fail
  refine (unhide hOw W0 (unhide QH)).mono ?_
  clear hOw
  rintro e w1 ⟨rfl, q1⟩
  have q1H := hide q1
  clear q1
  clear g0 g1 g2 g3 h0 h1 h2 h3 o0 o1 o2 o3 o4 o5 a0 a1 a2 a3
  have gB := Quiet.blk (w := W0) (w' := w1) (unhide q1H) (unhide GBH)
  have hB := Quiet.blk (w := W0) (w' := w1) (unhide q1H) (unhide HBH)
  have oB := Quiet.blk (w := W0) (w' := w1) (unhide q1H) (unhide OBH)
  have aB := Quiet.blk (w := W0) (w' := w1) (unhide q1H) (unhide ABH)
  have g0 := gB.cell 0
  have g1 := gB.cell 1
  have g2 := gB.cell 2
  have g3 := gB.cell 3
  have h0 := hB.cell 0
  have h1 := hB.cell 1
  have h2 := hB.cell 2
  have h3 := hB.cell 3
  have o0 := oB.cell 0
  have o1 := oB.cell 1
  have o2 := oB.cell 2
  have o3 := oB.cell 3
  have o4 := oB.cell 4
  have o5 := oB.cell 5
  have a0 := aB.cell 0
  have a1 := aB.cell 1
  have a2 := aB.cell 2
  have a3 := aB.cell 3
  simp at g0 g1 g2 g3 h0 h1 h2 h3 o0 o1 o2 o3 o4 o5 a0 a1 a2 a3
  clear gB hB oB aB
  obtain ⟨W2, hW2⟩ : ∃ W, ((w1.alloc (.cells #[.string (R 0), .string (R 1), .string (R 2), .int .i64 (wk : Int)] 29)).setCell ⟨w1.heap.size, 3, none⟩ (.int .i64 (wk : Int))) = W := ⟨_, rfl⟩
  have q2H : Hid (Quiet W0 W2) := by rw [← hW2]; exact Chg.setCell (Chg.alloc (unhide q1H) (.cells #[.string (R 0), .string (R 1), .string (R 2), .int .i64 (wk : Int)] 29)) (p := ⟨w1.heap.size, 3, none⟩) (.inr ((unhide q1H).size)) _
  have NB : Hid (Blk W2 w1.heap.size 29 [.string (R 0), .string (R 1), .string (R 2), .int .i64 (wk : Int)]) := by rw [← hW2]; exact (Blk.new w1 29 [.string (R 0), .string (R 1), .string (R 2), .int .i64 (wk : Int)]).set 3 (.int .i64 (wk : Int))
  have gB := Quiet.blk (w := W0) (w' := W2) (unhide q2H) (unhide GBH)
  have hB := Quiet.blk (w := W0) (w' := W2) (unhide q2H) (unhide HBH)
  have oB := Quiet.blk (w := W0) (w' := W2) (unhide q2H) (unhide OBH)
  have aB := Quiet.blk (w := W0) (w' := W2) (unhide q2H) (unhide ABH)
  have g0z := gB.cell 0
  have g1z := gB.cell 1
  have g2z := gB.cell 2
  have g3z := gB.cell 3
  have h0z := hB.cell 0
  have h1z := hB.cell 1
  have h2z := hB.cell 2
  have h3z := hB.cell 3
  have o0z := oB.cell 0
  have o1z := oB.cell 1
  have o2z := oB.cell 2
  have o3z := oB.cell 3
  have o4z := oB.cell 4
  have o5z := oB.cell 5
  have a0z := aB.cell 0
  have a1z := aB.cell 1
  have a2z := aB.cell 2
  have a3z := aB.cell 3
  simp at g0z g1z g2z g3z h0z h1z h2z h3z o0z o1z o2z o3z o4z o5z a0z a1z a2z a3z
  clear gB hB oB aB
  have nz0 := (unhide NB).cell 0
  have nz1 := (unhide NB).cell 1
  have nz2 := (unhide NB).cell 2
  have nz3 := (unhide NB).cell 3
  simp at nz0 nz1 nz2 nz3
  have fN := (unhide NB).frozen
  have cs0 := (Blk.new w1 29 [.string (R 0), .string (R 1), .string (R 2), .int .i64 (wk : Int)]).cell 3
  simp at cs0
  obtain ⟨W5, hW5⟩ : ∃ W, (W2.setCell ⟨w1.heap.size, 1, none⟩ (.string s)) = W := ⟨_, rfl⟩
  have q5H : Hid (Quiet W0 W5) := by rw [← hW5]; exact Chg.setCell (unhide q2H) (p := ⟨w1.heap.size, 1, none⟩) (.inr ((unhide q1H).size)) _
  have NB5 : Hid (Blk W5 w1.heap.size 29 [.string (R 0), .string s, .string (R 2), .int .i64 (wk : Int)]) := by rw [← hW5]; exact (unhide NB).set 1 (.string s)
  have gB := Quiet.blk (w := W0) (w' := W5) (unhide q5H) (unhide GBH)
  have hB := Quiet.blk (w := W0) (w' := W5) (unhide q5H) (unhide HBH)
  have oB := Quiet.blk (w := W0) (w' := W5) (unhide q5H) (unhide OBH)
  have aB := Quiet.blk (w := W0) (w' := W5) (unhide q5H) (unhide ABH)
  have g0v := gB.cell 0
  have g1v := gB.cell 1
  have g2v := gB.cell 2
  have g3v := gB.cell 3
  have h0v := hB.cell 0
  have h1v := hB.cell 1
  have h2v := hB.cell 2
  have h3v := hB.cell 3
  have o0v := oB.cell 0
  have o1v := oB.cell 1
  have o2v := oB.cell 2
  have o3v := oB.cell 3
  have o4v := oB.cell 4
  have o5v := oB.cell 5
  have a0v := aB.cell 0
  have a1v := aB.cell 1
  have a2v := aB.cell 2
  have a3v := aB.cell 3
  simp at g0v g1v g2v g3v h0v h1v h2v h3v o0v o1v o2v o3v o4v o5v a0v a1v a2v a3v
  clear gB hB oB aB
  have nv0 := (unhide NB5).cell 0
  have nv1 := (unhide NB5).cell 1
  have nv2 := (unhide NB5).cell 2
  have nv3 := (unhide NB5).cell 3
  simp at nv0 nv1 nv2 nv3
  have q3H : Hid (Quiet W0 (W5.alloc (.cells #[.int .i64 0, .int .i64 0, .int .i64 0, .string ⟨#[]⟩] 34))) := Chg.alloc (unhide q5H) _
  have MB : Hid (Blk (W5.alloc (.cells #[.int .i64 0, .int .i64 0, .int .i64 0, .string ⟨#[]⟩] 34)) W5.heap.size 34 [.int .i64 0, .int .i64 0, .int .i64 0, .string ⟨#[]⟩]) := Blk.new W5 34 [.int .i64 0, .int .i64 0, .int .i64 0, .string ⟨#[]⟩]
  have NB3 : Hid (Blk (W5.alloc (.cells #[.int .i64 0, .int .i64 0, .int .i64 0, .string ⟨#[]⟩] 34)) w1.heap.size 29 [.string (R 0), .string s, .string (R 2), .int .i64 (wk : Int)]) := (unhide NB5).alloc _
  have gB := Quiet.blk (w := W0) (w' := (W5.alloc (.cells #[.int .i64 0, .int .i64 0, .int .i64 0, .string ⟨#[]⟩] 34))) (unhide q3H) (unhide GBH)
  have hB := Quiet.blk (w := W0) (w' := (W5.alloc (.cells #[.int .i64 0, .int .i64 0, .int .i64 0, .string ⟨#[]⟩] 34))) (unhide q3H) (unhide HBH)
  have oB := Quiet.blk (w := W0) (w' := (W5.alloc (.cells #[.int .i64 0, .int .i64 0, .int .i64 0, .string ⟨#[]⟩] 34))) (unhide q3H) (unhide OBH)
  have aB := Quiet.blk (w := W0) (w' := (W5.alloc (.cells #[.int .i64 0, .int .i64 0, .int .i64 0, .string ⟨#[]⟩] 34))) (unhide q3H) (unhide ABH)
  have g0x := gB.cell 0
  have g1x := gB.cell 1
  have g2x := gB.cell 2
  have g3x := gB.cell 3
  have h0x := hB.cell 0
  have h1x := hB.cell 1
  have h2x := hB.cell 2
  have h3x := hB.cell 3
  have o0x := oB.cell 0
  have o1x := oB.cell 1
  have o2x := oB.cell 2
  have o3x := oB.cell 3
  have o4x := oB.cell 4
  have o5x := oB.cell 5
  have a0x := aB.cell 0
  have a1x := aB.cell 1
  have a2x := aB.cell 2
  have a3x := aB.cell 3
  simp at g0x g1x g2x g3x h0x h1x h2x h3x o0x o1x o2x o3x o4x o5x a0x a1x a2x a3x
  clear gB hB oB aB
  have nx0 := (unhide NB3).cell 0
  have nx1 := (unhide NB3).cell 1
  have nx2 := (unhide NB3).cell 2
  have nx3 := (unhide NB3).cell 3
  simp at nx0 nx1 nx2 nx3
  have mx0 := (unhide MB).cell 0
  have mx1 := (unhide MB).cell 1
  have mx2 := (unhide MB).cell 2
  have mx3 := (unhide MB).cell 3
  simp at mx0 mx1 mx2 mx3
  go_wp2
  go_ret
  exact ⟨rfl, Quiet.trans (unhide QH) (unhide q3H)⟩

set_option maxRecDepth 100000 in
set_option maxHeartbeats 8000000 in
theorem kept_load2 (w : World) (R : Nat → ByteArray) (wk : Nat) (b c : Int) (s t : ByteArray) (hOw : Hid (QC w 25 #[.agg #[.string (R 0), .string (R 1), .string (R 2), .int .i64 (wk : Int)], .agg #[.int .i64 1, .int .i64 2, .int .i64 b, .int .i64 c, .string s, .string t]] (.tuple #[.int .i64 0, .int .i64 (wk : Int)]))) :
    Calls Try.prog 12 #[.agg #[.string (R 0), .string (R 1), .string (R 2), .int .i64 (wk : Int)], .agg #[.string (R 0), .string (R 1), .string s, .int .i64 (wk : Int)], .agg #[.int .i64 1, .int .i64 2, .int .i64 b, .int .i64 c, .string s, .string t], .agg #[.int .i64 0, .int .i64 0, .int .i64 0, .string ⟨#[]⟩]] w fun e w' => e = .returned (.bool true) ∧ Quiet w w' := by
  obtain ⟨W0, hW0⟩ : ∃ W0, ((((w.alloc (.cells #[.string (R 0), .string (R 1), .string (R 2), .int .i64 (wk : Int)] 29)).alloc (.cells #[.string (R 0), .string (R 1), .string s, .int .i64 (wk : Int)] 29)).alloc (.cells #[.int .i64 1, .int .i64 2, .int .i64 b, .int .i64 c, .string s, .string t] 31)).alloc (.cells #[.int .i64 0, .int .i64 0, .int .i64 0, .string ⟨#[]⟩] 34)) = W0 := ⟨_, rfl⟩
  obtain ⟨Q0, GB, HB, OB, AB, hsz⟩ := kept_w0 w [.string (R 0), .string (R 1), .string (R 2), .int .i64 (wk : Int)] [.string (R 0), .string (R 1), .string s, .int .i64 (wk : Int)] [.int .i64 1, .int .i64 2, .int .i64 b, .int .i64 c, .string s, .string t] [.int .i64 0, .int .i64 0, .int .i64 0, .string ⟨#[]⟩] W0 hW0
  have QH := hide Q0
  have GBH := hide GB
  have HBH := hide HB
  have OBH := hide OB
  have ABH := hide AB
  have hszH := hide hsz
  clear Q0 GB HB OB AB hsz
  have hX : ∀ X : ByteArray, (X.toList == X.toList) = true := fun X => by simp
  have hEq := eq27
  have gB := Quiet.blk (w := W0) (w' := W0) (Quiet.refl W0) (unhide GBH)
  have hB := Quiet.blk (w := W0) (w' := W0) (Quiet.refl W0) (unhide HBH)
  have oB := Quiet.blk (w := W0) (w' := W0) (Quiet.refl W0) (unhide OBH)
  have aB := Quiet.blk (w := W0) (w' := W0) (Quiet.refl W0) (unhide ABH)
  have g0 := gB.cell 0
  have g1 := gB.cell 1
  have g2 := gB.cell 2
  have g3 := gB.cell 3
  have h0 := hB.cell 0
  have h1 := hB.cell 1
  have h2 := hB.cell 2
  have h3 := hB.cell 3
  have o0 := oB.cell 0
  have o1 := oB.cell 1
  have o2 := oB.cell 2
  have o3 := oB.cell 3
  have o4 := oB.cell 4
  have o5 := oB.cell 5
  have a0 := aB.cell 0
  have a1 := aB.cell 1
  have a2 := aB.cell 2
  have a3 := aB.cell 3
  simp at g0 g1 g2 g3 h0 h1 h2 h3 o0 o1 o2 o3 o4 o5 a0 a1 a2 a3
  clear gB hB oB aB
  unfold QC at *
  go_enter Try.func12, Try.ntmps12
  go_wp2_with fail
  refine (unhide hOw W0 (unhide QH)).mono ?_
  clear hOw
  rintro e w1 ⟨rfl, q1⟩
  have q1H := hide q1
  clear q1
  clear g0 g1 g2 g3 h0 h1 h2 h3 o0 o1 o2 o3 o4 o5 a0 a1 a2 a3
  have gB := Quiet.blk (w := W0) (w' := w1) (unhide q1H) (unhide GBH)
  have hB := Quiet.blk (w := W0) (w' := w1) (unhide q1H) (unhide HBH)
  have oB := Quiet.blk (w := W0) (w' := w1) (unhide q1H) (unhide OBH)
  have aB := Quiet.blk (w := W0) (w' := w1) (unhide q1H) (unhide ABH)
  have g0 := gB.cell 0
  have g1 := gB.cell 1
  have g2 := gB.cell 2
  have g3 := gB.cell 3
  have h0 := hB.cell 0
  have h1 := hB.cell 1
  have h2 := hB.cell 2
  have h3 := hB.cell 3
  have o0 := oB.cell 0
  have o1 := oB.cell 1
  have o2 := oB.cell 2
  have o3 := oB.cell 3
  have o4 := oB.cell 4
  have o5 := oB.cell 5
  have a0 := aB.cell 0
  have a1 := aB.cell 1
  have a2 := aB.cell 2
  have a3 := aB.cell 3
  simp at g0 g1 g2 g3 h0 h1 h2 h3 o0 o1 o2 o3 o4 o5 a0 a1 a2 a3
  clear gB hB oB aB
  obtain ⟨W2, hW2⟩ : ∃ W, ((w1.alloc (.cells #[.string (R 0), .string (R 1), .string (R 2), .int .i64 (wk : Int)] 29)).setCell ⟨w1.heap.size, 3, none⟩ (.int .i64 (wk : Int))) = W := ⟨_, rfl⟩
  have q2H : Hid (Quiet W0 W2) := by rw [← hW2]; exact Chg.setCell (Chg.alloc (unhide q1H) (.cells #[.string (R 0), .string (R 1), .string (R 2), .int .i64 (wk : Int)] 29)) (p := ⟨w1.heap.size, 3, none⟩) (.inr ((unhide q1H).size)) _
  have NB : Hid (Blk W2 w1.heap.size 29 [.string (R 0), .string (R 1), .string (R 2), .int .i64 (wk : Int)]) := by rw [← hW2]; exact (Blk.new w1 29 [.string (R 0), .string (R 1), .string (R 2), .int .i64 (wk : Int)]).set 3 (.int .i64 (wk : Int))
  have gB := Quiet.blk (w := W0) (w' := W2) (unhide q2H) (unhide GBH)
  have hB := Quiet.blk (w := W0) (w' := W2) (unhide q2H) (unhide HBH)
  have oB := Quiet.blk (w := W0) (w' := W2) (unhide q2H) (unhide OBH)
  have aB := Quiet.blk (w := W0) (w' := W2) (unhide q2H) (unhide ABH)
  have g0z := gB.cell 0
  have g1z := gB.cell 1
  have g2z := gB.cell 2
  have g3z := gB.cell 3
  have h0z := hB.cell 0
  have h1z := hB.cell 1
  have h2z := hB.cell 2
  have h3z := hB.cell 3
  have o0z := oB.cell 0
  have o1z := oB.cell 1
  have o2z := oB.cell 2
  have o3z := oB.cell 3
  have o4z := oB.cell 4
  have o5z := oB.cell 5
  have a0z := aB.cell 0
  have a1z := aB.cell 1
  have a2z := aB.cell 2
  have a3z := aB.cell 3
  simp at g0z g1z g2z g3z h0z h1z h2z h3z o0z o1z o2z o3z o4z o5z a0z a1z a2z a3z
  clear gB hB oB aB
  have nz0 := (unhide NB).cell 0
  have nz1 := (unhide NB).cell 1
  have nz2 := (unhide NB).cell 2
  have nz3 := (unhide NB).cell 3
  simp at nz0 nz1 nz2 nz3
  have fN := (unhide NB).frozen
  have cs0 := (Blk.new w1 29 [.string (R 0), .string (R 1), .string (R 2), .int .i64 (wk : Int)]).cell 3
  simp at cs0
  obtain ⟨W5, hW5⟩ : ∃ W, (W2.setCell ⟨w1.heap.size, 2, none⟩ (.string s)) = W := ⟨_, rfl⟩
  have q5H : Hid (Quiet W0 W5) := by rw [← hW5]; exact Chg.setCell (unhide q2H) (p := ⟨w1.heap.size, 2, none⟩) (.inr ((unhide q1H).size)) _
  have NB5 : Hid (Blk W5 w1.heap.size 29 [.string (R 0), .string (R 1), .string s, .int .i64 (wk : Int)]) := by rw [← hW5]; exact (unhide NB).set 2 (.string s)
  have gB := Quiet.blk (w := W0) (w' := W5) (unhide q5H) (unhide GBH)
  have hB := Quiet.blk (w := W0) (w' := W5) (unhide q5H) (unhide HBH)
  have oB := Quiet.blk (w := W0) (w' := W5) (unhide q5H) (unhide OBH)
  have aB := Quiet.blk (w := W0) (w' := W5) (unhide q5H) (unhide ABH)
  have g0v := gB.cell 0
  have g1v := gB.cell 1
  have g2v := gB.cell 2
  have g3v := gB.cell 3
  have h0v := hB.cell 0
  have h1v := hB.cell 1
  have h2v := hB.cell 2
  have h3v := hB.cell 3
  have o0v := oB.cell 0
  have o1v := oB.cell 1
  have o2v := oB.cell 2
  have o3v := oB.cell 3
  have o4v := oB.cell 4
  have o5v := oB.cell 5
  have a0v := aB.cell 0
  have a1v := aB.cell 1
  have a2v := aB.cell 2
  have a3v := aB.cell 3
  simp at g0v g1v g2v g3v h0v h1v h2v h3v o0v o1v o2v o3v o4v o5v a0v a1v a2v a3v
  clear gB hB oB aB
  have nv0 := (unhide NB5).cell 0
  have nv1 := (unhide NB5).cell 1
  have nv2 := (unhide NB5).cell 2
  have nv3 := (unhide NB5).cell 3
  simp at nv0 nv1 nv2 nv3
  have q3H : Hid (Quiet W0 (W5.alloc (.cells #[.int .i64 0, .int .i64 0, .int .i64 0, .string ⟨#[]⟩] 34))) := Chg.alloc (unhide q5H) _
  have MB : Hid (Blk (W5.alloc (.cells #[.int .i64 0, .int .i64 0, .int .i64 0, .string ⟨#[]⟩] 34)) W5.heap.size 34 [.int .i64 0, .int .i64 0, .int .i64 0, .string ⟨#[]⟩]) := Blk.new W5 34 [.int .i64 0, .int .i64 0, .int .i64 0, .string ⟨#[]⟩]
  have NB3 : Hid (Blk (W5.alloc (.cells #[.int .i64 0, .int .i64 0, .int .i64 0, .string ⟨#[]⟩] 34)) w1.heap.size 29 [.string (R 0), .string (R 1), .string s, .int .i64 (wk : Int)]) := (unhide NB5).alloc _
  have gB := Quiet.blk (w := W0) (w' := (W5.alloc (.cells #[.int .i64 0, .int .i64 0, .int .i64 0, .string ⟨#[]⟩] 34))) (unhide q3H) (unhide GBH)
  have hB := Quiet.blk (w := W0) (w' := (W5.alloc (.cells #[.int .i64 0, .int .i64 0, .int .i64 0, .string ⟨#[]⟩] 34))) (unhide q3H) (unhide HBH)
  have oB := Quiet.blk (w := W0) (w' := (W5.alloc (.cells #[.int .i64 0, .int .i64 0, .int .i64 0, .string ⟨#[]⟩] 34))) (unhide q3H) (unhide OBH)
  have aB := Quiet.blk (w := W0) (w' := (W5.alloc (.cells #[.int .i64 0, .int .i64 0, .int .i64 0, .string ⟨#[]⟩] 34))) (unhide q3H) (unhide ABH)
  have g0x := gB.cell 0
  have g1x := gB.cell 1
  have g2x := gB.cell 2
  have g3x := gB.cell 3
  have h0x := hB.cell 0
  have h1x := hB.cell 1
  have h2x := hB.cell 2
  have h3x := hB.cell 3
  have o0x := oB.cell 0
  have o1x := oB.cell 1
  have o2x := oB.cell 2
  have o3x := oB.cell 3
  have o4x := oB.cell 4
  have o5x := oB.cell 5
  have a0x := aB.cell 0
  have a1x := aB.cell 1
  have a2x := aB.cell 2
  have a3x := aB.cell 3
  simp at g0x g1x g2x g3x h0x h1x h2x h3x o0x o1x o2x o3x o4x o5x a0x a1x a2x a3x
  clear gB hB oB aB
  have nx0 := (unhide NB3).cell 0
  have nx1 := (unhide NB3).cell 1
  have nx2 := (unhide NB3).cell 2
  have nx3 := (unhide NB3).cell 3
  simp at nx0 nx1 nx2 nx3
  have mx0 := (unhide MB).cell 0
  have mx1 := (unhide MB).cell 1
  have mx2 := (unhide MB).cell 2
  have mx3 := (unhide MB).cell 3
  simp at mx0 mx1 mx2 mx3
  go_wp2
  go_ret
  exact ⟨rfl, Quiet.trans (unhide QH) (unhide q3H)⟩
end Go.Proofs.Qxb6500368a
