/-
  KEEPS: Kept, kind by kind, over whatever its callees answer. (gen8kkept.py)
-/
import Derived.Test.Qxb6500368aKKept
import Derived.ChangeKeysEq
namespace Go.Proofs.Qxb6500368a
open Go.RowKit Go.Qx
set_option linter.unusedVariables false
set_option linter.unusedSimpArgs false

set_option maxRecDepth 100000 in
set_option maxHeartbeats 8000000 in
theorem kept_iv0 (w : World) (R : Nat → ByteArray) (wk : Nat) (b c : Int) (sp : Nat) (Y : ByteArray) (s t : ByteArray) (hOw : Hid (QC w 25 #[.agg #[.string (R 0), .string (R 1), .string (R 2), .int .i64 (wk : Int)], .agg #[.int .i64 4, .int .i64 0, .int .i64 b, .int .i64 c, .string s, .string t]] (.tuple #[.int .i64 0, .int .i64 (sp : Int)]))) (hSum : Hid (QC w 26 #[.string Y] (.string (R 0)))) :
    Calls Try.prog 12 #[.agg #[.string (R 0), .string (R 1), .string (R 2), .int .i64 (wk : Int)], .agg #[.string Y, .string (R 1), .string (R 2), .int .i64 (sp : Int)], .agg #[.int .i64 4, .int .i64 0, .int .i64 b, .int .i64 c, .string s, .string t], .agg #[.int .i64 0, .int .i64 0, .int .i64 0, .string ⟨#[]⟩]] w fun e w' => e = .returned (.bool true) ∧ Quiet w w' := by
  obtain ⟨W0, hW0⟩ : ∃ W0, ((((w.alloc (.cells #[.string (R 0), .string (R 1), .string (R 2), .int .i64 (wk : Int)] 29)).alloc (.cells #[.string Y, .string (R 1), .string (R 2), .int .i64 (sp : Int)] 29)).alloc (.cells #[.int .i64 4, .int .i64 0, .int .i64 b, .int .i64 c, .string s, .string t] 31)).alloc (.cells #[.int .i64 0, .int .i64 0, .int .i64 0, .string ⟨#[]⟩] 34)) = W0 := ⟨_, rfl⟩
  obtain ⟨Q0, GB, HB, OB, AB, hsz⟩ := kept_w0 w [.string (R 0), .string (R 1), .string (R 2), .int .i64 (wk : Int)] [.string Y, .string (R 1), .string (R 2), .int .i64 (sp : Int)] [.int .i64 4, .int .i64 0, .int .i64 b, .int .i64 c, .string s, .string t] [.int .i64 0, .int .i64 0, .int .i64 0, .string ⟨#[]⟩] W0 hW0
  have QH := hide Q0
  have GBH := hide GB
  have HBH := hide HB
  have OBH := hide OB
  have ABH := hide AB
  have hszH := hide hsz
  clear Q0 GB HB OB AB hsz
  have hX : ∀ X : ByteArray, (X.toList == X.toList) = true := fun X => by simp
  have hEq := eq27
  have gB := Quiet.blk (w := W0) (w' := W0) (Quiet.refl W0) (unhide GBH)
  have hB := Quiet.blk (w := W0) (w' := W0) (Quiet.refl W0) (unhide HBH)
  have oB := Quiet.blk (w := W0) (w' := W0) (Quiet.refl W0) (unhide OBH)
  have aB := Quiet.blk (w := W0) (w' := W0) (Quiet.refl W0) (unhide ABH)
  have g0 := gB.cell 0
  have g1 := gB.cell 1
  have g2 := gB.cell 2
  have g3 := gB.cell 3
  have h0 := hB.cell 0
  have h1 := hB.cell 1
  have h2 := hB.cell 2
  have h3 := hB.cell 3
  have o0 := oB.cell 0
  have o1 := oB.cell 1
  have o2 := oB.cell 2
  have o3 := oB.cell 3
  have o4 := oB.cell 4
  have o5 := oB.cell 5
  have a0 := aB.cell 0
  have a1 := aB.cell 1
  have a2 := aB.cell 2
  have a3 := aB.cell 3
  simp at g0 g1 g2 g3 h0 h1 h2 h3 o0 o1 o2 o3 o4 o5 a0 a1 a2 a3
  clear gB hB oB aB
  unfold QC at *
  go_enter Try.func12, Try.ntmps12
  go_wp2_with fail
  refine (unhide hOw W0 (unhide QH)).mono ?_
  clear hOw
  rintro e w1 ⟨rfl, q1⟩
  have q1H := hide q1
  clear q1
  clear g0 g1 g2 g3 h0 h1 h2 h3 o0 o1 o2 o3 o4 o5 a0 a1 a2 a3
  have gB := Quiet.blk (w := W0) (w' := w1) (unhide q1H) (unhide GBH)
  have hB := Quiet.blk (w := W0) (w' := w1) (unhide q1H) (unhide HBH)
  have oB := Quiet.blk (w := W0) (w' := w1) (unhide q1H) (unhide OBH)
  have aB := Quiet.blk (w := W0) (w' := w1) (unhide q1H) (unhide ABH)
  have g0 := gB.cell 0
  have g1 := gB.cell 1
  have g2 := gB.cell 2
  have g3 := gB.cell 3
  have h0 := hB.cell 0
  have h1 := hB.cell 1
  have h2 := hB.cell 2
  have h3 := hB.cell 3
  have o0 := oB.cell 0
  have o1 := oB.cell 1
  have o2 := oB.cell 2
  have o3 := oB.cell 3
  have o4 := oB.cell 4
  have o5 := oB.cell 5
  have a0 := aB.cell 0
  have a1 := aB.cell 1
  have a2 := aB.cell 2
  have a3 := aB.cell 3
  simp at g0 g1 g2 g3 h0 h1 h2 h3 o0 o1 o2 o3 o4 o5 a0 a1 a2 a3
  clear gB hB oB aB
  obtain ⟨W2, hW2⟩ : ∃ W, ((w1.alloc (.cells #[.string (R 0), .string (R 1), .string (R 2), .int .i64 (wk : Int)] 29)).setCell ⟨w1.heap.size, 3, none⟩ (.int .i64 (sp : Int))) = W := ⟨_, rfl⟩
  have q2H : Hid (Quiet W0 W2) := by rw [← hW2]; exact Chg.setCell (Chg.alloc (unhide q1H) (.cells #[.string (R 0), .string (R 1), .string (R 2), .int .i64 (wk : Int)] 29)) (p := ⟨w1.heap.size, 3, none⟩) (.inr ((unhide q1H).size)) _
  have NB : Hid (Blk W2 w1.heap.size 29 [.string (R 0), .string (R 1), .string (R 2), .int .i64 (sp : Int)]) := by rw [← hW2]; exact (Blk.new w1 29 [.string (R 0), .string (R 1), .string (R 2), .int .i64 (wk : Int)]).set 3 (.int .i64 (sp : Int))
  have gB := Quiet.blk (w := W0) (w' := W2) (unhide q2H) (unhide GBH)
  have hB := Quiet.blk (w := W0) (w' := W2) (unhide q2H) (unhide HBH)
  have oB := Quiet.blk (w := W0) (w' := W2) (unhide q2H) (unhide OBH)
  have aB := Quiet.blk (w := W0) (w' := W2) (unhide q2H) (unhide ABH)
  have g0z := gB.cell 0
  have g1z := gB.cell 1
  have g2z := gB.cell 2
  have g3z := gB.cell 3
  have h0z := hB.cell 0
  have h1z := hB.cell 1
  have h2z := hB.cell 2
  have h3z := hB.cell 3
  have o0z := oB.cell 0
  have o1z := oB.cell 1
  have o2z := oB.cell 2
  have o3z := oB.cell 3
  have o4z := oB.cell 4
  have o5z := oB.cell 5
  have a0z := aB.cell 0
  have a1z := aB.cell 1
  have a2z := aB.cell 2
  have a3z := aB.cell 3
  simp at g0z g1z g2z g3z h0z h1z h2z h3z o0z o1z o2z o3z o4z o5z a0z a1z a2z a3z
  clear gB hB oB aB
  have nz0 := (unhide NB).cell 0
  have nz1 := (unhide NB).cell 1
  have nz2 := (unhide NB).cell 2
  have nz3 := (unhide NB).cell 3
  simp at nz0 nz1 nz2 nz3
  have fN := (unhide NB).frozen
  have cs0 := (Blk.new w1 29 [.string (R 0), .string (R 1), .string (R 2), .int .i64 (wk : Int)]).cell 3
  simp at cs0
  go_wp2
  refine wp_region_noPanic ?_
  try simp only [List.append_eq, List.cons_append, List.nil_append]
  refine wp_region_mix [(0, true), (1, true), (2, true), (3, true), (4, true), (5, true), (6, true), (7, true), (8, true)] [9] (by kernel_rfl) (by kernel_rfl) (fun _ _ _ _ _ h => h) ?_
  simp only [pickM, pickO, List.getElem?_cons_zero, List.getElem?_cons_succ]
  repeat (first | (refine wpMix_read rfl (fun K hK => ?_)) | (refine wpMix_pure rfl (fun K hK => ?_))
          go_big_quiet_op
          first | (refine hK _ ?_; clear hK K))
  refine wpMix_nil ?_
  intro _ hw'
  obtain ⟨nq, hw''⟩ := hw'
  subst hw''
  have hqq : Quiet W2 (W2.drewN nq) := (Chg.refl _ _).drewN nq
  generalize W2.drewN nq = wq at *
  have q4 : Hid (Quiet W0 wq) := Quiet.trans (unhide q2H) hqq
  have NB4 : Hid (Blk wq w1.heap.size 29 [.string (R 0), .string (R 1), .string (R 2), .int .i64 (sp : Int)]) := hqq.blk (unhide NB)
  have nw0 := (unhide NB4).cell 0
  have nw1 := (unhide NB4).cell 1
  have nw2 := (unhide NB4).cell 2
  have nw3 := (unhide NB4).cell 3
  simp at nw0 nw1 nw2 nw3
  have fw := (unhide NB4).frozen
  obtain ⟨W5, hW5⟩ : ∃ W, (wq.setCell ⟨w1.heap.size, 0, none⟩ (.string Y)) = W := ⟨_, rfl⟩
  have q5H : Hid (Quiet W0 W5) := by rw [← hW5]; exact Chg.setCell (unhide q4) (p := ⟨w1.heap.size, 0, none⟩) (.inr ((unhide q1H).size)) _
  have NB5 : Hid (Blk W5 w1.heap.size 29 [.string Y, .string (R 1), .string (R 2), .int .i64 (sp : Int)]) := by rw [← hW5]; exact (unhide NB4).set 0 (.string Y)
  have gB := Quiet.blk (w := W0) (w' := W5) (unhide q5H) (unhide GBH)
  have hB := Quiet.blk (w := W0) (w' := W5) (unhide q5H) (unhide HBH)
  have oB := Quiet.blk (w := W0) (w' := W5) (unhide q5H) (unhide OBH)
  have aB := Quiet.blk (w := W0) (w' := W5) (unhide q5H) (unhide ABH)
  have g0v := gB.cell 0
  have g1v := gB.cell 1
  have g2v := gB.cell 2
  have g3v := gB.cell 3
  have h0v := hB.cell 0
  have h1v := hB.cell 1
  have h2v := hB.cell 2
  have h3v := hB.cell 3
  have o0v := oB.cell 0
  have o1v := oB.cell 1
  have o2v := oB.cell 2
  have o3v := oB.cell 3
  have o4v := oB.cell 4
  have o5v := oB.cell 5
  have a0v := aB.cell 0
  have a1v := aB.cell 1
  have a2v := aB.cell 2
  have a3v := aB.cell 3
  simp at g0v g1v g2v g3v h0v h1v h2v h3v o0v o1v o2v o3v o4v o5v a0v a1v a2v a3v
  clear gB hB oB aB
  have nv0 := (unhide NB5).cell 0
  have nv1 := (unhide NB5).cell 1
  have nv2 := (unhide NB5).cell 2
  have nv3 := (unhide NB5).cell 3
  simp at nv0 nv1 nv2 nv3
  go_wp2
  refine NoPanic.normal ?_
  go_wp2_with fail
  refine (unhide hSum W5 (Quiet.trans (unhide QH) (unhide q5H))).mono ?_
  clear hSum
  rintro e w6 ⟨rfl, q6⟩
  have q6H : Hid (Quiet W0 w6) := Quiet.trans (unhide q5H) q6
  have NB6 : Hid (Blk w6 w1.heap.size 29 [.string Y, .string (R 1), .string (R 2), .int .i64 (sp : Int)]) := q6.blk (unhide NB5)
  clear q6
  have gB := Quiet.blk (w := W0) (w' := w6) (unhide q6H) (unhide GBH)
  have hB := Quiet.blk (w := W0) (w' := w6) (unhide q6H) (unhide HBH)
  have oB := Quiet.blk (w := W0) (w' := w6) (unhide q6H) (unhide OBH)
  have aB := Quiet.blk (w := W0) (w' := w6) (unhide q6H) (unhide ABH)
  have g0u := gB.cell 0
  have g1u := gB.cell 1
  have g2u := gB.cell 2
  have g3u := gB.cell 3
  have h0u := hB.cell 0
  have h1u := hB.cell 1
  have h2u := hB.cell 2
  have h3u := hB.cell 3
  have o0u := oB.cell 0
  have o1u := oB.cell 1
  have o2u := oB.cell 2
  have o3u := oB.cell 3
  have o4u := oB.cell 4
  have o5u := oB.cell 5
  have a0u := aB.cell 0
  have a1u := aB.cell 1
  have a2u := aB.cell 2
  have a3u := aB.cell 3
  simp at g0u g1u g2u g3u h0u h1u h2u h3u o0u o1u o2u o3u o4u o5u a0u a1u a2u a3u
  clear gB hB oB aB
  have nu0 := (unhide NB6).cell 0
  have nu1 := (unhide NB6).cell 1
  have nu2 := (unhide NB6).cell 2
  have nu3 := (unhide NB6).cell 3
  simp at nu0 nu1 nu2 nu3
  have q3H : Hid (Quiet W0 (w6.alloc (.cells #[.int .i64 0, .int .i64 0, .int .i64 0, .string ⟨#[]⟩] 34))) := Chg.alloc (unhide q6H) _
  have MB : Hid (Blk (w6.alloc (.cells #[.int .i64 0, .int .i64 0, .int .i64 0, .string ⟨#[]⟩] 34)) w6.heap.size 34 [.int .i64 0, .int .i64 0, .int .i64 0, .string ⟨#[]⟩]) := Blk.new w6 34 [.int .i64 0, .int .i64 0, .int .i64 0, .string ⟨#[]⟩]
  have NB3 : Hid (Blk (w6.alloc (.cells #[.int .i64 0, .int .i64 0, .int .i64 0, .string ⟨#[]⟩] 34)) w1.heap.size 29 [.string Y, .string (R 1), .string (R 2), .int .i64 (sp : Int)]) := (unhide NB6).alloc _
  have gB := Quiet.blk (w := W0) (w' := (w6.alloc (.cells #[.int .i64 0, .int .i64 0, .int .i64 0, .string ⟨#[]⟩] 34))) (unhide q3H) (unhide GBH)
  have hB := Quiet.blk (w := W0) (w' := (w6.alloc (.cells #[.int .i64 0, .int .i64 0, .int .i64 0, .string ⟨#[]⟩] 34))) (unhide q3H) (unhide HBH)
  have oB := Quiet.blk (w := W0) (w' := (w6.alloc (.cells #[.int .i64 0, .int .i64 0, .int .i64 0, .string ⟨#[]⟩] 34))) (unhide q3H) (unhide OBH)
  have aB := Quiet.blk (w := W0) (w' := (w6.alloc (.cells #[.int .i64 0, .int .i64 0, .int .i64 0, .string ⟨#[]⟩] 34))) (unhide q3H) (unhide ABH)
  have g0x := gB.cell 0
  have g1x := gB.cell 1
  have g2x := gB.cell 2
  have g3x := gB.cell 3
  have h0x := hB.cell 0
  have h1x := hB.cell 1
  have h2x := hB.cell 2
  have h3x := hB.cell 3
  have o0x := oB.cell 0
  have o1x := oB.cell 1
  have o2x := oB.cell 2
  have o3x := oB.cell 3
  have o4x := oB.cell 4
  have o5x := oB.cell 5
  have a0x := aB.cell 0
  have a1x := aB.cell 1
  have a2x := aB.cell 2
  have a3x := aB.cell 3
  simp at g0x g1x g2x g3x h0x h1x h2x h3x o0x o1x o2x o3x o4x o5x a0x a1x a2x a3x
  clear gB hB oB aB
  have nx0 := (unhide NB3).cell 0
  have nx1 := (unhide NB3).cell 1
  have nx2 := (unhide NB3).cell 2
  have nx3 := (unhide NB3).cell 3
  simp at nx0 nx1 nx2 nx3
  have mx0 := (unhide MB).cell 0
  have mx1 := (unhide MB).cell 1
  have mx2 := (unhide MB).cell 2
  have mx3 := (unhide MB).cell 3
  simp at mx0 mx1 mx2 mx3
  go_wp2
  go_ret
  exact ⟨rfl, Quiet.trans (unhide QH) (unhide q3H)⟩

set_option maxRecDepth 100000 in
set_option maxHeartbeats 8000000 in
theorem kept_iv1 (w : World) (R : Nat → ByteArray) (wk : Nat) (b c : Int) (sp : Nat) (Y : ByteArray) (s t : ByteArray) (hOw : Hid (QC w 25 #[.agg #[.string (R 0), .string (R 1), .string (R 2), .int .i64 (wk : Int)], .agg #[.int .i64 4, .int .i64 1, .int .i64 b, .int .i64 c, .string s, .string t]] (.tuple #[.int .i64 0, .int .i64 (sp : Int)]))) (hSum : Hid (QC w 26 #[.string Y] (.string (R 1)))) :
    Calls Try.prog 12 #[.agg #[.string (R 0), .string (R 1), .string (R 2), .int .i64 (wk : Int)], .agg #[.string (R 0), .string Y, .string (R 2), .int .i64 (sp : Int)], .agg #[.int .i64 4, .int .i64 1, .int .i64 b, .int .i64 c, .string s, .string t], .agg #[.int .i64 0, .int .i64 0, .int .i64 0, .string ⟨#[]⟩]] w fun e w' => e = .returned (.bool true) ∧ Quiet w w' := by
  obtain ⟨W0, hW0⟩ : ∃ W0, ((((w.alloc (.cells #[.string (R 0), .string (R 1), .string (R 2), .int .i64 (wk : Int)] 29)).alloc (.cells #[.string (R 0), .string Y, .string (R 2), .int .i64 (sp : Int)] 29)).alloc (.cells #[.int .i64 4, .int .i64 1, .int .i64 b, .int .i64 c, .string s, .string t] 31)).alloc (.cells #[.int .i64 0, .int .i64 0, .int .i64 0, .string ⟨#[]⟩] 34)) = W0 := ⟨_, rfl⟩
  obtain ⟨Q0, GB, HB, OB, AB, hsz⟩ := kept_w0 w [.string (R 0), .string (R 1), .string (R 2), .int .i64 (wk : Int)] [.string (R 0), .string Y, .string (R 2), .int .i64 (sp : Int)] [.int .i64 4, .int .i64 1, .int .i64 b, .int .i64 c, .string s, .string t] [.int .i64 0, .int .i64 0, .int .i64 0, .string ⟨#[]⟩] W0 hW0
  have QH := hide Q0
  have GBH := hide GB
  have HBH := hide HB
  have OBH := hide OB
  have ABH := hide AB
  have hszH := hide hsz
  clear Q0 GB HB OB AB hsz
  have hX : ∀ X : ByteArray, (X.toList == X.toList) = true := fun X => by simp
  have hEq := eq27
  have gB := Quiet.blk (w := W0) (w' := W0) (Quiet.refl W0) (unhide GBH)
  have hB := Quiet.blk (w := W0) (w' := W0) (Quiet.refl W0) (unhide HBH)
  have oB := Quiet.blk (w := W0) (w' := W0) (Quiet.refl W0) (unhide OBH)
  have aB := Quiet.blk (w := W0) (w' := W0) (Quiet.refl W0) (unhide ABH)
  have g0 := gB.cell 0
  have g1 := gB.cell 1
  have g2 := gB.cell 2
  have g3 := gB.cell 3
  have h0 := hB.cell 0
  have h1 := hB.cell 1
  have h2 := hB.cell 2
  have h3 := hB.cell 3
  have o0 := oB.cell 0
  have o1 := oB.cell 1
  have o2 := oB.cell 2
  have o3 := oB.cell 3
  have o4 := oB.cell 4
  have o5 := oB.cell 5
  have a0 := aB.cell 0
  have a1 := aB.cell 1
  have a2 := aB.cell 2
  have a3 := aB.cell 3
  simp at g0 g1 g2 g3 h0 h1 h2 h3 o0 o1 o2 o3 o4 o5 a0 a1 a2 a3
  clear gB hB oB aB
  unfold QC at *
  go_enter Try.func12, Try.ntmps12
  go_wp2_with fail
  refine (unhide hOw W0 (unhide QH)).mono ?_
  clear hOw
  rintro e w1 ⟨rfl, q1⟩
  have q1H := hide q1
  clear q1
  clear g0 g1 g2 g3 h0 h1 h2 h3 o0 o1 o2 o3 o4 o5 a0 a1 a2 a3
  have gB := Quiet.blk (w := W0) (w' := w1) (unhide q1H) (unhide GBH)
  have hB := Quiet.blk (w := W0) (w' := w1) (unhide q1H) (unhide HBH)
  have oB := Quiet.blk (w := W0) (w' := w1) (unhide q1H) (unhide OBH)
  have aB := Quiet.blk (w := W0) (w' := w1) (unhide q1H) (unhide ABH)
  have g0 := gB.cell 0
  have g1 := gB.cell 1
  have g2 := gB.cell 2
  have g3 := gB.cell 3
  have h0 := hB.cell 0
  have h1 := hB.cell 1
  have h2 := hB.cell 2
  have h3 := hB.cell 3
  have o0 := oB.cell 0
  have o1 := oB.cell 1
  have o2 := oB.cell 2
  have o3 := oB.cell 3
  have o4 := oB.cell 4
  have o5 := oB.cell 5
  have a0 := aB.cell 0
  have a1 := aB.cell 1
  have a2 := aB.cell 2
  have a3 := aB.cell 3
  simp at g0 g1 g2 g3 h0 h1 h2 h3 o0 o1 o2 o3 o4 o5 a0 a1 a2 a3
  clear gB hB oB aB
  obtain ⟨W2, hW2⟩ : ∃ W, ((w1.alloc (.cells #[.string (R 0), .string (R 1), .string (R 2), .int .i64 (wk : Int)] 29)).setCell ⟨w1.heap.size, 3, none⟩ (.int .i64 (sp : Int))) = W := ⟨_, rfl⟩
  have q2H : Hid (Quiet W0 W2) := by rw [← hW2]; exact Chg.setCell (Chg.alloc (unhide q1H) (.cells #[.string (R 0), .string (R 1), .string (R 2), .int .i64 (wk : Int)] 29)) (p := ⟨w1.heap.size, 3, none⟩) (.inr ((unhide q1H).size)) _
  have NB : Hid (Blk W2 w1.heap.size 29 [.string (R 0), .string (R 1), .string (R 2), .int .i64 (sp : Int)]) := by rw [← hW2]; exact (Blk.new w1 29 [.string (R 0), .string (R 1), .string (R 2), .int .i64 (wk : Int)]).set 3 (.int .i64 (sp : Int))
  have gB := Quiet.blk (w := W0) (w' := W2) (unhide q2H) (unhide GBH)
  have hB := Quiet.blk (w := W0) (w' := W2) (unhide q2H) (unhide HBH)
  have oB := Quiet.blk (w := W0) (w' := W2) (unhide q2H) (unhide OBH)
  have aB := Quiet.blk (w := W0) (w' := W2) (unhide q2H) (unhide ABH)
  have g0z := gB.cell 0
  have g1z := gB.cell 1
  have g2z := gB.cell 2
  have g3z := gB.cell 3
  have h0z := hB.cell 0
  have h1z := hB.cell 1
  have h2z := hB.cell 2
  have h3z := hB.cell 3
  have o0z := oB.cell 0
  have o1z := oB.cell 1
  have o2z := oB.cell 2
  have o3z := oB.cell 3
  have o4z := oB.cell 4
  have o5z := oB.cell 5
  have a0z := aB.cell 0
  have a1z := aB.cell 1
  have a2z := aB.cell 2
  have a3z := aB.cell 3
  simp at g0z g1z g2z g3z h0z h1z h2z h3z o0z o1z o2z o3z o4z o5z a0z a1z a2z a3z
  clear gB hB oB aB
  have nz0 := (unhide NB).cell 0
  have nz1 := (unhide NB).cell 1
  have nz2 := (unhide NB).cell 2
  have nz3 := (unhide NB).cell 3
  simp at nz0 nz1 nz2 nz3
  have fN := (unhide NB).frozen
  have cs0 := (Blk.new w1 29 [.string (R 0), .string (R 1), .string (R 2), .int .i64 (wk : Int)]).cell 3
  simp at cs0
  go_wp2
  refine wp_region_noPanic ?_
  try simp only [List.append_eq, List.cons_append, List.nil_append]
  refine wp_region_mix [(0, true), (1, true), (2, true), (3, true), (4, true), (5, true), (6, true), (7, true), (8, true)] [9] (by kernel_rfl) (by kernel_rfl) (fun _ _ _ _ _ h => h) ?_
  simp only [pickM, pickO, List.getElem?_cons_zero, List.getElem?_cons_succ]
  repeat (first | (refine wpMix_read rfl (fun K hK => ?_)) | (refine wpMix_pure rfl (fun K hK => ?_))
          go_big_quiet_op
          first | (refine hK _ ?_; clear hK K))
  refine wpMix_nil ?_
  intro _ hw'
  obtain ⟨nq, hw''⟩ := hw'
  subst hw''
  have hqq : Quiet W2 (W2.drewN nq) := (Chg.refl _ _).drewN nq
  generalize W2.drewN nq = wq at *
  have q4 : Hid (Quiet W0 wq) := Quiet.trans (unhide q2H) hqq
  have NB4 : Hid (Blk wq w1.heap.size 29 [.string (R 0), .string (R 1), .string (R 2), .int .i64 (sp : Int)]) := hqq.blk (unhide NB)
  have nw0 := (unhide NB4).cell 0
  have nw1 := (unhide NB4).cell 1
  have nw2 := (unhide NB4).cell 2
  have nw3 := (unhide NB4).cell 3
  simp at nw0 nw1 nw2 nw3
  have fw := (unhide NB4).frozen
  obtain ⟨W5, hW5⟩ : ∃ W, (wq.setCell ⟨w1.heap.size, 1, none⟩ (.string Y)) = W := ⟨_, rfl⟩
  have q5H : Hid (Quiet W0 W5) := by rw [← hW5]; exact Chg.setCell (unhide q4) (p := ⟨w1.heap.size, 1, none⟩) (.inr ((unhide q1H).size)) _
  have NB5 : Hid (Blk W5 w1.heap.size 29 [.string (R 0), .string Y, .string (R 2), .int .i64 (sp : Int)]) := by rw [← hW5]; exact (unhide NB4).set 1 (.string Y)
  have gB := Quiet.blk (w := W0) (w' := W5) (unhide q5H) (unhide GBH)
  have hB := Quiet.blk (w := W0) (w' := W5) (unhide q5H) (unhide HBH)
  have oB := Quiet.blk (w := W0) (w' := W5) (unhide q5H) (unhide OBH)
  have aB := Quiet.blk (w := W0) (w' := W5) (unhide q5H) (unhide ABH)
  have g0v := gB.cell 0
  have g1v := gB.cell 1
  have g2v := gB.cell 2
  have g3v := gB.cell 3
  have h0v := hB.cell 0
  have h1v := hB.cell 1
  have h2v := hB.cell 2
  have h3v := hB.cell 3
  have o0v := oB.cell 0
  have o1v := oB.cell 1
  have o2v := oB.cell 2
  have o3v := oB.cell 3
  have o4v := oB.cell 4
  have o5v := oB.cell 5
  have a0v := aB.cell 0
  have a1v := aB.cell 1
  have a2v := aB.cell 2
  have a3v := aB.cell 3
  simp at g0v g1v g2v g3v h0v h1v h2v h3v o0v o1v o2v o3v o4v o5v a0v a1v a2v a3v
  clear gB hB oB aB
  have nv0 := (unhide NB5).cell 0
  have nv1 := (unhide NB5).cell 1
  have nv2 := (unhide NB5).cell 2
  have nv3 := (unhide NB5).cell 3
  simp at nv0 nv1 nv2 nv3
  go_wp2
  refine NoPanic.normal ?_
  go_wp2_with fail
  refine (unhide hSum W5 (Quiet.trans (unhide QH) (unhide q5H))).mono ?_
  clear hSum
  rintro e w6 ⟨rfl, q6⟩
  have q6H : Hid (Quiet W0 w6) := Quiet.trans (unhide q5H) q6
  have NB6 : Hid (Blk w6 w1.heap.size 29 [.string (R 0), .string Y, .string (R 2), .int .i64 (sp : Int)]) := q6.blk (unhide NB5)
  clear q6
  have gB := Quiet.blk (w := W0) (w' := w6) (unhide q6H) (unhide GBH)
  have hB := Quiet.blk (w := W0) (w' := w6) (unhide q6H) (unhide HBH)
  have oB := Quiet.blk (w := W0) (w' := w6) (unhide q6H) (unhide OBH)
  have aB := Quiet.blk (w := W0) (w' := w6) (unhide q6H) (unhide ABH)
  have g0u := gB.cell 0
  have g1u := gB.cell 1
  have g2u := gB.cell 2
  have g3u := gB.cell 3
  have h0u := hB.cell 0
  have h1u := hB.cell 1
  have h2u := hB.cell 2
  have h3u := hB.cell 3
  have o0u := oB.cell 0
  have o1u := oB.cell 1
  have o2u := oB.cell 2
  have o3u := oB.cell 3
  have o4u := oB.cell 4
  have o5u := oB.cell 5
  have a0u := aB.cell 0
  have a1u := aB.cell 1
  have a2u := aB.cell 2
  have a3u := aB.cell 3
  simp at g0u g1u g2u g3u h0u h1u h2u h3u o0u o1u o2u o3u o4u o5u a0u a1u a2u a3u
  clear gB hB oB aB
  have nu0 := (unhide NB6).cell 0
  have nu1 := (unhide NB6).cell 1
  have nu2 := (unhide NB6).cell 2
  have nu3 := (unhide NB6).cell 3
  simp at nu0 nu1 nu2 nu3
  have q3H : Hid (Quiet W0 (w6.alloc (.cells #[.int .i64 0, .int .i64 0, .int .i64 0, .string ⟨#[]⟩] 34))) := Chg.alloc (unhide q6H) _
  have MB : Hid (Blk (w6.alloc (.cells #[.int .i64 0, .int .i64 0, .int .i64 0, .string ⟨#[]⟩] 34)) w6.heap.size 34 [.int .i64 0, .int .i64 0, .int .i64 0, .string ⟨#[]⟩]) := Blk.new w6 34 [.int .i64 0, .int .i64 0, .int .i64 0, .string ⟨#[]⟩]
  have NB3 : Hid (Blk (w6.alloc (.cells #[.int .i64 0, .int .i64 0, .int .i64 0, .string ⟨#[]⟩] 34)) w1.heap.size 29 [.string (R 0), .string Y, .string (R 2), .int .i64 (sp : Int)]) := (unhide NB6).alloc _
  have gB := Quiet.blk (w := W0) (w' := (w6.alloc (.cells #[.int .i64 0, .int .i64 0, .int .i64 0, .string ⟨#[]⟩] 34))) (unhide q3H) (unhide GBH)
  have hB := Quiet.blk (w := W0) (w' := (w6.alloc (.cells #[.int .i64 0, .int .i64 0, .int .i64 0, .string ⟨#[]⟩] 34))) (unhide q3H) (unhide HBH)
  have oB := Quiet.blk (w := W0) (w' := (w6.alloc (.cells #[.int .i64 0, .int .i64 0, .int .i64 0, .string ⟨#[]⟩] 34))) (unhide q3H) (unhide OBH)
  have aB := Quiet.blk (w := W0) (w' := (w6.alloc (.cells #[.int .i64 0, .int .i64 0, .int .i64 0, .string ⟨#[]⟩] 34))) (unhide q3H) (unhide ABH)
  have g0x := gB.cell 0
  have g1x := gB.cell 1
  have g2x := gB.cell 2
  have g3x := gB.cell 3
  have h0x := hB.cell 0
  have h1x := hB.cell 1
  have h2x := hB.cell 2
  have h3x := hB.cell 3
  have o0x := oB.cell 0
  have o1x := oB.cell 1
  have o2x := oB.cell 2
  have o3x := oB.cell 3
  have o4x := oB.cell 4
  have o5x := oB.cell 5
  have a0x := aB.cell 0
  have a1x := aB.cell 1
  have a2x := aB.cell 2
  have a3x := aB.cell 3
  simp at g0x g1x g2x g3x h0x h1x h2x h3x o0x o1x o2x o3x o4x o5x a0x a1x a2x a3x
  clear gB hB oB aB
  have nx0 := (unhide NB3).cell 0
  have nx1 := (unhide NB3).cell 1
  have nx2 := (unhide NB3).cell 2
  have nx3 := (unhide NB3).cell 3
  simp at nx0 nx1 nx2 nx3
  have mx0 := (unhide MB).cell 0
  have mx1 := (unhide MB).cell 1
  have mx2 := (unhide MB).cell 2
  have mx3 := (unhide MB).cell 3
  simp at mx0 mx1 mx2 mx3
  go_wp2
  go_ret
  exact ⟨rfl, Quiet.trans (unhide QH) (unhide q3H)⟩

set_option maxRecDepth 100000 in
set_option maxHeartbeats 8000000 in
theorem kept_iv2 (w : World) (R : Nat → ByteArray) (wk : Nat) (b c : Int) (sp : Nat) (Y : ByteArray) (s t : ByteArray) (hOw : Hid (QC w 25 #[.agg #[.string (R 0), .string (R 1), .string (R 2), .int .i64 (wk : Int)], .agg #[.int .i64 4, .int .i64 2, .int .i64 b, .int .i64 c, .string s, .string t]] (.tuple #[.int .i64 0, .int .i64 (sp : Int)]))) (hSum : Hid (QC w 26 #[.string Y] (.string (R 2)))) :
    Calls Try.prog 12 #[.agg #[.string (R 0), .string (R 1), .string (R 2), .int .i64 (wk : Int)], .agg #[.string (R 0), .string (R 1), .string Y, .int .i64 (sp : Int)], .agg #[.int .i64 4, .int .i64 2, .int .i64 b, .int .i64 c, .string s, .string t], .agg #[.int .i64 0, .int .i64 0, .int .i64 0, .string ⟨#[]⟩]] w fun e w' => e = .returned (.bool true) ∧ Quiet w w' := by
  obtain ⟨W0, hW0⟩ : ∃ W0, ((((w.alloc (.cells #[.string (R 0), .string (R 1), .string (R 2), .int .i64 (wk : Int)] 29)).alloc (.cells #[.string (R 0), .string (R 1), .string Y, .int .i64 (sp : Int)] 29)).alloc (.cells #[.int .i64 4, .int .i64 2, .int .i64 b, .int .i64 c, .string s, .string t] 31)).alloc (.cells #[.int .i64 0, .int .i64 0, .int .i64 0, .string ⟨#[]⟩] 34)) = W0 := ⟨_, rfl⟩
  obtain ⟨Q0, GB, HB, OB, AB, hsz⟩ := kept_w0 w [.string (R 0), .string (R 1), .string (R 2), .int .i64 (wk : Int)] [.string (R 0), .string (R 1), .string Y, .int .i64 (sp : Int)] [.int .i64 4, .int .i64 2, .int .i64 b, .int .i64 c, .string s, .string t] [.int .i64 0, .int .i64 0, .int .i64 0, .string ⟨#[]⟩] W0 hW0
  have QH := hide Q0
  have GBH := hide GB
  have HBH := hide HB
  have OBH := hide OB
  have ABH := hide AB
  have hszH := hide hsz
  clear Q0 GB HB OB AB hsz
  have hX : ∀ X : ByteArray, (X.toList == X.toList) = true := fun X => by simp
  have hEq := eq27
  have gB := Quiet.blk (w := W0) (w' := W0) (Quiet.refl W0) (unhide GBH)
  have hB := Quiet.blk (w := W0) (w' := W0) (Quiet.refl W0) (unhide HBH)
  have oB := Quiet.blk (w := W0) (w' := W0) (Quiet.refl W0) (unhide OBH)
  have aB := Quiet.blk (w := W0) (w' := W0) (Quiet.refl W0) (unhide ABH)
  have g0 := gB.cell 0
  have g1 := gB.cell 1
  have g2 := gB.cell 2
  have g3 := gB.cell 3
  have h0 := hB.cell 0
  have h1 := hB.cell 1
  have h2 := hB.cell 2
  have h3 := hB.cell 3
  have o0 := oB.cell 0
  have o1 := oB.cell 1
  have o2 := oB.cell 2
  have o3 := oB.cell 3
  have o4 := oB.cell 4
  have o5 := oB.cell 5
  have a0 := aB.cell 0
  have a1 := aB.cell 1
  have a2 := aB.cell 2
  have a3 := aB.cell 3
  simp at g0 g1 g2 g3 h0 h1 h2 h3 o0 o1 o2 o3 o4 o5 a0 a1 a2 a3
  clear gB hB oB aB
  unfold QC at *
  go_enter Try.func12, Try.ntmps12
  go_wp2_with fail
  refine (unhide hOw W0 (unhide QH)).mono ?_
  clear hOw
  rintro e w1 ⟨rfl, q1⟩
  have q1H := hide q1
  clear q1
  clear g0 g1 g2 g3 h0 h1 h2 h3 o0 o1 o2 o3 o4 o5 a0 a1 a2 a3
  have gB := Quiet.blk (w := W0) (w' := w1) (unhide q1H) (unhide GBH)
  have hB := Quiet.blk (w := W0) (w' := w1) (unhide q1H) (unhide HBH)
  have oB := Quiet.blk (w := W0) (w' := w1) (unhide q1H) (unhide OBH)
  have aB := Quiet.blk (w := W0) (w' := w1) (unhide q1H) (unhide ABH)
  have g0 := gB.cell 0
  have g1 := gB.cell 1
  have g2 := gB.cell 2
  have g3 := gB.cell 3
  have h0 := hB.cell 0
  have h1 := hB.cell 1
  have h2 := hB.cell 2
  have h3 := hB.cell 3
  have o0 := oB.cell 0
  have o1 := oB.cell 1
  have o2 := oB.cell 2
  have o3 := oB.cell 3
  have o4 := oB.cell 4
  have o5 := oB.cell 5
  have a0 := aB.cell 0
  have a1 := aB.cell 1
  have a2 := aB.cell 2
  have a3 := aB.cell 3
  simp at g0 g1 g2 g3 h0 h1 h2 h3 o0 o1 o2 o3 o4 o5 a0 a1 a2 a3
  clear gB hB oB aB
  obtain ⟨W2, hW2⟩ : ∃ W, ((w1.alloc (.cells #[.string (R 0), .string (R 1), .string (R 2), .int .i64 (wk : Int)] 29)).setCell ⟨w1.heap.size, 3, none⟩ (.int .i64 (sp : Int))) = W := ⟨_, rfl⟩
  have q2H : Hid (Quiet W0 W2) := by rw [← hW2]; exact Chg.setCell (Chg.alloc (unhide q1H) (.cells #[.string (R 0), .string (R 1), .string (R 2), .int .i64 (wk : Int)] 29)) (p := ⟨w1.heap.size, 3, none⟩) (.inr ((unhide q1H).size)) _
  have NB : Hid (Blk W2 w1.heap.size 29 [.string (R 0), .string (R 1), .string (R 2), .int .i64 (sp : Int)]) := by rw [← hW2]; exact (Blk.new w1 29 [.string (R 0), .string (R 1), .string (R 2), .int .i64 (wk : Int)]).set 3 (.int .i64 (sp : Int))
  have gB := Quiet.blk (w := W0) (w' := W2) (unhide q2H) (unhide GBH)
  have hB := Quiet.blk (w := W0) (w' := W2) (unhide q2H) (unhide HBH)
  have oB := Quiet.blk (w := W0) (w' := W2) (unhide q2H) (unhide OBH)
  have aB := Quiet.blk (w := W0) (w' := W2) (unhide q2H) (unhide ABH)
  have g0z := gB.cell 0
  have g1z := gB.cell 1
  have g2z := gB.cell 2
  have g3z := gB.cell 3
  have h0z := hB.cell 0
  have h1z := hB.cell 1
  have h2z := hB.cell 2
  have h3z := hB.cell 3
  have o0z := oB.cell 0
  have o1z := oB.cell 1
  have o2z := oB.cell 2
  have o3z := oB.cell 3
  have o4z := oB.cell 4
  have o5z := oB.cell 5
  have a0z := aB.cell 0
  have a1z := aB.cell 1
  have a2z := aB.cell 2
  have a3z := aB.cell 3
  simp at g0z g1z g2z g3z h0z h1z h2z h3z o0z o1z o2z o3z o4z o5z a0z a1z a2z a3z
  clear gB hB oB aB
  have nz0 := (unhide NB).cell 0
  have nz1 := (unhide NB).cell 1
  have nz2 := (unhide NB).cell 2
  have nz3 := (unhide NB).cell 3
  simp at nz0 nz1 nz2 nz3
  have fN := (unhide NB).frozen
  have cs0 := (Blk.new w1 29 [.string (R 0), .string (R 1), .string (R 2), .int .i64 (wk : Int)]).cell 3
  simp at cs0
  go_wp2
  refine wp_region_noPanic ?_
  try simp only [List.append_eq, List.cons_append, List.nil_append]
  refine wp_region_mix [(0, true), (1, true), (2, true), (3, true), (4, true), (5, true), (6, true), (7, true), (8, true)] [9] (by kernel_rfl) (by kernel_rfl) (fun _ _ _ _ _ h => h) ?_
  simp only [pickM, pickO, List.getElem?_cons_zero, List.getElem?_cons_succ]
  repeat (first | (refine wpMix_read rfl (fun K hK => ?_)) | (refine wpMix_pure rfl (fun K hK => ?_))
          go_big_quiet_op
          first | (refine hK _ ?_; clear hK K))
  refine wpMix_nil ?_
  intro _ hw'
  obtain ⟨nq, hw''⟩ := hw'
  subst hw''
  have hqq : Quiet W2 (W2.drewN nq) := (Chg.refl _ _).drewN nq
  generalize W2.drewN nq = wq at *
  have q4 : Hid (Quiet W0 wq) := Quiet.trans (unhide q2H) hqq
  have NB4 : Hid (Blk wq w1.heap.size 29 [.string (R 0), .string (R 1), .string (R 2), .int .i64 (sp : Int)]) := hqq.blk (unhide NB)
  have nw0 := (unhide NB4).cell 0
  have nw1 := (unhide NB4).cell 1
  have nw2 := (unhide NB4).cell 2
  have nw3 := (unhide NB4).cell 3
  simp at nw0 nw1 nw2 nw3
  have fw := (unhide NB4).frozen
  obtain ⟨W5, hW5⟩ : ∃ W, (wq.setCell ⟨w1.heap.size, 2, none⟩ (.string Y)) = W := ⟨_, rfl⟩
  have q5H : Hid (Quiet W0 W5) := by rw [← hW5]; exact Chg.setCell (unhide q4) (p := ⟨w1.heap.size, 2, none⟩) (.inr ((unhide q1H).size)) _
  have NB5 : Hid (Blk W5 w1.heap.size 29 [.string (R 0), .string (R 1), .string Y, .int .i64 (sp : Int)]) := by rw [← hW5]; exact (unhide NB4).set 2 (.string Y)
  have gB := Quiet.blk (w := W0) (w' := W5) (unhide q5H) (unhide GBH)
  have hB := Quiet.blk (w := W0) (w' := W5) (unhide q5H) (unhide HBH)
  have oB := Quiet.blk (w := W0) (w' := W5) (unhide q5H) (unhide OBH)
  have aB := Quiet.blk (w := W0) (w' := W5) (unhide q5H) (unhide ABH)
  have g0v := gB.cell 0
  have g1v := gB.cell 1
  have g2v := gB.cell 2
  have g3v := gB.cell 3
  have h0v := hB.cell 0
  have h1v := hB.cell 1
  have h2v := hB.cell 2
  have h3v := hB.cell 3
  have o0v := oB.cell 0
  have o1v := oB.cell 1
  have o2v := oB.cell 2
  have o3v := oB.cell 3
  have o4v := oB.cell 4
  have o5v := oB.cell 5
  have a0v := aB.cell 0
  have a1v := aB.cell 1
  have a2v := aB.cell 2
  have a3v := aB.cell 3
  simp at g0v g1v g2v g3v h0v h1v h2v h3v o0v o1v o2v o3v o4v o5v a0v a1v a2v a3v
  clear gB hB oB aB
  have nv0 := (unhide NB5).cell 0
  have nv1 := (unhide NB5).cell 1
  have nv2 := (unhide NB5).cell 2
  have nv3 := (unhide NB5).cell 3
  simp at nv0 nv1 nv2 nv3
  go_wp2
  refine NoPanic.normal ?_
  go_wp2_with fail
  refine (unhide hSum W5 (Quiet.trans (unhide QH) (unhide q5H))).mono ?_
  clear hSum
  rintro e w6 ⟨rfl, q6⟩
  have q6H : Hid (Quiet W0 w6) := Quiet.trans (unhide q5H) q6
  have NB6 : Hid (Blk w6 w1.heap.size 29 [.string (R 0), .string (R 1), .string Y, .int .i64 (sp : Int)]) := q6.blk (unhide NB5)
  clear q6
  have gB := Quiet.blk (w := W0) (w' := w6) (unhide q6H) (unhide GBH)
  have hB := Quiet.blk (w := W0) (w' := w6) (unhide q6H) (unhide HBH)
  have oB := Quiet.blk (w := W0) (w' := w6) (unhide q6H) (unhide OBH)
  have aB := Quiet.blk (w := W0) (w' := w6) (unhide q6H) (unhide ABH)
  have g0u := gB.cell 0
  have g1u := gB.cell 1
  have g2u := gB.cell 2
  have g3u := gB.cell 3
  have h0u := hB.cell 0
  have h1u := hB.cell 1
  have h2u := hB.cell 2
  have h3u := hB.cell 3
  have o0u := oB.cell 0
  have o1u := oB.cell 1
  have o2u := oB.cell 2
  have o3u := oB.cell 3
  have o4u := oB.cell 4
  have o5u := oB.cell 5
  have a0u := aB.cell 0
  have a1u := aB.cell 1
  have a2u := aB.cell 2
  have a3u := aB.cell 3
  simp at g0u g1u g2u g3u h0u h1u h2u h3u o0u o1u o2u o3u o4u o5u a0u a1u a2u a3u
  clear gB hB oB aB
  have nu0 := (unhide NB6).cell 0
  have nu1 := (unhide NB6).cell 1
  have nu2 := (unhide NB6).cell 2
  have nu3 := (unhide NB6).cell 3
  simp at nu0 nu1 nu2 nu3
  have q3H : Hid (Quiet W0 (w6.alloc (.cells #[.int .i64 0, .int .i64 0, .int .i64 0, .string ⟨#[]⟩] 34))) := Chg.alloc (unhide q6H) _
  have MB : Hid (Blk (w6.alloc (.cells #[.int .i64 0, .int .i64 0, .int .i64 0, .string ⟨#[]⟩] 34)) w6.heap.size 34 [.int .i64 0, .int .i64 0, .int .i64 0, .string ⟨#[]⟩]) := Blk.new w6 34 [.int .i64 0, .int .i64 0, .int .i64 0, .string ⟨#[]⟩]
  have NB3 : Hid (Blk (w6.alloc (.cells #[.int .i64 0, .int .i64 0, .int .i64 0, .string ⟨#[]⟩] 34)) w1.heap.size 29 [.string (R 0), .string (R 1), .string Y, .int .i64 (sp : Int)]) := (unhide NB6).alloc _
  have gB := Quiet.blk (w := W0) (w' := (w6.alloc (.cells #[.int .i64 0, .int .i64 0, .int .i64 0, .string ⟨#[]⟩] 34))) (unhide q3H) (unhide GBH)
  have hB := Quiet.blk (w := W0) (w' := (w6.alloc (.cells #[.int .i64 0, .int .i64 0, .int .i64 0, .string ⟨#[]⟩] 34))) (unhide q3H) (unhide HBH)
  have oB := Quiet.blk (w := W0) (w' := (w6.alloc (.cells #[.int .i64 0, .int .i64 0, .int .i64 0, .string ⟨#[]⟩] 34))) (unhide q3H) (unhide OBH)
  have aB := Quiet.blk (w := W0) (w' := (w6.alloc (.cells #[.int .i64 0, .int .i64 0, .int .i64 0, .string ⟨#[]⟩] 34))) (unhide q3H) (unhide ABH)
  have g0x := gB.cell 0
  have g1x := gB.cell 1
  have g2x := gB.cell 2
  have g3x := gB.cell 3
  have h0x := hB.cell 0
  have h1x := hB.cell 1
  have h2x := hB.cell 2
  have h3x := hB.cell 3
  have o0x := oB.cell 0
  have o1x := oB.cell 1
  have o2x := oB.cell 2
  have o3x := oB.cell 3
  have o4x := oB.cell 4
  have o5x := oB.cell 5
  have a0x := aB.cell 0
  have a1x := aB.cell 1
  have a2x := aB.cell 2
  have a3x := aB.cell 3
  simp at g0x g1x g2x g3x h0x h1x h2x h3x o0x o1x o2x o3x o4x o5x a0x a1x a2x a3x
  clear gB hB oB aB
  have nx0 := (unhide NB3).cell 0
  have nx1 := (unhide NB3).cell 1
  have nx2 := (unhide NB3).cell 2
  have nx3 := (unhide NB3).cell 3
  simp at nx0 nx1 nx2 nx3
  have mx0 := (unhide MB).cell 0
  have mx1 := (unhide MB).cell 1
  have mx2 := (unhide MB).cell 2
  have mx3 := (unhide MB).cell 3
  simp at mx0 mx1 mx2 mx3
  go_wp2
  go_ret
  exact ⟨rfl, Quiet.trans (unhide QH) (unhide q3H)⟩
end Go.Proofs.Qxb6500368a
