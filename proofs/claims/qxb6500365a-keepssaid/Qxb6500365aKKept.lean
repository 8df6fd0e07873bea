/-
  Keeps: Kept, whole. (gen65k3.py)
-/
import Derived.Test.Qxb6500365aKMid
namespace Go.Proofs.Qxb6500365a
open Go.RowKit Go.Qx Ieee
set_option linter.unusedSimpArgs false
set_option linter.unusedVariables false

set_option maxHeartbeats 8000000 in
set_option maxRecDepth 100000 in
theorem kept_any (w : World) (x g : Nat) (σ : GS) (R : Rep w x σ) (b : Blk w g 29 (ghC σ)) (I : Inv σ) (hxg : x ≠ g) (o : Opr) :
    Calls Try.prog 10 #[.pointer (some ⟨x, 0, none⟩), .pointer (some ⟨g, 0, none⟩), .agg #[.int .i64 o.k, .int .i64 o.a, .int .i64 o.b, .int .i64 o.c, .string o.s, .string o.t]] w fun ex w' => ex = .returned (.bool true) ∧ Chg (fun k => k = x ∨ k = g) w w' ∧ Rep w' x (nextP σ o) ∧ Blk w' g 29 (ghC (nextP σ o)) := by
  have xl := R.lt
  have gl := b.lt
  obtain ⟨xk, xa, xb, xc, xs, xt⟩ := o
  have In := inv_next I ⟨xk, xa, xb, xc, xs, xt⟩
  have al0 : Quiet w (w.alloc (.cells #[.int .i64 xk, .int .i64 xa, .int .i64 xb, .int .i64 xc, .string xs, .string xt] 32)) := (Chg.refl _ _).alloc _
  have bo0 := Blk.new w 32 [.int .i64 xk, .int .i64 xa, .int .i64 xb, .int .i64 xc, .string xs, .string xt]
  have h1 := hide (show_any _ x σ (R.quiet al0) I)
  have hxgH := hide hxg
  obtain ⟨bo, hbo⟩ : ∃ b, w.heap.size = b := ⟨_, rfl⟩
  rw [hbo] at bo0
  have hboH := hide hbo
  obtain ⟨w0, hw0⟩ : ∃ W, w.alloc (.cells #[.int .i64 xk, .int .i64 xa, .int .i64 xb, .int .i64 xc, .string xs, .string xt] 32) = W := ⟨_, rfl⟩
  rw [hw0] at al0 bo0 h1
  have R0H := hide (R.quiet al0)
  have b0H := hide (Quiet.blk al0 b)
  have al0H := hide al0
  have bo0H := hide bo0
  have gl0 := hide (show g < w0.heap.size from (Quiet.blk al0 b).lt)
  have bol0 := hide (show bo < w0.heap.size from bo0.lt)
  have xbo : Hid (x ≠ bo ∧ g ≠ bo) := ⟨by omega, by omega⟩
  have IH := hide I
  have xlH := hide xl
  have glH := hide gl
  clear R b I al0 bo0 xl gl hxg
  dsimp only
  generalize hS0 : str (showP σ) = S0 at *
  have hS0H := hide hS0
  clear hS0
  go_enter Try.func10, Try.ntmps10
  go_wp2_with fail
  refine (unhide h1).mono ?_
  clear h1 hw0 hbo
  rintro e w1 ⟨rfl, q1⟩
  have R1 := (unhide R0H).quiet q1
  have h2 := hide (do_ticks w1 x σ R1 (unhide IH))
  go_wp2_with fail
  refine (unhide h2).mono ?_
  clear h2
  rintro e w2 ⟨rfl, ch2, R2⟩
  have nx : ¬ (bo = x) := fun h => (unhide xbo).1 h.symm
  have ng : ¬ (g = x) := fun h => unhide hxgH h.symm
  have al2 : Quiet w2 (w2.alloc (.cells #[.int .i64 σ.e, .int .i64 σ.t, .int .i64 0, .string ⟨#[]⟩] 42)) := (Chg.refl _ _).alloc _
  have bo2 := Quiet.blk al2 (ch2.blk (Quiet.blk q1 (unhide bo0H)) nx)
  have b2 := Quiet.blk al2 (ch2.blk (Quiet.blk q1 (unhide b0H)) ng)
  have bw2 := Blk.new w2 42 [.int .i64 σ.e, .int .i64 σ.t, .int .i64 0, .string ⟨#[]⟩]
  have R2' := R2.quiet al2
  have c02 : Chg (fun k => k = x ∨ k = g) w w2 := ((Quiet.chg (unhide al0H) _).trans (Quiet.chg q1 _)).trans (ch2.mono (fun k _ h => .inl h))
  have c2' := c02.trans (Quiet.chg al2 _)
  have bwl : Hid (w.heap.size ≤ w2.heap.size ∧ bo < w2.heap.size) := ⟨c02.size, (ch2.blk (Quiet.blk q1 (unhide bo0H)) nx).lt⟩
  obtain ⟨bw, hbw⟩ : ∃ b, w2.heap.size = b := ⟨_, rfl⟩
  rw [hbw] at bw2 bwl
  have o0 : (w2.alloc (.cells #[.int .i64 σ.e, .int .i64 σ.t, .int .i64 0, .string ⟨#[]⟩] 42)).cell? ⟨bo, 0, none⟩ = some (.int .i64 xk) := bo2.cell 0
  have o1 : (w2.alloc (.cells #[.int .i64 σ.e, .int .i64 σ.t, .int .i64 0, .string ⟨#[]⟩] 42)).cell? ⟨bo, 1, none⟩ = some (.int .i64 xa) := bo2.cell 1
  have o2 : (w2.alloc (.cells #[.int .i64 σ.e, .int .i64 σ.t, .int .i64 0, .string ⟨#[]⟩] 42)).cell? ⟨bo, 2, none⟩ = some (.int .i64 xb) := bo2.cell 2
  have o3 : (w2.alloc (.cells #[.int .i64 σ.e, .int .i64 σ.t, .int .i64 0, .string ⟨#[]⟩] 42)).cell? ⟨bo, 3, none⟩ = some (.int .i64 xc) := bo2.cell 3
  have o4 : (w2.alloc (.cells #[.int .i64 σ.e, .int .i64 σ.t, .int .i64 0, .string ⟨#[]⟩] 42)).cell? ⟨bo, 4, none⟩ = some (.string xs) := bo2.cell 4
  have o5 : (w2.alloc (.cells #[.int .i64 σ.e, .int .i64 σ.t, .int .i64 0, .string ⟨#[]⟩] 42)).cell? ⟨bo, 5, none⟩ = some (.string xt) := bo2.cell 5
  have hdo := do_k (w2.alloc (.cells #[.int .i64 σ.e, .int .i64 σ.t, .int .i64 0, .string ⟨#[]⟩] 42)) x σ R2' (unhide IH) ⟨xk, xa, xb, xc, xs, xt⟩
  dsimp only at hdo
  generalize hNx : nextP σ ⟨xk, xa, xb, xc, xs, xt⟩ = σ' at *
  generalize hAn : ansP σ ⟨xk, xa, xb, xc, xs, xt⟩ = AA at *
  obtain ⟨E, N, M, Z⟩ := AA
  dsimp only at hdo
  have hdoH := hide hdo
  have hNxH := hide hNx
  have hAnH := hide hAn
  have InH := hide In
  have bo2H := hide bo2
  have b2H := hide b2
  have bw2H := hide bw2
  have c2H := hide c2'
  clear hdo hNx hAn In bo2 b2 bw2 R2' c2' c02 al2 R2 R1 q1 ch2 R0H b0H bo0H al0H gl0 bol0
  go_wp2_with fail
  refine (unhide hdoH).mono ?_
  clear hdoH hbw o0 o1 o2 o3 o4 o5
  rintro e w3 ⟨rfl, ch3, R3⟩
  have nw : ¬ (bw = x) := fun h => by
    have h1 := (unhide bwl).1
    have h2 := unhide xlH
    omega
  have al3 : Quiet w3 (w3.alloc (.cells #[.int .i64 E, .int .i64 N, .int .i64 M, .string Z] 42)) := (Chg.refl _ _).alloc _
  have c3 := (unhide c2H).trans (ch3.mono (fun k _ h => .inl h))
  have bal : Hid (w.heap.size ≤ w3.heap.size) := c3.size
  have bo3 := Quiet.blk al3 (ch3.blk (unhide bo2H) nx)
  have b3 := Quiet.blk al3 (ch3.blk (unhide b2H) ng)
  have bw3 := Quiet.blk al3 (ch3.blk (unhide bw2H) nw)
  have ba3 := Blk.new w3 42 [.int .i64 E, .int .i64 N, .int .i64 M, .string Z]
  have R3' := R3.quiet al3
  have c3' := c3.trans (Quiet.chg al3 _)
  obtain ⟨ba, hba⟩ : ∃ b, w3.heap.size = b := ⟨_, rfl⟩
  rw [hba] at ba3 bal
  have na : ¬ (ba = x) := fun h => by
    have h1 := unhide bal
    have h2 := unhide xlH
    omega
  obtain ⟨W3, hW3⟩ : ∃ W, w3.alloc (.cells #[.int .i64 E, .int .i64 N, .int .i64 M, .string Z] 42) = W := ⟨_, rfl⟩
  rw [hW3] at bo3 b3 bw3 ba3 R3' c3'
  have h4 := hide (show_any W3 x σ' R3' (unhide InH))
  generalize hS1 : str (showP σ') = S1 at *
  have hS1H := hide hS1
  have bo3H := hide bo3
  have b3H := hide b3
  have bw3H := hide bw3
  have ba3H := hide ba3
  have c3H := hide c3'
  have R3H := hide R3'
  clear al3 c3 bo3 b3 bw3 ba3 R3' c3' R3 ch3 hS1 bo2H b2H bw2H c2H
  go_wp2_with fail
  refine (unhide h4).mono ?_
  clear h4 hba hW3
  rintro e w4 ⟨rfl, q4⟩
  have R4 := (unhide R3H).quiet q4
  have h5 := hide (do_ticks w4 x σ' R4 (unhide InH))
  go_wp2_with fail
  refine (unhide h5).mono ?_
  clear h5 R3H R4
  rintro e w5 ⟨rfl, ch5, R5⟩
  have al5 : Quiet w5 (w5.alloc (.cells #[.int .i64 σ'.e, .int .i64 σ'.t, .int .i64 0, .string ⟨#[]⟩] 42)) := (Chg.refl _ _).alloc _
  have c5 := ((unhide c3H).trans (Quiet.chg q4 _)).trans (ch5.mono (fun k _ h => .inl h))
  have bnl : Hid (w.heap.size ≤ w5.heap.size) := c5.size
  have bo5 := Quiet.blk al5 (ch5.blk (Quiet.blk q4 (unhide bo3H)) nx)
  have b5 := Quiet.blk al5 (ch5.blk (Quiet.blk q4 (unhide b3H)) ng)
  have bw5 := Quiet.blk al5 (ch5.blk (Quiet.blk q4 (unhide bw3H)) nw)
  have ba5 := Quiet.blk al5 (ch5.blk (Quiet.blk q4 (unhide ba3H)) na)
  have bn5 := Blk.new w5 42 [.int .i64 σ'.e, .int .i64 σ'.t, .int .i64 0, .string ⟨#[]⟩]
  have R5' := R5.quiet al5
  have c5' := c5.trans (Quiet.chg al5 _)
  obtain ⟨bn, hbn⟩ : ∃ b, w5.heap.size = b := ⟨_, rfl⟩
  rw [hbn] at bn5 bnl
  have o0 : (w5.alloc (.cells #[.int .i64 σ'.e, .int .i64 σ'.t, .int .i64 0, .string ⟨#[]⟩] 42)).cell? ⟨bo, 0, none⟩ = some (.int .i64 xk) := bo5.cell 0
  have o1 : (w5.alloc (.cells #[.int .i64 σ'.e, .int .i64 σ'.t, .int .i64 0, .string ⟨#[]⟩] 42)).cell? ⟨bo, 1, none⟩ = some (.int .i64 xa) := bo5.cell 1
  have o2 : (w5.alloc (.cells #[.int .i64 σ'.e, .int .i64 σ'.t, .int .i64 0, .string ⟨#[]⟩] 42)).cell? ⟨bo, 2, none⟩ = some (.int .i64 xb) := bo5.cell 2
  have o3 : (w5.alloc (.cells #[.int .i64 σ'.e, .int .i64 σ'.t, .int .i64 0, .string ⟨#[]⟩] 42)).cell? ⟨bo, 3, none⟩ = some (.int .i64 xc) := bo5.cell 3
  have o4 : (w5.alloc (.cells #[.int .i64 σ'.e, .int .i64 σ'.t, .int .i64 0, .string ⟨#[]⟩] 42)).cell? ⟨bo, 4, none⟩ = some (.string xs) := bo5.cell 4
  have o5 : (w5.alloc (.cells #[.int .i64 σ'.e, .int .i64 σ'.t, .int .i64 0, .string ⟨#[]⟩] 42)).cell? ⟨bo, 5, none⟩ = some (.string xt) := bo5.cell 5
  have p0 : (w5.alloc (.cells #[.int .i64 σ'.e, .int .i64 σ'.t, .int .i64 0, .string ⟨#[]⟩] 42)).cell? ⟨ba, 0, none⟩ = some (.int .i64 E) := ba5.cell 0
  have p1 : (w5.alloc (.cells #[.int .i64 σ'.e, .int .i64 σ'.t, .int .i64 0, .string ⟨#[]⟩] 42)).cell? ⟨ba, 1, none⟩ = some (.int .i64 N) := ba5.cell 1
  have p2 : (w5.alloc (.cells #[.int .i64 σ'.e, .int .i64 σ'.t, .int .i64 0, .string ⟨#[]⟩] 42)).cell? ⟨ba, 2, none⟩ = some (.int .i64 M) := ba5.cell 2
  have p3 : (w5.alloc (.cells #[.int .i64 σ'.e, .int .i64 σ'.t, .int .i64 0, .string ⟨#[]⟩] 42)).cell? ⟨ba, 3, none⟩ = some (.string Z) := ba5.cell 3
  have r0 : (w5.alloc (.cells #[.int .i64 σ'.e, .int .i64 σ'.t, .int .i64 0, .string ⟨#[]⟩] 42)).cell? ⟨bw, 0, none⟩ = some (.int .i64 σ.e) := bw5.cell 0
  have r1 : (w5.alloc (.cells #[.int .i64 σ'.e, .int .i64 σ'.t, .int .i64 0, .string ⟨#[]⟩] 42)).cell? ⟨bw, 1, none⟩ = some (.int .i64 σ.t) := bw5.cell 1
  have r2 : (w5.alloc (.cells #[.int .i64 σ'.e, .int .i64 σ'.t, .int .i64 0, .string ⟨#[]⟩] 42)).cell? ⟨bw, 2, none⟩ = some (.int .i64 0) := bw5.cell 2
  have r3 : (w5.alloc (.cells #[.int .i64 σ'.e, .int .i64 σ'.t, .int .i64 0, .string ⟨#[]⟩] 42)).cell? ⟨bw, 3, none⟩ = some (.string ⟨#[]⟩) := bw5.cell 3
  have s0 : (w5.alloc (.cells #[.int .i64 σ'.e, .int .i64 σ'.t, .int .i64 0, .string ⟨#[]⟩] 42)).cell? ⟨bn, 0, none⟩ = some (.int .i64 σ'.e) := bn5.cell 0
  have s1 : (w5.alloc (.cells #[.int .i64 σ'.e, .int .i64 σ'.t, .int .i64 0, .string ⟨#[]⟩] 42)).cell? ⟨bn, 1, none⟩ = some (.int .i64 σ'.t) := bn5.cell 1
  have s2 : (w5.alloc (.cells #[.int .i64 σ'.e, .int .i64 σ'.t, .int .i64 0, .string ⟨#[]⟩] 42)).cell? ⟨bn, 2, none⟩ = some (.int .i64 0) := bn5.cell 2
  have s3 : (w5.alloc (.cells #[.int .i64 σ'.e, .int .i64 σ'.t, .int .i64 0, .string ⟨#[]⟩] 42)).cell? ⟨bn, 3, none⟩ = some (.string ⟨#[]⟩) := bn5.cell 3
  have KVH : Hid (KV w (w5.alloc (.cells #[.int .i64 σ'.e, .int .i64 σ'.t, .int .i64 0, .string ⟨#[]⟩] 42)) x g σ σ' bn) := hide ⟨c5', R5', b5, bn5, unhide hxgH, (fun h => by
    have h1 := unhide bnl
    have h2 := unhide xlH
    omega), (fun h => by
    have h1 := unhide bnl
    have h2 := unhide glH
    omega)⟩
  have cellsH : Hid ((w5.alloc (.cells #[.int .i64 σ'.e, .int .i64 σ'.t, .int .i64 0, .string ⟨#[]⟩] 42)).cell? ⟨bo, 0, none⟩ = some (.int .i64 xk) ∧ (w5.alloc (.cells #[.int .i64 σ'.e, .int .i64 σ'.t, .int .i64 0, .string ⟨#[]⟩] 42)).cell? ⟨bo, 1, none⟩ = some (.int .i64 xa) ∧ (w5.alloc (.cells #[.int .i64 σ'.e, .int .i64 σ'.t, .int .i64 0, .string ⟨#[]⟩] 42)).cell? ⟨bo, 2, none⟩ = some (.int .i64 xb) ∧ (w5.alloc (.cells #[.int .i64 σ'.e, .int .i64 σ'.t, .int .i64 0, .string ⟨#[]⟩] 42)).cell? ⟨bo, 3, none⟩ = some (.int .i64 xc) ∧ (w5.alloc (.cells #[.int .i64 σ'.e, .int .i64 σ'.t, .int .i64 0, .string ⟨#[]⟩] 42)).cell? ⟨bo, 4, none⟩ = some (.string xs) ∧ (w5.alloc (.cells #[.int .i64 σ'.e, .int .i64 σ'.t, .int .i64 0, .string ⟨#[]⟩] 42)).cell? ⟨bo, 5, none⟩ = some (.string xt) ∧ (w5.alloc (.cells #[.int .i64 σ'.e, .int .i64 σ'.t, .int .i64 0, .string ⟨#[]⟩] 42)).cell? ⟨ba, 0, none⟩ = some (.int .i64 E) ∧ (w5.alloc (.cells #[.int .i64 σ'.e, .int .i64 σ'.t, .int .i64 0, .string ⟨#[]⟩] 42)).cell? ⟨ba, 1, none⟩ = some (.int .i64 N) ∧ (w5.alloc (.cells #[.int .i64 σ'.e, .int .i64 σ'.t, .int .i64 0, .string ⟨#[]⟩] 42)).cell? ⟨ba, 2, none⟩ = some (.int .i64 M) ∧ (w5.alloc (.cells #[.int .i64 σ'.e, .int .i64 σ'.t, .int .i64 0, .string ⟨#[]⟩] 42)).cell? ⟨ba, 3, none⟩ = some (.string Z) ∧ (w5.alloc (.cells #[.int .i64 σ'.e, .int .i64 σ'.t, .int .i64 0, .string ⟨#[]⟩] 42)).cell? ⟨bw, 0, none⟩ = some (.int .i64 σ.e) ∧ (w5.alloc (.cells #[.int .i64 σ'.e, .int .i64 σ'.t, .int .i64 0, .string ⟨#[]⟩] 42)).cell? ⟨bw, 1, none⟩ = some (.int .i64 σ.t) ∧ (w5.alloc (.cells #[.int .i64 σ'.e, .int .i64 σ'.t, .int .i64 0, .string ⟨#[]⟩] 42)).cell? ⟨bw, 2, none⟩ = some (.int .i64 0) ∧ (w5.alloc (.cells #[.int .i64 σ'.e, .int .i64 σ'.t, .int .i64 0, .string ⟨#[]⟩] 42)).cell? ⟨bw, 3, none⟩ = some (.string ⟨#[]⟩) ∧ (w5.alloc (.cells #[.int .i64 σ'.e, .int .i64 σ'.t, .int .i64 0, .string ⟨#[]⟩] 42)).cell? ⟨bn, 0, none⟩ = some (.int .i64 σ'.e) ∧ (w5.alloc (.cells #[.int .i64 σ'.e, .int .i64 σ'.t, .int .i64 0, .string ⟨#[]⟩] 42)).cell? ⟨bn, 1, none⟩ = some (.int .i64 σ'.t) ∧ (w5.alloc (.cells #[.int .i64 σ'.e, .int .i64 σ'.t, .int .i64 0, .string ⟨#[]⟩] 42)).cell? ⟨bn, 2, none⟩ = some (.int .i64 0) ∧ (w5.alloc (.cells #[.int .i64 σ'.e, .int .i64 σ'.t, .int .i64 0, .string ⟨#[]⟩] 42)).cell? ⟨bn, 3, none⟩ = some (.string ⟨#[]⟩)) := hide ⟨o0, o1, o2, o3, o4, o5, p0, p1, p2, p3, r0, r1, r2, r3, s0, s1, s2, s3⟩
  clear bn5 b5 R5' c5' bo5 bw5 ba5 al5 c5 R5 ch5 q4 bo3H b3H bw3H ba3H c3H o0 o1 o2 o3 o4 o5 p0 p1 p2 p3 r0 r1 r2 r3 s0 s1 s2 s3
  rename_i hK K2 hK2
  have hKH := hide hK
  clear hK
  go_wp2_with fail
  refine unhide hKH _ _ ?_
  obtain ⟨o0, o1, o2, o3, o4, o5, p0, p1, p2, p3, r0, r1, r2, r3, s0, s1, s2, s3⟩ := unhide cellsH
  clear cellsH hbn
  by_cases hE : E = 0
  · by_cases hp : pureK xk
    · rcases hp with k1 | k1 | k1
      · refine mid_p00 w _ x g bo bw ba bn σ σ' S0 S1 Z xs xt E N M xk xa xb xc k1 hE IH InH hS0H hS1H hAnH hNxH KVH o0 o1 o2 o3 o4 o5 p0 p1 p2 p3 r0 r1 r2 r3 s0 s1 s2 s3 _ _ _ _ _ _ _ _ _ _ _ _ _ _ _ _ _ _ _ _ _ _ _ _ _ _ _ _ _ _ _ _ _ _ _ _ _ _ _ _ _ _ _ _ _ _ _ _ _ _ _ _ _ _ _ _ _ _ _ _ _ _ _ _ _ _ _ _ _ _ _ _ _ _ _ _ _ _ _ _ _ _ _ _ _ _ _ _ _ _ _ _ _ _ _ _ _ _ _ _ _ _ _ _ _ _ _ (fun (ex : Ending) (w' : World) => ex = .returned (.bool true) ∧ Chg (fun k => k = x ∨ k = g) w w' ∧ Rep w' x (nextP σ ⟨xk, xa, xb, xc, xs, xt⟩) ∧ Blk w' g 29 (ghC (nextP σ ⟨xk, xa, xb, xc, xs, xt⟩))) (hide (fun wx K => ⟨rfl, K.chg, by first | exact K.rep | (rw [unhide hNxH]; exact K.rep), by first | exact K.gh | (rw [unhide hNxH]; exact K.gh)⟩))
      · refine mid_p10 w _ x g bo bw ba bn σ σ' S0 S1 Z xs xt E N M xk xa xb xc k1 hE IH InH hS0H hS1H hAnH hNxH KVH o0 o1 o2 o3 o4 o5 p0 p1 p2 p3 r0 r1 r2 r3 s0 s1 s2 s3 _ _ _ _ _ _ _ _ _ _ _ _ _ _ _ _ _ _ _ _ _ _ _ _ _ _ _ _ _ _ _ _ _ _ _ _ _ _ _ _ _ _ _ _ _ _ _ _ _ _ _ _ _ _ _ _ _ _ _ _ _ _ _ _ _ _ _ _ _ _ _ _ _ _ _ _ _ _ _ _ _ _ _ _ _ _ _ _ _ _ _ _ _ _ _ _ _ _ _ _ _ _ _ _ _ _ _ (fun (ex : Ending) (w' : World) => ex = .returned (.bool true) ∧ Chg (fun k => k = x ∨ k = g) w w' ∧ Rep w' x (nextP σ ⟨xk, xa, xb, xc, xs, xt⟩) ∧ Blk w' g 29 (ghC (nextP σ ⟨xk, xa, xb, xc, xs, xt⟩))) (hide (fun wx K => ⟨rfl, K.chg, by first | exact K.rep | (rw [unhide hNxH]; exact K.rep), by first | exact K.gh | (rw [unhide hNxH]; exact K.gh)⟩))
      · refine mid_p20 w _ x g bo bw ba bn σ σ' S0 S1 Z xs xt E N M xk xa xb xc k1 hE IH InH hS0H hS1H hAnH hNxH KVH o0 o1 o2 o3 o4 o5 p0 p1 p2 p3 r0 r1 r2 r3 s0 s1 s2 s3 _ _ _ _ _ _ _ _ _ _ _ _ _ _ _ _ _ _ _ _ _ _ _ _ _ _ _ _ _ _ _ _ _ _ _ _ _ _ _ _ _ _ _ _ _ _ _ _ _ _ _ _ _ _ _ _ _ _ _ _ _ _ _ _ _ _ _ _ _ _ _ _ _ _ _ _ _ _ _ _ _ _ _ _ _ _ _ _ _ _ _ _ _ _ _ _ _ _ _ _ _ _ _ _ _ _ _ (fun (ex : Ending) (w' : World) => ex = .returned (.bool true) ∧ Chg (fun k => k = x ∨ k = g) w w' ∧ Rep w' x (nextP σ ⟨xk, xa, xb, xc, xs, xt⟩) ∧ Blk w' g 29 (ghC (nextP σ ⟨xk, xa, xb, xc, xs, xt⟩))) (hide (fun wx K => ⟨rfl, K.chg, by first | exact K.rep | (rw [unhide hNxH]; exact K.rep), by first | exact K.gh | (rw [unhide hNxH]; exact K.gh)⟩))
    · by_cases k7 : xk = 7
      · refine mid_t7 w _ x g bo bw ba bn σ σ' S0 S1 Z xs xt E N M xk xa xb xc k7 hE IH InH hS0H hS1H hAnH hNxH KVH o0 o1 o2 o3 o4 o5 p0 p1 p2 p3 r0 r1 r2 r3 s0 s1 s2 s3 _ _ _ _ _ _ _ _ _ _ _ _ _ _ _ _ _ _ _ _ _ _ _ _ _ _ _ _ _ _ _ _ _ _ _ _ _ _ _ _ _ _ _ _ _ _ _ _ _ _ _ _ _ _ _ _ _ _ _ _ _ _ _ _ _ _ _ _ _ _ _ _ _ _ _ _ _ _ _ _ _ _ _ _ _ _ _ _ _ _ _ _ _ _ _ _ _ _ _ _ _ _ _ _ _ _ _ (fun (ex : Ending) (w' : World) => ex = .returned (.bool true) ∧ Chg (fun k => k = x ∨ k = g) w w' ∧ Rep w' x (nextP σ ⟨xk, xa, xb, xc, xs, xt⟩) ∧ Blk w' g 29 (ghC (nextP σ ⟨xk, xa, xb, xc, xs, xt⟩))) (hide (fun wx K => ⟨rfl, K.chg, by first | exact K.rep | (rw [unhide hNxH]; exact K.rep), by first | exact K.gh | (rw [unhide hNxH]; exact K.gh)⟩))
      · refine mid_t1 w _ x g bo bw ba bn σ σ' S0 S1 Z xs xt E N M xk xa xb xc hp k7 hE IH InH hS0H hS1H hAnH hNxH KVH o0 o1 o2 o3 o4 o5 p0 p1 p2 p3 r0 r1 r2 r3 s0 s1 s2 s3 _ _ _ _ _ _ _ _ _ _ _ _ _ _ _ _ _ _ _ _ _ _ _ _ _ _ _ _ _ _ _ _ _ _ _ _ _ _ _ _ _ _ _ _ _ _ _ _ _ _ _ _ _ _ _ _ _ _ _ _ _ _ _ _ _ _ _ _ _ _ _ _ _ _ _ _ _ _ _ _ _ _ _ _ _ _ _ _ _ _ _ _ _ _ _ _ _ _ _ _ _ _ _ _ _ _ _ (fun (ex : Ending) (w' : World) => ex = .returned (.bool true) ∧ Chg (fun k => k = x ∨ k = g) w w' ∧ Rep w' x (nextP σ ⟨xk, xa, xb, xc, xs, xt⟩) ∧ Blk w' g 29 (ghC (nextP σ ⟨xk, xa, xb, xc, xs, xt⟩))) (hide (fun wx K => ⟨rfl, K.chg, by first | exact K.rep | (rw [unhide hNxH]; exact K.rep), by first | exact K.gh | (rw [unhide hNxH]; exact K.gh)⟩))
  · by_cases hp : pureK xk
    · rcases hp with k1 | k1 | k1
      · refine mid_p01 w _ x g bo bw ba bn σ σ' S0 S1 Z xs xt E N M xk xa xb xc k1 hE IH InH hS0H hS1H hAnH hNxH KVH o0 o1 o2 o3 o4 o5 p0 p1 p2 p3 r0 r1 r2 r3 s0 s1 s2 s3 _ _ _ _ _ _ _ _ _ _ _ _ _ _ _ _ _ _ _ _ _ _ _ _ _ _ _ _ _ _ _ _ _ _ _ _ _ _ _ _ _ _ _ _ _ _ _ _ _ _ _ _ _ _ _ _ _ _ _ _ _ _ _ _ _ _ _ _ _ _ _ _ _ _ _ _ _ _ _ _ _ _ _ _ _ _ _ _ _ _ _ _ _ _ _ _ _ _ _ _ _ _ _ _ _ _ _ (fun (ex : Ending) (w' : World) => ex = .returned (.bool true) ∧ Chg (fun k => k = x ∨ k = g) w w' ∧ Rep w' x (nextP σ ⟨xk, xa, xb, xc, xs, xt⟩) ∧ Blk w' g 29 (ghC (nextP σ ⟨xk, xa, xb, xc, xs, xt⟩))) (hide (fun wx K => ⟨rfl, K.chg, by first | exact K.rep | (rw [unhide hNxH]; exact K.rep), by first | exact K.gh | (rw [unhide hNxH]; exact K.gh)⟩))
      · refine mid_p11 w _ x g bo bw ba bn σ σ' S0 S1 Z xs xt E N M xk xa xb xc k1 hE IH InH hS0H hS1H hAnH hNxH KVH o0 o1 o2 o3 o4 o5 p0 p1 p2 p3 r0 r1 r2 r3 s0 s1 s2 s3 _ _ _ _ _ _ _ _ _ _ _ _ _ _ _ _ _ _ _ _ _ _ _ _ _ _ _ _ _ _ _ _ _ _ _ _ _ _ _ _ _ _ _ _ _ _ _ _ _ _ _ _ _ _ _ _ _ _ _ _ _ _ _ _ _ _ _ _ _ _ _ _ _ _ _ _ _ _ _ _ _ _ _ _ _ _ _ _ _ _ _ _ _ _ _ _ _ _ _ _ _ _ _ _ _ _ _ (fun (ex : Ending) (w' : World) => ex = .returned (.bool true) ∧ Chg (fun k => k = x ∨ k = g) w w' ∧ Rep w' x (nextP σ ⟨xk, xa, xb, xc, xs, xt⟩) ∧ Blk w' g 29 (ghC (nextP σ ⟨xk, xa, xb, xc, xs, xt⟩))) (hide (fun wx K => ⟨rfl, K.chg, by first | exact K.rep | (rw [unhide hNxH]; exact K.rep), by first | exact K.gh | (rw [unhide hNxH]; exact K.gh)⟩))
      · refine mid_p21 w _ x g bo bw ba bn σ σ' S0 S1 Z xs xt E N M xk xa xb xc k1 hE IH InH hS0H hS1H hAnH hNxH KVH o0 o1 o2 o3 o4 o5 p0 p1 p2 p3 r0 r1 r2 r3 s0 s1 s2 s3 _ _ _ _ _ _ _ _ _ _ _ _ _ _ _ _ _ _ _ _ _ _ _ _ _ _ _ _ _ _ _ _ _ _ _ _ _ _ _ _ _ _ _ _ _ _ _ _ _ _ _ _ _ _ _ _ _ _ _ _ _ _ _ _ _ _ _ _ _ _ _ _ _ _ _ _ _ _ _ _ _ _ _ _ _ _ _ _ _ _ _ _ _ _ _ _ _ _ _ _ _ _ _ _ _ _ _ (fun (ex : Ending) (w' : World) => ex = .returned (.bool true) ∧ Chg (fun k => k = x ∨ k = g) w w' ∧ Rep w' x (nextP σ ⟨xk, xa, xb, xc, xs, xt⟩) ∧ Blk w' g 29 (ghC (nextP σ ⟨xk, xa, xb, xc, xs, xt⟩))) (hide (fun wx K => ⟨rfl, K.chg, by first | exact K.rep | (rw [unhide hNxH]; exact K.rep), by first | exact K.gh | (rw [unhide hNxH]; exact K.gh)⟩))
    · refine mid_te w _ x g bo bw ba bn σ σ' S0 S1 Z xs xt E N M xk xa xb xc hp hE IH InH hS0H hS1H hAnH hNxH KVH o0 o1 o2 o3 o4 o5 p0 p1 p2 p3 r0 r1 r2 r3 s0 s1 s2 s3 _ _ _ _ _ _ _ _ _ _ _ _ _ _ _ _ _ _ _ _ _ _ _ _ _ _ _ _ _ _ _ _ _ _ _ _ _ _ _ _ _ _ _ _ _ _ _ _ _ _ _ _ _ _ _ _ _ _ _ _ _ _ _ _ _ _ _ _ _ _ _ _ _ _ _ _ _ _ _ _ _ _ _ _ _ _ _ _ _ _ _ _ _ _ _ _ _ _ _ _ _ _ _ _ _ _ _ (fun (ex : Ending) (w' : World) => ex = .returned (.bool true) ∧ Chg (fun k => k = x ∨ k = g) w w' ∧ Rep w' x (nextP σ ⟨xk, xa, xb, xc, xs, xt⟩) ∧ Blk w' g 29 (ghC (nextP σ ⟨xk, xa, xb, xc, xs, xt⟩))) (hide (fun wx K => ⟨rfl, K.chg, by first | exact K.rep | (rw [unhide hNxH]; exact K.rep), by first | exact K.gh | (rw [unhide hNxH]; exact K.gh)⟩))
end Go.Proofs.Qxb6500365a
