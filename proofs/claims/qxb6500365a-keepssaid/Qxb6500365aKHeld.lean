/-
  Keeps: Held, kind by kind. (gen65h.py)
-/
import Derived.Test.Qxb6500365aKNear
namespace Go.Proofs.Qxb6500365a
open Go.RowKit Go.Qx Ieee
set_option linter.unusedSimpArgs false
set_option linter.unusedVariables false

/-- The law's own six ints. -/
def ghC (S : GS) : List Value := [.int .i64 S.d, .int .i64 S.q, .int .i64 S.n, .int .i64 S.s, .int .i64 S.v, .int .i64 S.k]

set_option maxHeartbeats 4000000 in
set_option maxRecDepth 100000 in
theorem held_ticks_true (w : World) (g : Nat) (S : GS) (b : Blk w g 29 (ghC S)) (I : Inv S) (hB : binP S.d = true)  :
    Calls Try.prog 14 #[.pointer (some ⟨g, 0, none⟩), .int .i64 6, ansv S.e S.t 0 ⟨#[]⟩, ansv S.e S.t 0 ⟨#[]⟩] w fun ex w' => ex = .returned (.bool true) ∧ Quiet w w' := by
  have hb := hide (fun W => isBinary_any W S.d I.ten)
  rw [hB] at hb
  unfold ghC at b
  have al : Quiet w (((w.alloc (.cells #[.int .i64 S.e, .int .i64 S.t, .int .i64 0, .string ⟨#[]⟩] 42)).alloc (.cells #[.int .i64 S.e, .int .i64 S.t, .int .i64 0, .string ⟨#[]⟩] 42)).alloc (.cells #[.int .i64 11, .int .i64 0, .int .i64 0, .string ⟨#[]⟩] 42)) := (((Chg.refl _ _).alloc _).alloc _).alloc _
  have c0 := Quiet.cell al (show w.cell? ⟨g, 0, none⟩ = some (.int .i64 S.d) from b.cell 0)
  have c3 := Quiet.cell al (show w.cell? ⟨g, 3, none⟩ = some (.int .i64 S.s) from b.cell 3)
  have al2 : Quiet w (((w.alloc (.cells #[.int .i64 S.e, .int .i64 S.t, .int .i64 0, .string ⟨#[]⟩] 42)).alloc (.cells #[.int .i64 S.e, .int .i64 S.t, .int .i64 0, .string ⟨#[]⟩] 42)).alloc (.cells #[.int .i64 0, .int .i64 S.s, .int .i64 0, .string ⟨#[]⟩] 42)) := (((Chg.refl _ _).alloc _).alloc _).alloc _
  have al2H := hide al2
  clear al2
  unfold ansv ansC
  clear I b hB al
  obtain ⟨d, t, e, q, n, s, v, k⟩ := S
  dsimp only at *
  go_enter Try.func14, Try.ntmps14
  go_wp2_with fail
  refine (unhide hb _).mono ?_
  clear hb
  rintro ex w1 ⟨rfl, rfl⟩
  go_wp2
  go_ret
  exact ⟨rfl, unhide al2H⟩

set_option maxHeartbeats 4000000 in
set_option maxRecDepth 100000 in
theorem held_sum_true (w : World) (g : Nat) (S : GS) (b : Blk w g 29 (ghC S)) (I : Inv S) (hB : binP S.d = true)  :
    Calls Try.prog 14 #[.pointer (some ⟨g, 0, none⟩), .int .i64 8, ansv 0 S.s 0 ⟨#[]⟩, ansv S.e S.t 0 ⟨#[]⟩] w fun ex w' => ex = .returned (.bool true) ∧ Quiet w w' := by
  have hb := hide (fun W => isBinary_any W S.d I.ten)
  rw [hB] at hb
  unfold ghC at b
  have al : Quiet w (((w.alloc (.cells #[.int .i64 0, .int .i64 S.s, .int .i64 0, .string ⟨#[]⟩] 42)).alloc (.cells #[.int .i64 S.e, .int .i64 S.t, .int .i64 0, .string ⟨#[]⟩] 42)).alloc (.cells #[.int .i64 11, .int .i64 0, .int .i64 0, .string ⟨#[]⟩] 42)) := (((Chg.refl _ _).alloc _).alloc _).alloc _
  have c0 := Quiet.cell al (show w.cell? ⟨g, 0, none⟩ = some (.int .i64 S.d) from b.cell 0)
  have c3 := Quiet.cell al (show w.cell? ⟨g, 3, none⟩ = some (.int .i64 S.s) from b.cell 3)
  have al2 : Quiet w (((w.alloc (.cells #[.int .i64 0, .int .i64 S.s, .int .i64 0, .string ⟨#[]⟩] 42)).alloc (.cells #[.int .i64 S.e, .int .i64 S.t, .int .i64 0, .string ⟨#[]⟩] 42)).alloc (.cells #[.int .i64 0, .int .i64 S.s, .int .i64 0, .string ⟨#[]⟩] 42)) := (((Chg.refl _ _).alloc _).alloc _).alloc _
  have al2H := hide al2
  clear al2
  unfold ansv ansC
  clear I b hB al
  obtain ⟨d, t, e, q, n, s, v, k⟩ := S
  dsimp only at *
  go_enter Try.func14, Try.ntmps14
  go_wp2_with fail
  refine (unhide hb _).mono ?_
  clear hb
  rintro ex w1 ⟨rfl, rfl⟩
  go_wp2
  go_ret
  exact ⟨rfl, unhide al2H⟩

set_option maxHeartbeats 4000000 in
set_option maxRecDepth 100000 in
theorem held_vwap0_true (w : World) (g : Nat) (S : GS) (b : Blk w g 29 (ghC S)) (I : Inv S) (hB : binP S.d = true) (hn : S.n = 0) :
    Calls Try.prog 14 #[.pointer (some ⟨g, 0, none⟩), .int .i64 9, ansv 12 0 0 ⟨#[]⟩, ansv S.e S.t 0 ⟨#[]⟩] w fun ex w' => ex = .returned (.bool true) ∧ Quiet w w' := by
  have hb := hide (fun W => isBinary_any W S.d I.ten)
  rw [hB] at hb
  unfold ghC at b
  have al : Quiet w (((w.alloc (.cells #[.int .i64 12, .int .i64 0, .int .i64 0, .string ⟨#[]⟩] 42)).alloc (.cells #[.int .i64 S.e, .int .i64 S.t, .int .i64 0, .string ⟨#[]⟩] 42)).alloc (.cells #[.int .i64 11, .int .i64 0, .int .i64 0, .string ⟨#[]⟩] 42)) := (((Chg.refl _ _).alloc _).alloc _).alloc _
  have c0 := Quiet.cell al (show w.cell? ⟨g, 0, none⟩ = some (.int .i64 S.d) from b.cell 0)
  have c3 := Quiet.cell al (show w.cell? ⟨g, 3, none⟩ = some (.int .i64 S.s) from b.cell 3)
  have al2 : Quiet w (((w.alloc (.cells #[.int .i64 12, .int .i64 0, .int .i64 0, .string ⟨#[]⟩] 42)).alloc (.cells #[.int .i64 S.e, .int .i64 S.t, .int .i64 0, .string ⟨#[]⟩] 42)).alloc (.cells #[.int .i64 0, .int .i64 S.s, .int .i64 0, .string ⟨#[]⟩] 42)) := (((Chg.refl _ _).alloc _).alloc _).alloc _
  have d2 := Quiet.cell al2 (show w.cell? ⟨g, 2, none⟩ = some (.int .i64 S.n) from b.cell 2)
  have al2H := hide al2
  clear al2
  unfold ansv ansC
  clear I b hB al
  obtain ⟨d, t, e, q, n, s, v, k⟩ := S
  dsimp only at *
  go_enter Try.func14, Try.ntmps14
  go_wp2_with fail
  refine (unhide hb _).mono ?_
  clear hb
  rintro ex w1 ⟨rfl, rfl⟩
  subst hn
  go_wp2
  go_ret
  exact ⟨rfl, unhide al2H⟩

set_option maxHeartbeats 4000000 in
set_option maxRecDepth 100000 in
theorem held_vwap1_true (w : World) (g : Nat) (S : GS) (b : Blk w g 29 (ghC S)) (I : Inv S) (hB : binP S.d = true) (hn : S.n ≠ 0) :
    Calls Try.prog 14 #[.pointer (some ⟨g, 0, none⟩), .int .i64 9, ansv 0 (roundDiv S.k S.v) 0 ⟨#[]⟩, ansv S.e S.t 0 ⟨#[]⟩] w fun ex w' => ex = .returned (.bool true) ∧ Quiet w w' := by
  have hb := hide (fun W => isBinary_any W S.d I.ten)
  rw [hB] at hb
  unfold ghC at b
  have al : Quiet w (((w.alloc (.cells #[.int .i64 0, .int .i64 (roundDiv S.k S.v), .int .i64 0, .string ⟨#[]⟩] 42)).alloc (.cells #[.int .i64 S.e, .int .i64 S.t, .int .i64 0, .string ⟨#[]⟩] 42)).alloc (.cells #[.int .i64 11, .int .i64 0, .int .i64 0, .string ⟨#[]⟩] 42)) := (((Chg.refl _ _).alloc _).alloc _).alloc _
  have c0 := Quiet.cell al (show w.cell? ⟨g, 0, none⟩ = some (.int .i64 S.d) from b.cell 0)
  have c3 := Quiet.cell al (show w.cell? ⟨g, 3, none⟩ = some (.int .i64 S.s) from b.cell 3)
  have al2 : Quiet w (((w.alloc (.cells #[.int .i64 0, .int .i64 (roundDiv S.k S.v), .int .i64 0, .string ⟨#[]⟩] 42)).alloc (.cells #[.int .i64 S.e, .int .i64 S.t, .int .i64 0, .string ⟨#[]⟩] 42)).alloc (.cells #[.int .i64 0, .int .i64 S.s, .int .i64 0, .string ⟨#[]⟩] 42)) := (((Chg.refl _ _).alloc _).alloc _).alloc _
  have d2 := Quiet.cell al2 (show w.cell? ⟨g, 2, none⟩ = some (.int .i64 S.n) from b.cell 2)
  have d4 := Quiet.cell al2 (show w.cell? ⟨g, 4, none⟩ = some (.int .i64 S.v) from b.cell 4)
  have d5 := Quiet.cell al2 (show w.cell? ⟨g, 5, none⟩ = some (.int .i64 S.k) from b.cell 5)
  have hne := hide (fun W => near_any W S.k S.v (by have := I.k1; have := I.n1; omega) (by have := I.v1; have := I.n0; omega) (by have := I.v2; have := I.n1; omega) (by
    have h := roundDiv_le S.k S.v 1000000000000 (by have := I.v1; have := I.n0; omega) (by decide) (by have := I.k2; omega)
    omega))
  have hn1 : (S.n == 0) = false := by simpa using hn
  have hn2 : (S.n = 0) = False := eq_false hn
  clear hn
  have al2H := hide al2
  clear al2
  unfold ansv ansC
  clear I b hB al
  obtain ⟨d, t, e, q, n, s, v, k⟩ := S
  dsimp only at *
  go_enter Try.func14, Try.ntmps14
  go_wp2_with fail
  refine (unhide hb _).mono ?_
  clear hb
  rintro ex w1 ⟨rfl, rfl⟩
  generalize roundDiv k v = rd at *
  go_wp2
  go_quiet ((go_at_call 32; exact Calls.quiet_of (unhide hne _)))
  go_wp2
  go_ret
  exact ⟨rfl, (unhide al2H).drewN _⟩

set_option maxHeartbeats 4000000 in
set_option maxRecDepth 100000 in
theorem held_tenths_true (w : World) (g : Nat) (S : GS) (b : Blk w g 29 (ghC S)) (I : Inv S) (hB : binP S.d = true)  :
    Calls Try.prog 14 #[.pointer (some ⟨g, 0, none⟩), .int .i64 10, ansv 0 1 0 ⟨#[]⟩, ansv S.e S.t 0 ⟨#[]⟩] w fun ex w' => ex = .returned (.bool true) ∧ Quiet w w' := by
  have hb := hide (fun W => isBinary_any W S.d I.ten)
  rw [hB] at hb
  unfold ghC at b
  have al : Quiet w (((w.alloc (.cells #[.int .i64 0, .int .i64 1, .int .i64 0, .string ⟨#[]⟩] 42)).alloc (.cells #[.int .i64 S.e, .int .i64 S.t, .int .i64 0, .string ⟨#[]⟩] 42)).alloc (.cells #[.int .i64 11, .int .i64 0, .int .i64 0, .string ⟨#[]⟩] 42)) := (((Chg.refl _ _).alloc _).alloc _).alloc _
  have c0 := Quiet.cell al (show w.cell? ⟨g, 0, none⟩ = some (.int .i64 S.d) from b.cell 0)
  have c3 := Quiet.cell al (show w.cell? ⟨g, 3, none⟩ = some (.int .i64 S.s) from b.cell 3)
  have al2 : Quiet w (((w.alloc (.cells #[.int .i64 0, .int .i64 1, .int .i64 0, .string ⟨#[]⟩] 42)).alloc (.cells #[.int .i64 S.e, .int .i64 S.t, .int .i64 0, .string ⟨#[]⟩] 42)).alloc (.cells #[.int .i64 0, .int .i64 S.s, .int .i64 0, .string ⟨#[]⟩] 42)) := (((Chg.refl _ _).alloc _).alloc _).alloc _
  have al2H := hide al2
  clear al2
  unfold ansv ansC
  clear I b hB al
  obtain ⟨d, t, e, q, n, s, v, k⟩ := S
  dsimp only at *
  go_enter Try.func14, Try.ntmps14
  go_wp2_with fail
  refine (unhide hb _).mono ?_
  clear hb
  rintro ex w1 ⟨rfl, rfl⟩
  go_wp2
  go_ret
  exact ⟨rfl, unhide al2H⟩

set_option maxHeartbeats 4000000 in
set_option maxRecDepth 100000 in
theorem held_check_true (w : World) (g : Nat) (S : GS) (b : Blk w g 29 (ghC S)) (I : Inv S) (hB : binP S.d = true)  :
    Calls Try.prog 14 #[.pointer (some ⟨g, 0, none⟩), .int .i64 12, ansv 0 1 0 ⟨#[]⟩, ansv S.e S.t 0 ⟨#[]⟩] w fun ex w' => ex = .returned (.bool true) ∧ Quiet w w' := by
  have hb := hide (fun W => isBinary_any W S.d I.ten)
  rw [hB] at hb
  unfold ghC at b
  have al : Quiet w (((w.alloc (.cells #[.int .i64 0, .int .i64 1, .int .i64 0, .string ⟨#[]⟩] 42)).alloc (.cells #[.int .i64 S.e, .int .i64 S.t, .int .i64 0, .string ⟨#[]⟩] 42)).alloc (.cells #[.int .i64 11, .int .i64 0, .int .i64 0, .string ⟨#[]⟩] 42)) := (((Chg.refl _ _).alloc _).alloc _).alloc _
  have c0 := Quiet.cell al (show w.cell? ⟨g, 0, none⟩ = some (.int .i64 S.d) from b.cell 0)
  have c3 := Quiet.cell al (show w.cell? ⟨g, 3, none⟩ = some (.int .i64 S.s) from b.cell 3)
  have al2 : Quiet w (((w.alloc (.cells #[.int .i64 0, .int .i64 1, .int .i64 0, .string ⟨#[]⟩] 42)).alloc (.cells #[.int .i64 S.e, .int .i64 S.t, .int .i64 0, .string ⟨#[]⟩] 42)).alloc (.cells #[.int .i64 0, .int .i64 S.s, .int .i64 0, .string ⟨#[]⟩] 42)) := (((Chg.refl _ _).alloc _).alloc _).alloc _
  have al2H := hide al2
  clear al2
  unfold ansv ansC
  clear I b hB al
  obtain ⟨d, t, e, q, n, s, v, k⟩ := S
  dsimp only at *
  go_enter Try.func14, Try.ntmps14
  go_wp2_with fail
  refine (unhide hb _).mono ?_
  clear hb
  rintro ex w1 ⟨rfl, rfl⟩
  go_wp2
  go_ret
  exact ⟨rfl, unhide al2H⟩

set_option maxHeartbeats 4000000 in
set_option maxRecDepth 100000 in
theorem held_show_true (w : World) (g : Nat) (S : GS) (b : Blk w g 29 (ghC S)) (I : Inv S) (hB : binP S.d = true)  :
    Calls Try.prog 14 #[.pointer (some ⟨g, 0, none⟩), .int .i64 11, ansv 0 0 0 (str (showP S)), ansv S.e S.t 0 ⟨#[]⟩] w fun ex w' => ex = .returned (.bool true) ∧ Quiet w w' := by
  have hb := hide (fun W => isBinary_any W S.d I.ten)
  rw [hB] at hb
  unfold ghC at b
  have al : Quiet w (((w.alloc (.cells #[.int .i64 0, .int .i64 0, .int .i64 0, .string (str (showP S))] 42)).alloc (.cells #[.int .i64 S.e, .int .i64 S.t, .int .i64 0, .string ⟨#[]⟩] 42)).alloc (.cells #[.int .i64 11, .int .i64 0, .int .i64 0, .string ⟨#[]⟩] 42)) := (((Chg.refl _ _).alloc _).alloc _).alloc _
  have c0 := Quiet.cell al (show w.cell? ⟨g, 0, none⟩ = some (.int .i64 S.d) from b.cell 0)
  have c3 := Quiet.cell al (show w.cell? ⟨g, 3, none⟩ = some (.int .i64 S.s) from b.cell 3)
  have al2 : Quiet w (((w.alloc (.cells #[.int .i64 0, .int .i64 0, .int .i64 0, .string (str (showP S))] 42)).alloc (.cells #[.int .i64 S.e, .int .i64 S.t, .int .i64 0, .string ⟨#[]⟩] 42)).alloc (.cells #[.int .i64 0, .int .i64 S.s, .int .i64 0, .string ⟨#[]⟩] 42)) := (((Chg.refl _ _).alloc _).alloc _).alloc _
  have d0 := (show w.cell? ⟨g, 0, none⟩ = some (.int .i64 S.d) from b.cell 0)
  have iq1 := I.q1
  have iq2 := I.q2
  have in0 := I.n0
  have in1 := I.n1
  have iv1 := I.v1
  have iv2 := I.v2
  have ik1 := I.k1
  have is1 := I.s1
  have it1 := I.t1
  have ie0 := I.e0
  have ie1 := I.e1
  have id1 : 1 ≤ S.d ∧ S.d ≤ 10000 := by have := I.ten; unfold Ten at this; omega
  have r1 := hide (fun W => row_any W S.d S.e S.t S.q ⟨by omega, by omega⟩ ⟨by omega, by omega⟩ ⟨by omega, by omega⟩ ⟨by omega, by omega⟩)
  have r2 := hide (fun W => row_any W S.n S.s S.v S.k ⟨by omega, by omega⟩ ⟨by omega, by omega⟩ ⟨by omega, by omega⟩ ⟨by omega, by omega⟩)
  have l1 := rowP_length S.d S.e S.t S.q
  have l2 := rowP_length S.n S.s S.v S.k
  have fin : str (rowP S.d S.e S.t S.q) ++ ⟨#[59]⟩ ++ str (rowP S.n S.s S.v S.k) = str (showP S) := by
    unfold showP
    rw [show (sumP S).1 = S.s by unfold sumP; rw [hB]; rfl]
    rw [← str_append, ← str_append]; rfl
  rw [← str_size] at l1 l2
  have hX : (str (showP S)).toList == (str (showP S)).toList := by simp
  generalize str (showP S) = RR at *
  generalize str (rowP S.d S.e S.t S.q) = A at *
  generalize str (rowP S.n S.s S.v S.k) = B at *
  clear iq1 iq2 in0 in1 iv1 iv2 ik1 is1 it1 ie0 ie1 id1
  have z1 : ¬ 9223372036854775807 < A.size + 1 := by omega
  have z2 : ¬ 9223372036854775807 < A.size + 1 + B.size := by omega
  clear l1 l2
  have b2 := Quiet.blk al2 b
  have ba : Blk (((w.alloc (.cells #[.int .i64 0, .int .i64 0, .int .i64 0, .string RR] 42)).alloc (.cells #[.int .i64 S.e, .int .i64 S.t, .int .i64 0, .string ⟨#[]⟩] 42)).alloc (.cells #[.int .i64 0, .int .i64 S.s, .int .i64 0, .string ⟨#[]⟩] 42)) (w.heap.size) 42 [.int .i64 0, .int .i64 0, .int .i64 0, .string RR] := ((Blk.new w 42 [.int .i64 0, .int .i64 0, .int .i64 0, .string RR]).alloc _).alloc _
  have bn : Blk (((w.alloc (.cells #[.int .i64 0, .int .i64 0, .int .i64 0, .string RR] 42)).alloc (.cells #[.int .i64 S.e, .int .i64 S.t, .int .i64 0, .string ⟨#[]⟩] 42)).alloc (.cells #[.int .i64 0, .int .i64 S.s, .int .i64 0, .string ⟨#[]⟩] 42)) (w.heap.size + 1) 42 [.int .i64 S.e, .int .i64 S.t, .int .i64 0, .string ⟨#[]⟩] := (Blk.at_new (cs := [.int .i64 S.e, .int .i64 S.t, .int .i64 0, .string ⟨#[]⟩]) (by simp)).alloc _
  have bs : Blk (((w.alloc (.cells #[.int .i64 0, .int .i64 0, .int .i64 0, .string RR] 42)).alloc (.cells #[.int .i64 S.e, .int .i64 S.t, .int .i64 0, .string ⟨#[]⟩] 42)).alloc (.cells #[.int .i64 0, .int .i64 S.s, .int .i64 0, .string ⟨#[]⟩] 42)) (w.heap.size + 2) 42 [.int .i64 0, .int .i64 S.s, .int .i64 0, .string ⟨#[]⟩] := Blk.at_new (cs := [.int .i64 0, .int .i64 S.s, .int .i64 0, .string ⟨#[]⟩]) (by simp)
  obtain ⟨W2, hW2⟩ : ∃ W, (((w.alloc (.cells #[.int .i64 0, .int .i64 0, .int .i64 0, .string RR] 42)).alloc (.cells #[.int .i64 S.e, .int .i64 S.t, .int .i64 0, .string ⟨#[]⟩] 42)).alloc (.cells #[.int .i64 0, .int .i64 S.s, .int .i64 0, .string ⟨#[]⟩] 42)) = W := ⟨_, rfl⟩
  rw [hW2] at b2 ba bn bs al2
  have c20 : W2.cell? ⟨g, 0, none⟩ = some (.int .i64 S.d) := b2.cell 0
  have c21 : W2.cell? ⟨g, 1, none⟩ = some (.int .i64 S.q) := b2.cell 1
  have n20 : W2.cell? ⟨w.heap.size + 1, 0, none⟩ = some (.int .i64 S.e) := bn.cell 0
  have n21 : W2.cell? ⟨w.heap.size + 1, 1, none⟩ = some (.int .i64 S.t) := bn.cell 1
  have b2H := hide b2
  have baH := hide ba
  have bsH := hide bs
  have hc := QW.blk b2
  have hcn := QW.blk bn
  have hWH := hide hW2
  clear b2 ba bs bn hW2
  have al2H := hide al2
  clear al2
  unfold ansv ansC
  clear I b hB al
  obtain ⟨d, t, e, q, n, s, v, k⟩ := S
  dsimp only at *
  go_enter Try.func14, Try.ntmps14
  go_wp2_with fail
  refine (unhide hb _).mono ?_
  clear hb
  rintro ex w1 ⟨rfl, rfl⟩
  go_wp2
  rw [unhide hWH]
  clear hWH
  refine wp_region_noPanic ?_
  try simp only [List.append_eq, List.cons_append, List.nil_append]
  refine wp_region_mixq [(0, true), (1, true), (2, true), (3, true), (4, true), (5, true), (6, true), (7, true), (8, true), (9, true), (10, true), (11, true), (12, true), (13, true)] [] (by kernel_rfl) (by kernel_rfl) (fun _ _ _ _ _ h => h) ?_
  simp only [pickM, pickO, List.getElem?_cons_zero, List.getElem?_cons_succ]
  repeat (first | (refine wpMix_read rfl (fun K hK => ?_)) | (refine wpMix_pure rfl (fun K hK => ?_))
          go_big_quiet_op
          first | (refine hK _ ?_; clear hK K) | (apply Exists.intro; refine ⟨fun _ => ?_, ?_⟩; (· (first | (go_at_call 21; exact Calls.in_qw (unhide r1 _)))); refine hK _ ?_; clear hK K))
  refine wpMix_nil ?_
  intro _ hw'
  obtain ⟨qq, hw''⟩ := hw'
  subst hw''
  have hqq := qq.q
  generalize qq.w = wq at *
  have q3H := hide (Quiet.trans (unhide al2H) hqq)
  have b3 := Quiet.blk hqq (unhide b2H)
  have ba3 := Quiet.blk hqq (unhide baH)
  have bs3 := Quiet.blk hqq (unhide bsH)
  clear hc hcn hqq al2H b2H baH bsH r1 c20 c21 n20 n21
  go_wp2
  refine NoPanic.normal ?_
  have c22 : wq.cell? ⟨g, 2, none⟩ = some (.int .i64 n) := b3.cell 2
  have c24 : wq.cell? ⟨g, 4, none⟩ = some (.int .i64 v) := b3.cell 4
  have c25 : wq.cell? ⟨g, 5, none⟩ = some (.int .i64 k) := b3.cell 5
  have s21 : wq.cell? ⟨w.heap.size + 2, 1, none⟩ = some (.int .i64 s) := bs3.cell 1
  have hc := QW.blk b3
  have hcs := QW.blk bs3
  have baH := hide ba3
  clear b3 bs3 ba3
  go_wp2
  refine wp_region_noPanic ?_
  try simp only [List.append_eq, List.cons_append, List.nil_append]
  refine wp_region_mixq [(0, true), (1, true), (2, true), (3, true), (4, true), (5, true), (6, true), (7, true), (8, true), (9, true), (10, true), (11, true), (12, true), (13, true), (14, true), (15, true)] [] (by kernel_rfl) (by kernel_rfl) (fun _ _ _ _ _ h => h) ?_
  simp only [pickM, pickO, List.getElem?_cons_zero, List.getElem?_cons_succ]
  repeat (first | (refine wpMix_read rfl (fun K hK => ?_)) | (refine wpMix_pure rfl (fun K hK => ?_))
          go_big_quiet_op
          first | (refine hK _ ?_; clear hK K) | (apply Exists.intro; refine ⟨fun _ => ?_, ?_⟩; (· (first | (go_at_call 21; exact Calls.in_qw (unhide r2 _)))); refine hK _ ?_; clear hK K))
  refine wpMix_nil ?_
  intro _ hw'
  obtain ⟨qq, hw''⟩ := hw'
  subst hw''
  have hqq := qq.q
  generalize qq.w = wr at *
  have hqf := hide (Quiet.trans (unhide q3H) hqq)
  have ba4 := Quiet.blk hqq (unhide baH)
  have a0 : wr.cell? ⟨w.heap.size, 0, none⟩ = some (.int .i64 0) := ba4.cell 0
  have a1 : wr.cell? ⟨w.heap.size, 1, none⟩ = some (.int .i64 0) := ba4.cell 1
  have a2 : wr.cell? ⟨w.heap.size, 2, none⟩ = some (.int .i64 0) := ba4.cell 2
  have a3 : wr.cell? ⟨w.heap.size, 3, none⟩ = some (.string RR) := ba4.cell 3
  clear hc hcs hqq q3H c22 c24 c25 s21 r2 ba4 baH
  go_wp2
  refine NoPanic.normal ?_
  go_wp2
  go_ret
  exact ⟨rfl, unhide hqf⟩

set_option maxHeartbeats 4000000 in
set_option maxRecDepth 100000 in
theorem held_none_true (w : World) (g : Nat) (S : GS) (b : Blk w g 29 (ghC S)) (I : Inv S) (hB : binP S.d = true) (kk : Int) (aE aN aM : Int) (aS : ByteArray) (k6 : (kk == 6) = false) (k8 : (kk == 8) = false) (k9 : (kk == 9) = false) (k10 : (kk == 10) = false) (k11 : (kk == 11) = false) (k12 : (kk == 12) = false) :
    Calls Try.prog 14 #[.pointer (some ⟨g, 0, none⟩), .int .i64 kk, ansv aE aN 0 aS, ansv S.e S.t 0 ⟨#[]⟩] w fun ex w' => ex = .returned (.bool true) ∧ Quiet w w' := by
  have hb := hide (fun W => isBinary_any W S.d I.ten)
  rw [hB] at hb
  unfold ghC at b
  have al : Quiet w (((w.alloc (.cells #[.int .i64 aE, .int .i64 aN, .int .i64 0, .string aS] 42)).alloc (.cells #[.int .i64 S.e, .int .i64 S.t, .int .i64 0, .string ⟨#[]⟩] 42)).alloc (.cells #[.int .i64 11, .int .i64 0, .int .i64 0, .string ⟨#[]⟩] 42)) := (((Chg.refl _ _).alloc _).alloc _).alloc _
  have c0 := Quiet.cell al (show w.cell? ⟨g, 0, none⟩ = some (.int .i64 S.d) from b.cell 0)
  have c3 := Quiet.cell al (show w.cell? ⟨g, 3, none⟩ = some (.int .i64 S.s) from b.cell 3)
  have al2 : Quiet w (((w.alloc (.cells #[.int .i64 aE, .int .i64 aN, .int .i64 0, .string aS] 42)).alloc (.cells #[.int .i64 S.e, .int .i64 S.t, .int .i64 0, .string ⟨#[]⟩] 42)).alloc (.cells #[.int .i64 0, .int .i64 S.s, .int .i64 0, .string ⟨#[]⟩] 42)) := (((Chg.refl _ _).alloc _).alloc _).alloc _
  have al2H := hide al2
  clear al2
  unfold ansv ansC
  clear I b hB al
  obtain ⟨d, t, e, q, n, s, v, k⟩ := S
  dsimp only at *
  go_enter Try.func14, Try.ntmps14
  go_wp2_with fail
  refine (unhide hb _).mono ?_
  clear hb
  rintro ex w1 ⟨rfl, rfl⟩
  go_wp2
  go_ret
  exact ⟨rfl, unhide al2H⟩

set_option maxHeartbeats 4000000 in
set_option maxRecDepth 100000 in
theorem held_ticks_false (w : World) (g : Nat) (S : GS) (b : Blk w g 29 (ghC S)) (I : Inv S) (hB : binP S.d = false)  :
    Calls Try.prog 14 #[.pointer (some ⟨g, 0, none⟩), .int .i64 6, ansv S.e S.t 0 ⟨#[]⟩, ansv S.e S.t 0 ⟨#[]⟩] w fun ex w' => ex = .returned (.bool true) ∧ Quiet w w' := by
  have hb := hide (fun W => isBinary_any W S.d I.ten)
  rw [hB] at hb
  unfold ghC at b
  have al : Quiet w (((w.alloc (.cells #[.int .i64 S.e, .int .i64 S.t, .int .i64 0, .string ⟨#[]⟩] 42)).alloc (.cells #[.int .i64 S.e, .int .i64 S.t, .int .i64 0, .string ⟨#[]⟩] 42)).alloc (.cells #[.int .i64 11, .int .i64 0, .int .i64 0, .string ⟨#[]⟩] 42)) := (((Chg.refl _ _).alloc _).alloc _).alloc _
  have c0 := Quiet.cell al (show w.cell? ⟨g, 0, none⟩ = some (.int .i64 S.d) from b.cell 0)
  have c3 := Quiet.cell al (show w.cell? ⟨g, 3, none⟩ = some (.int .i64 S.s) from b.cell 3)
  have al2 : Quiet w (((w.alloc (.cells #[.int .i64 S.e, .int .i64 S.t, .int .i64 0, .string ⟨#[]⟩] 42)).alloc (.cells #[.int .i64 S.e, .int .i64 S.t, .int .i64 0, .string ⟨#[]⟩] 42)).alloc (.cells #[.int .i64 11, .int .i64 0, .int .i64 0, .string ⟨#[]⟩] 42)) := (((Chg.refl _ _).alloc _).alloc _).alloc _
  have al2H := hide al2
  clear al2
  unfold ansv ansC
  clear I b hB al
  obtain ⟨d, t, e, q, n, s, v, k⟩ := S
  dsimp only at *
  go_enter Try.func14, Try.ntmps14
  go_wp2_with fail
  refine (unhide hb _).mono ?_
  clear hb
  rintro ex w1 ⟨rfl, rfl⟩
  go_wp2
  go_ret
  exact ⟨rfl, unhide al2H⟩

set_option maxHeartbeats 4000000 in
set_option maxRecDepth 100000 in
theorem held_sum_false (w : World) (g : Nat) (S : GS) (b : Blk w g 29 (ghC S)) (I : Inv S) (hB : binP S.d = false)  :
    Calls Try.prog 14 #[.pointer (some ⟨g, 0, none⟩), .int .i64 8, ansv 11 0 0 ⟨#[]⟩, ansv S.e S.t 0 ⟨#[]⟩] w fun ex w' => ex = .returned (.bool true) ∧ Quiet w w' := by
  have hb := hide (fun W => isBinary_any W S.d I.ten)
  rw [hB] at hb
  unfold ghC at b
  have al : Quiet w (((w.alloc (.cells #[.int .i64 11, .int .i64 0, .int .i64 0, .string ⟨#[]⟩] 42)).alloc (.cells #[.int .i64 S.e, .int .i64 S.t, .int .i64 0, .string ⟨#[]⟩] 42)).alloc (.cells #[.int .i64 11, .int .i64 0, .int .i64 0, .string ⟨#[]⟩] 42)) := (((Chg.refl _ _).alloc _).alloc _).alloc _
  have c0 := Quiet.cell al (show w.cell? ⟨g, 0, none⟩ = some (.int .i64 S.d) from b.cell 0)
  have c3 := Quiet.cell al (show w.cell? ⟨g, 3, none⟩ = some (.int .i64 S.s) from b.cell 3)
  have al2 : Quiet w (((w.alloc (.cells #[.int .i64 11, .int .i64 0, .int .i64 0, .string ⟨#[]⟩] 42)).alloc (.cells #[.int .i64 S.e, .int .i64 S.t, .int .i64 0, .string ⟨#[]⟩] 42)).alloc (.cells #[.int .i64 11, .int .i64 0, .int .i64 0, .string ⟨#[]⟩] 42)) := (((Chg.refl _ _).alloc _).alloc _).alloc _
  have al2H := hide al2
  clear al2
  unfold ansv ansC
  clear I b hB al
  obtain ⟨d, t, e, q, n, s, v, k⟩ := S
  dsimp only at *
  go_enter Try.func14, Try.ntmps14
  go_wp2_with fail
  refine (unhide hb _).mono ?_
  clear hb
  rintro ex w1 ⟨rfl, rfl⟩
  go_wp2
  go_ret
  exact ⟨rfl, unhide al2H⟩

set_option maxHeartbeats 4000000 in
set_option maxRecDepth 100000 in
theorem held_vwap0_false (w : World) (g : Nat) (S : GS) (b : Blk w g 29 (ghC S)) (I : Inv S) (hB : binP S.d = false) (hn : S.n = 0) :
    Calls Try.prog 14 #[.pointer (some ⟨g, 0, none⟩), .int .i64 9, ansv 12 0 0 ⟨#[]⟩, ansv S.e S.t 0 ⟨#[]⟩] w fun ex w' => ex = .returned (.bool true) ∧ Quiet w w' := by
  have hb := hide (fun W => isBinary_any W S.d I.ten)
  rw [hB] at hb
  unfold ghC at b
  have al : Quiet w (((w.alloc (.cells #[.int .i64 12, .int .i64 0, .int .i64 0, .string ⟨#[]⟩] 42)).alloc (.cells #[.int .i64 S.e, .int .i64 S.t, .int .i64 0, .string ⟨#[]⟩] 42)).alloc (.cells #[.int .i64 11, .int .i64 0, .int .i64 0, .string ⟨#[]⟩] 42)) := (((Chg.refl _ _).alloc _).alloc _).alloc _
  have c0 := Quiet.cell al (show w.cell? ⟨g, 0, none⟩ = some (.int .i64 S.d) from b.cell 0)
  have c3 := Quiet.cell al (show w.cell? ⟨g, 3, none⟩ = some (.int .i64 S.s) from b.cell 3)
  have al2 : Quiet w (((w.alloc (.cells #[.int .i64 12, .int .i64 0, .int .i64 0, .string ⟨#[]⟩] 42)).alloc (.cells #[.int .i64 S.e, .int .i64 S.t, .int .i64 0, .string ⟨#[]⟩] 42)).alloc (.cells #[.int .i64 11, .int .i64 0, .int .i64 0, .string ⟨#[]⟩] 42)) := (((Chg.refl _ _).alloc _).alloc _).alloc _
  have d2 := Quiet.cell al2 (show w.cell? ⟨g, 2, none⟩ = some (.int .i64 S.n) from b.cell 2)
  have al2H := hide al2
  clear al2
  unfold ansv ansC
  clear I b hB al
  obtain ⟨d, t, e, q, n, s, v, k⟩ := S
  dsimp only at *
  go_enter Try.func14, Try.ntmps14
  go_wp2_with fail
  refine (unhide hb _).mono ?_
  clear hb
  rintro ex w1 ⟨rfl, rfl⟩
  subst hn
  go_wp2
  go_ret
  exact ⟨rfl, unhide al2H⟩

set_option maxHeartbeats 4000000 in
set_option maxRecDepth 100000 in
theorem held_vwap1_false (w : World) (g : Nat) (S : GS) (b : Blk w g 29 (ghC S)) (I : Inv S) (hB : binP S.d = false) (hn : S.n ≠ 0) :
    Calls Try.prog 14 #[.pointer (some ⟨g, 0, none⟩), .int .i64 9, ansv 0 (roundDiv S.k S.v) 0 ⟨#[]⟩, ansv S.e S.t 0 ⟨#[]⟩] w fun ex w' => ex = .returned (.bool true) ∧ Quiet w w' := by
  have hb := hide (fun W => isBinary_any W S.d I.ten)
  rw [hB] at hb
  unfold ghC at b
  have al : Quiet w (((w.alloc (.cells #[.int .i64 0, .int .i64 (roundDiv S.k S.v), .int .i64 0, .string ⟨#[]⟩] 42)).alloc (.cells #[.int .i64 S.e, .int .i64 S.t, .int .i64 0, .string ⟨#[]⟩] 42)).alloc (.cells #[.int .i64 11, .int .i64 0, .int .i64 0, .string ⟨#[]⟩] 42)) := (((Chg.refl _ _).alloc _).alloc _).alloc _
  have c0 := Quiet.cell al (show w.cell? ⟨g, 0, none⟩ = some (.int .i64 S.d) from b.cell 0)
  have c3 := Quiet.cell al (show w.cell? ⟨g, 3, none⟩ = some (.int .i64 S.s) from b.cell 3)
  have al2 : Quiet w (((w.alloc (.cells #[.int .i64 0, .int .i64 (roundDiv S.k S.v), .int .i64 0, .string ⟨#[]⟩] 42)).alloc (.cells #[.int .i64 S.e, .int .i64 S.t, .int .i64 0, .string ⟨#[]⟩] 42)).alloc (.cells #[.int .i64 11, .int .i64 0, .int .i64 0, .string ⟨#[]⟩] 42)) := (((Chg.refl _ _).alloc _).alloc _).alloc _
  have d2 := Quiet.cell al2 (show w.cell? ⟨g, 2, none⟩ = some (.int .i64 S.n) from b.cell 2)
  have d4 := Quiet.cell al2 (show w.cell? ⟨g, 4, none⟩ = some (.int .i64 S.v) from b.cell 4)
  have d5 := Quiet.cell al2 (show w.cell? ⟨g, 5, none⟩ = some (.int .i64 S.k) from b.cell 5)
  have hne := hide (fun W => near_any W S.k S.v (by have := I.k1; have := I.n1; omega) (by have := I.v1; have := I.n0; omega) (by have := I.v2; have := I.n1; omega) (by
    have h := roundDiv_le S.k S.v 1000000000000 (by have := I.v1; have := I.n0; omega) (by decide) (by have := I.k2; omega)
    omega))
  have hn1 : (S.n == 0) = false := by simpa using hn
  have hn2 : (S.n = 0) = False := eq_false hn
  clear hn
  have al2H := hide al2
  clear al2
  unfold ansv ansC
  clear I b hB al
  obtain ⟨d, t, e, q, n, s, v, k⟩ := S
  dsimp only at *
  go_enter Try.func14, Try.ntmps14
  go_wp2_with fail
  refine (unhide hb _).mono ?_
  clear hb
  rintro ex w1 ⟨rfl, rfl⟩
  generalize roundDiv k v = rd at *
  go_wp2
  go_quiet ((go_at_call 32; exact Calls.quiet_of (unhide hne _)))
  go_wp2
  go_ret
  exact ⟨rfl, (unhide al2H).drewN _⟩

set_option maxHeartbeats 4000000 in
set_option maxRecDepth 100000 in
theorem held_tenths_false (w : World) (g : Nat) (S : GS) (b : Blk w g 29 (ghC S)) (I : Inv S) (hB : binP S.d = false)  :
    Calls Try.prog 14 #[.pointer (some ⟨g, 0, none⟩), .int .i64 10, ansv 0 1 0 ⟨#[]⟩, ansv S.e S.t 0 ⟨#[]⟩] w fun ex w' => ex = .returned (.bool true) ∧ Quiet w w' := by
  have hb := hide (fun W => isBinary_any W S.d I.ten)
  rw [hB] at hb
  unfold ghC at b
  have al : Quiet w (((w.alloc (.cells #[.int .i64 0, .int .i64 1, .int .i64 0, .string ⟨#[]⟩] 42)).alloc (.cells #[.int .i64 S.e, .int .i64 S.t, .int .i64 0, .string ⟨#[]⟩] 42)).alloc (.cells #[.int .i64 11, .int .i64 0, .int .i64 0, .string ⟨#[]⟩] 42)) := (((Chg.refl _ _).alloc _).alloc _).alloc _
  have c0 := Quiet.cell al (show w.cell? ⟨g, 0, none⟩ = some (.int .i64 S.d) from b.cell 0)
  have c3 := Quiet.cell al (show w.cell? ⟨g, 3, none⟩ = some (.int .i64 S.s) from b.cell 3)
  have al2 : Quiet w (((w.alloc (.cells #[.int .i64 0, .int .i64 1, .int .i64 0, .string ⟨#[]⟩] 42)).alloc (.cells #[.int .i64 S.e, .int .i64 S.t, .int .i64 0, .string ⟨#[]⟩] 42)).alloc (.cells #[.int .i64 11, .int .i64 0, .int .i64 0, .string ⟨#[]⟩] 42)) := (((Chg.refl _ _).alloc _).alloc _).alloc _
  have al2H := hide al2
  clear al2
  unfold ansv ansC
  clear I b hB al
  obtain ⟨d, t, e, q, n, s, v, k⟩ := S
  dsimp only at *
  go_enter Try.func14, Try.ntmps14
  go_wp2_with fail
  refine (unhide hb _).mono ?_
  clear hb
  rintro ex w1 ⟨rfl, rfl⟩
  go_wp2
  go_ret
  exact ⟨rfl, unhide al2H⟩

set_option maxHeartbeats 4000000 in
set_option maxRecDepth 100000 in
theorem held_check_false (w : World) (g : Nat) (S : GS) (b : Blk w g 29 (ghC S)) (I : Inv S) (hB : binP S.d = false)  :
    Calls Try.prog 14 #[.pointer (some ⟨g, 0, none⟩), .int .i64 12, ansv 0 1 0 ⟨#[]⟩, ansv S.e S.t 0 ⟨#[]⟩] w fun ex w' => ex = .returned (.bool true) ∧ Quiet w w' := by
  have hb := hide (fun W => isBinary_any W S.d I.ten)
  rw [hB] at hb
  unfold ghC at b
  have al : Quiet w (((w.alloc (.cells #[.int .i64 0, .int .i64 1, .int .i64 0, .string ⟨#[]⟩] 42)).alloc (.cells #[.int .i64 S.e, .int .i64 S.t, .int .i64 0, .string ⟨#[]⟩] 42)).alloc (.cells #[.int .i64 11, .int .i64 0, .int .i64 0, .string ⟨#[]⟩] 42)) := (((Chg.refl _ _).alloc _).alloc _).alloc _
  have c0 := Quiet.cell al (show w.cell? ⟨g, 0, none⟩ = some (.int .i64 S.d) from b.cell 0)
  have c3 := Quiet.cell al (show w.cell? ⟨g, 3, none⟩ = some (.int .i64 S.s) from b.cell 3)
  have al2 : Quiet w (((w.alloc (.cells #[.int .i64 0, .int .i64 1, .int .i64 0, .string ⟨#[]⟩] 42)).alloc (.cells #[.int .i64 S.e, .int .i64 S.t, .int .i64 0, .string ⟨#[]⟩] 42)).alloc (.cells #[.int .i64 11, .int .i64 0, .int .i64 0, .string ⟨#[]⟩] 42)) := (((Chg.refl _ _).alloc _).alloc _).alloc _
  have al2H := hide al2
  clear al2
  unfold ansv ansC
  clear I b hB al
  obtain ⟨d, t, e, q, n, s, v, k⟩ := S
  dsimp only at *
  go_enter Try.func14, Try.ntmps14
  go_wp2_with fail
  refine (unhide hb _).mono ?_
  clear hb
  rintro ex w1 ⟨rfl, rfl⟩
  go_wp2
  go_ret
  exact ⟨rfl, unhide al2H⟩

set_option maxHeartbeats 4000000 in
set_option maxRecDepth 100000 in
theorem held_show_false (w : World) (g : Nat) (S : GS) (b : Blk w g 29 (ghC S)) (I : Inv S) (hB : binP S.d = false)  :
    Calls Try.prog 14 #[.pointer (some ⟨g, 0, none⟩), .int .i64 11, ansv 0 0 0 (str (showP S)), ansv S.e S.t 0 ⟨#[]⟩] w fun ex w' => ex = .returned (.bool true) ∧ Quiet w w' := by
  have hb := hide (fun W => isBinary_any W S.d I.ten)
  rw [hB] at hb
  unfold ghC at b
  have al : Quiet w (((w.alloc (.cells #[.int .i64 0, .int .i64 0, .int .i64 0, .string (str (showP S))] 42)).alloc (.cells #[.int .i64 S.e, .int .i64 S.t, .int .i64 0, .string ⟨#[]⟩] 42)).alloc (.cells #[.int .i64 11, .int .i64 0, .int .i64 0, .string ⟨#[]⟩] 42)) := (((Chg.refl _ _).alloc _).alloc _).alloc _
  have c0 := Quiet.cell al (show w.cell? ⟨g, 0, none⟩ = some (.int .i64 S.d) from b.cell 0)
  have c3 := Quiet.cell al (show w.cell? ⟨g, 3, none⟩ = some (.int .i64 S.s) from b.cell 3)
  have al2 : Quiet w (((w.alloc (.cells #[.int .i64 0, .int .i64 0, .int .i64 0, .string (str (showP S))] 42)).alloc (.cells #[.int .i64 S.e, .int .i64 S.t, .int .i64 0, .string ⟨#[]⟩] 42)).alloc (.cells #[.int .i64 11, .int .i64 0, .int .i64 0, .string ⟨#[]⟩] 42)) := (((Chg.refl _ _).alloc _).alloc _).alloc _
  have d0 := (show w.cell? ⟨g, 0, none⟩ = some (.int .i64 S.d) from b.cell 0)
  have iq1 := I.q1
  have iq2 := I.q2
  have in0 := I.n0
  have in1 := I.n1
  have iv1 := I.v1
  have iv2 := I.v2
  have ik1 := I.k1
  have is1 := I.s1
  have it1 := I.t1
  have ie0 := I.e0
  have ie1 := I.e1
  have id1 : 1 ≤ S.d ∧ S.d ≤ 10000 := by have := I.ten; unfold Ten at this; omega
  have r1 := hide (fun W => row_any W S.d S.e S.t S.q ⟨by omega, by omega⟩ ⟨by omega, by omega⟩ ⟨by omega, by omega⟩ ⟨by omega, by omega⟩)
  have r2 := hide (fun W => row_any W S.n 0 S.v S.k ⟨by omega, by omega⟩ ⟨by omega, by omega⟩ ⟨by omega, by omega⟩ ⟨by omega, by omega⟩)
  have l1 := rowP_length S.d S.e S.t S.q
  have l2 := rowP_length S.n 0 S.v S.k
  have fin : str (rowP S.d S.e S.t S.q) ++ ⟨#[59]⟩ ++ str (rowP S.n 0 S.v S.k) = str (showP S) := by
    unfold showP
    rw [show (sumP S).1 = 0 by unfold sumP; rw [hB]; rfl]
    rw [← str_append, ← str_append]; rfl
  rw [← str_size] at l1 l2
  have hX : (str (showP S)).toList == (str (showP S)).toList := by simp
  generalize str (showP S) = RR at *
  generalize str (rowP S.d S.e S.t S.q) = A at *
  generalize str (rowP S.n 0 S.v S.k) = B at *
  clear iq1 iq2 in0 in1 iv1 iv2 ik1 is1 it1 ie0 ie1 id1
  have z1 : ¬ 9223372036854775807 < A.size + 1 := by omega
  have z2 : ¬ 9223372036854775807 < A.size + 1 + B.size := by omega
  clear l1 l2
  have b2 := Quiet.blk al2 b
  have ba : Blk (((w.alloc (.cells #[.int .i64 0, .int .i64 0, .int .i64 0, .string RR] 42)).alloc (.cells #[.int .i64 S.e, .int .i64 S.t, .int .i64 0, .string ⟨#[]⟩] 42)).alloc (.cells #[.int .i64 11, .int .i64 0, .int .i64 0, .string ⟨#[]⟩] 42)) (w.heap.size) 42 [.int .i64 0, .int .i64 0, .int .i64 0, .string RR] := ((Blk.new w 42 [.int .i64 0, .int .i64 0, .int .i64 0, .string RR]).alloc _).alloc _
  have bn : Blk (((w.alloc (.cells #[.int .i64 0, .int .i64 0, .int .i64 0, .string RR] 42)).alloc (.cells #[.int .i64 S.e, .int .i64 S.t, .int .i64 0, .string ⟨#[]⟩] 42)).alloc (.cells #[.int .i64 11, .int .i64 0, .int .i64 0, .string ⟨#[]⟩] 42)) (w.heap.size + 1) 42 [.int .i64 S.e, .int .i64 S.t, .int .i64 0, .string ⟨#[]⟩] := (Blk.at_new (cs := [.int .i64 S.e, .int .i64 S.t, .int .i64 0, .string ⟨#[]⟩]) (by simp)).alloc _
  have bs : Blk (((w.alloc (.cells #[.int .i64 0, .int .i64 0, .int .i64 0, .string RR] 42)).alloc (.cells #[.int .i64 S.e, .int .i64 S.t, .int .i64 0, .string ⟨#[]⟩] 42)).alloc (.cells #[.int .i64 11, .int .i64 0, .int .i64 0, .string ⟨#[]⟩] 42)) (w.heap.size + 2) 42 [.int .i64 11, .int .i64 0, .int .i64 0, .string ⟨#[]⟩] := Blk.at_new (cs := [.int .i64 11, .int .i64 0, .int .i64 0, .string ⟨#[]⟩]) (by simp)
  obtain ⟨W2, hW2⟩ : ∃ W, (((w.alloc (.cells #[.int .i64 0, .int .i64 0, .int .i64 0, .string RR] 42)).alloc (.cells #[.int .i64 S.e, .int .i64 S.t, .int .i64 0, .string ⟨#[]⟩] 42)).alloc (.cells #[.int .i64 11, .int .i64 0, .int .i64 0, .string ⟨#[]⟩] 42)) = W := ⟨_, rfl⟩
  rw [hW2] at b2 ba bn bs al2
  have c20 : W2.cell? ⟨g, 0, none⟩ = some (.int .i64 S.d) := b2.cell 0
  have c21 : W2.cell? ⟨g, 1, none⟩ = some (.int .i64 S.q) := b2.cell 1
  have n20 : W2.cell? ⟨w.heap.size + 1, 0, none⟩ = some (.int .i64 S.e) := bn.cell 0
  have n21 : W2.cell? ⟨w.heap.size + 1, 1, none⟩ = some (.int .i64 S.t) := bn.cell 1
  have b2H := hide b2
  have baH := hide ba
  have bsH := hide bs
  have hc := QW.blk b2
  have hcn := QW.blk bn
  have hWH := hide hW2
  clear b2 ba bs bn hW2
  have al2H := hide al2
  clear al2
  unfold ansv ansC
  clear I b hB al
  obtain ⟨d, t, e, q, n, s, v, k⟩ := S
  dsimp only at *
  go_enter Try.func14, Try.ntmps14
  go_wp2_with fail
  refine (unhide hb _).mono ?_
  clear hb
  rintro ex w1 ⟨rfl, rfl⟩
  go_wp2
  rw [unhide hWH]
  clear hWH
  refine wp_region_noPanic ?_
  try simp only [List.append_eq, List.cons_append, List.nil_append]
  refine wp_region_mixq [(0, true), (1, true), (2, true), (3, true), (4, true), (5, true), (6, true), (7, true), (8, true), (9, true), (10, true), (11, true), (12, true), (13, true)] [] (by kernel_rfl) (by kernel_rfl) (fun _ _ _ _ _ h => h) ?_
  simp only [pickM, pickO, List.getElem?_cons_zero, List.getElem?_cons_succ]
  repeat (first | (refine wpMix_read rfl (fun K hK => ?_)) | (refine wpMix_pure rfl (fun K hK => ?_))
          go_big_quiet_op
          first | (refine hK _ ?_; clear hK K) | (apply Exists.intro; refine ⟨fun _ => ?_, ?_⟩; (· (first | (go_at_call 21; exact Calls.in_qw (unhide r1 _)))); refine hK _ ?_; clear hK K))
  refine wpMix_nil ?_
  intro _ hw'
  obtain ⟨qq, hw''⟩ := hw'
  subst hw''
  have hqq := qq.q
  generalize qq.w = wq at *
  have q3H := hide (Quiet.trans (unhide al2H) hqq)
  have b3 := Quiet.blk hqq (unhide b2H)
  have ba3 := Quiet.blk hqq (unhide baH)
  have bs3 := Quiet.blk hqq (unhide bsH)
  clear hc hcn hqq al2H b2H baH bsH r1 c20 c21 n20 n21
  go_wp2
  refine NoPanic.normal ?_
  have c22 : wq.cell? ⟨g, 2, none⟩ = some (.int .i64 n) := b3.cell 2
  have c24 : wq.cell? ⟨g, 4, none⟩ = some (.int .i64 v) := b3.cell 4
  have c25 : wq.cell? ⟨g, 5, none⟩ = some (.int .i64 k) := b3.cell 5
  have s21 : wq.cell? ⟨w.heap.size + 2, 1, none⟩ = some (.int .i64 0) := bs3.cell 1
  have hc := QW.blk b3
  have hcs := QW.blk bs3
  have baH := hide ba3
  clear b3 bs3 ba3
  go_wp2
  refine wp_region_noPanic ?_
  try simp only [List.append_eq, List.cons_append, List.nil_append]
  refine wp_region_mixq [(0, true), (1, true), (2, true), (3, true), (4, true), (5, true), (6, true), (7, true), (8, true), (9, true), (10, true), (11, true), (12, true), (13, true), (14, true), (15, true)] [] (by kernel_rfl) (by kernel_rfl) (fun _ _ _ _ _ h => h) ?_
  simp only [pickM, pickO, List.getElem?_cons_zero, List.getElem?_cons_succ]
  repeat (first | (refine wpMix_read rfl (fun K hK => ?_)) | (refine wpMix_pure rfl (fun K hK => ?_))
          go_big_quiet_op
          first | (refine hK _ ?_; clear hK K) | (apply Exists.intro; refine ⟨fun _ => ?_, ?_⟩; (· (first | (go_at_call 21; exact Calls.in_qw (unhide r2 _)))); refine hK _ ?_; clear hK K))
  refine wpMix_nil ?_
  intro _ hw'
  obtain ⟨qq, hw''⟩ := hw'
  subst hw''
  have hqq := qq.q
  generalize qq.w = wr at *
  have hqf := hide (Quiet.trans (unhide q3H) hqq)
  have ba4 := Quiet.blk hqq (unhide baH)
  have a0 : wr.cell? ⟨w.heap.size, 0, none⟩ = some (.int .i64 0) := ba4.cell 0
  have a1 : wr.cell? ⟨w.heap.size, 1, none⟩ = some (.int .i64 0) := ba4.cell 1
  have a2 : wr.cell? ⟨w.heap.size, 2, none⟩ = some (.int .i64 0) := ba4.cell 2
  have a3 : wr.cell? ⟨w.heap.size, 3, none⟩ = some (.string RR) := ba4.cell 3
  clear hc hcs hqq q3H c22 c24 c25 s21 r2 ba4 baH
  go_wp2
  refine NoPanic.normal ?_
  go_wp2
  go_ret
  exact ⟨rfl, unhide hqf⟩

set_option maxHeartbeats 4000000 in
set_option maxRecDepth 100000 in
theorem held_none_false (w : World) (g : Nat) (S : GS) (b : Blk w g 29 (ghC S)) (I : Inv S) (hB : binP S.d = false) (kk : Int) (aE aN aM : Int) (aS : ByteArray) (k6 : (kk == 6) = false) (k8 : (kk == 8) = false) (k9 : (kk == 9) = false) (k10 : (kk == 10) = false) (k11 : (kk == 11) = false) (k12 : (kk == 12) = false) :
    Calls Try.prog 14 #[.pointer (some ⟨g, 0, none⟩), .int .i64 kk, ansv aE aN 0 aS, ansv S.e S.t 0 ⟨#[]⟩] w fun ex w' => ex = .returned (.bool true) ∧ Quiet w w' := by
  have hb := hide (fun W => isBinary_any W S.d I.ten)
  rw [hB] at hb
  unfold ghC at b
  have al : Quiet w (((w.alloc (.cells #[.int .i64 aE, .int .i64 aN, .int .i64 0, .string aS] 42)).alloc (.cells #[.int .i64 S.e, .int .i64 S.t, .int .i64 0, .string ⟨#[]⟩] 42)).alloc (.cells #[.int .i64 11, .int .i64 0, .int .i64 0, .string ⟨#[]⟩] 42)) := (((Chg.refl _ _).alloc _).alloc _).alloc _
  have c0 := Quiet.cell al (show w.cell? ⟨g, 0, none⟩ = some (.int .i64 S.d) from b.cell 0)
  have c3 := Quiet.cell al (show w.cell? ⟨g, 3, none⟩ = some (.int .i64 S.s) from b.cell 3)
  have al2 : Quiet w (((w.alloc (.cells #[.int .i64 aE, .int .i64 aN, .int .i64 0, .string aS] 42)).alloc (.cells #[.int .i64 S.e, .int .i64 S.t, .int .i64 0, .string ⟨#[]⟩] 42)).alloc (.cells #[.int .i64 11, .int .i64 0, .int .i64 0, .string ⟨#[]⟩] 42)) := (((Chg.refl _ _).alloc _).alloc _).alloc _
  have al2H := hide al2
  clear al2
  unfold ansv ansC
  clear I b hB al
  obtain ⟨d, t, e, q, n, s, v, k⟩ := S
  dsimp only at *
  go_enter Try.func14, Try.ntmps14
  go_wp2_with fail
  refine (unhide hb _).mono ?_
  clear hb
  rintro ex w1 ⟨rfl, rfl⟩
  go_wp2
  go_ret
  exact ⟨rfl, unhide al2H⟩
end Go.Proofs.Qxb6500365a
