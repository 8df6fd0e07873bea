/-
  Keeps: Turned, kind by kind. (gen65t.py)
-/
import Derived.Test.Qxb6500365aKHeld
namespace Go.Proofs.Qxb6500365a
open Go.RowKit Go.Qx Ieee
set_option linter.unusedSimpArgs false
set_option linter.unusedVariables false

theorem wrapI_ok (x : Int) (h1 : -9223372036854775808 ≤ x) (h2 : x ≤ 9223372036854775807) : IntKind.i64.wrap x = x := by rw [IntKind.wrap_i64]; omega

set_option maxHeartbeats 4000000 in
set_option maxRecDepth 100000 in
theorem turned_denomE (w : World) (g : Nat) (S : GS) (b : Blk w g 29 (ghC S)) (I : Inv S) (a bb c : Int) (os ot : ByteArray) (ht : ¬ Ten a) :
    Calls Try.prog 15 #[.pointer (some ⟨g, 0, none⟩), opv 1 a bb c os ot, .int .i64 1, ansv S.e S.t 0 ⟨#[]⟩, ansv S.e S.t 0 ⟨#[]⟩] w fun ex w' => ex = .returned (.bool true) ∧ Chg (fun k => k = g) w w' ∧ Blk w' g 29 (ghC S) := by
  have al : Quiet w (((w.alloc (.cells #[.int .i64 1, .int .i64 a, .int .i64 bb, .int .i64 c, .string os, .string ot] 32)).alloc (.cells #[.int .i64 S.e, .int .i64 S.t, .int .i64 0, .string ⟨#[]⟩] 42)).alloc (.cells #[.int .i64 S.e, .int .i64 S.t, .int .i64 0, .string ⟨#[]⟩] 42)) := (((Chg.refl _ _).alloc _).alloc _).alloc _
  have b3 := Quiet.blk al b
  have hgl := b.lt
  unfold ghC at b
  have c0 := Quiet.cell al (show w.cell? ⟨g, 0, none⟩ = some (.int .i64 S.d) from b.cell 0)
  have c1 := Quiet.cell al (show w.cell? ⟨g, 1, none⟩ = some (.int .i64 S.q) from b.cell 1)
  have c2 := Quiet.cell al (show w.cell? ⟨g, 2, none⟩ = some (.int .i64 S.n) from b.cell 2)
  have c3 := Quiet.cell al (show w.cell? ⟨g, 3, none⟩ = some (.int .i64 S.s) from b.cell 3)
  have c4 := Quiet.cell al (show w.cell? ⟨g, 4, none⟩ = some (.int .i64 S.v) from b.cell 4)
  have c5 := Quiet.cell al (show w.cell? ⟨g, 5, none⟩ = some (.int .i64 S.k) from b.cell 5)
  have f0 := b3.frozen 0
  have f1 := b3.frozen 1
  have f2 := b3.frozen 2
  have f3 := b3.frozen 3
  have f4 := b3.frozen 4
  have f5 := b3.frozen 5
  have alH := hide al
  have b3H := hide b3
  have hd := hide (fun W => isDenom_any W a)
  rw [decide_eq_false ht] at hd
  have n0 : g ≠ w.heap.size := Nat.ne_of_lt hgl
  have n0' : w.heap.size ≠ g := Ne.symm n0
  have n1 : g ≠ w.heap.size + 1 := Nat.ne_of_lt (Nat.lt_of_lt_of_le hgl (Nat.le_add_right _ _))
  have n1' : w.heap.size + 1 ≠ g := Ne.symm n1
  have n2 : g ≠ w.heap.size + 2 := Nat.ne_of_lt (Nat.lt_of_lt_of_le hgl (Nat.le_add_right _ _))
  have n2' : w.heap.size + 2 ≠ g := Ne.symm n2
  have n3 : g ≠ w.heap.size + 1 + 1 := n2
  have n3' : w.heap.size + 1 + 1 ≠ g := n2'
  unfold opv ansv ansC
  clear I b al b3 hgl
  clear ht
  go_enter Try.func15, Try.ntmps15
  go_wp2_with fail
  refine (unhide hd _).mono ?_
  rintro ex w1 ⟨rfl, rfl⟩
  go_wp2
  go_ret
  exact ⟨rfl, Quiet.chg (unhide alH) _, unhide b3H⟩

set_option maxHeartbeats 4000000 in
set_option maxRecDepth 100000 in
theorem turned_denom (w : World) (g : Nat) (S : GS) (b : Blk w g 29 (ghC S)) (I : Inv S) (a bb c : Int) (os ot : ByteArray) (ht : Ten a) :
    Calls Try.prog 15 #[.pointer (some ⟨g, 0, none⟩), opv 1 a bb c os ot, .int .i64 0, ansv S.e S.t 0 ⟨#[]⟩, ansv 0 0 0 ⟨#[]⟩] w fun ex w' => ex = .returned (.bool true) ∧ Chg (fun k => k = g) w w' ∧ Blk w' g 29 (ghC (first a)) := by
  have al : Quiet w (((w.alloc (.cells #[.int .i64 1, .int .i64 a, .int .i64 bb, .int .i64 c, .string os, .string ot] 32)).alloc (.cells #[.int .i64 S.e, .int .i64 S.t, .int .i64 0, .string ⟨#[]⟩] 42)).alloc (.cells #[.int .i64 0, .int .i64 0, .int .i64 0, .string ⟨#[]⟩] 42)) := (((Chg.refl _ _).alloc _).alloc _).alloc _
  have b3 := Quiet.blk al b
  have hgl := b.lt
  unfold ghC at b
  have c0 := Quiet.cell al (show w.cell? ⟨g, 0, none⟩ = some (.int .i64 S.d) from b.cell 0)
  have c1 := Quiet.cell al (show w.cell? ⟨g, 1, none⟩ = some (.int .i64 S.q) from b.cell 1)
  have c2 := Quiet.cell al (show w.cell? ⟨g, 2, none⟩ = some (.int .i64 S.n) from b.cell 2)
  have c3 := Quiet.cell al (show w.cell? ⟨g, 3, none⟩ = some (.int .i64 S.s) from b.cell 3)
  have c4 := Quiet.cell al (show w.cell? ⟨g, 4, none⟩ = some (.int .i64 S.v) from b.cell 4)
  have c5 := Quiet.cell al (show w.cell? ⟨g, 5, none⟩ = some (.int .i64 S.k) from b.cell 5)
  have f0 := b3.frozen 0
  have f1 := b3.frozen 1
  have f2 := b3.frozen 2
  have f3 := b3.frozen 3
  have f4 := b3.frozen 4
  have f5 := b3.frozen 5
  have alH := hide al
  have b3H := hide b3
  have hd := hide (fun W => isDenom_any W a)
  rw [decide_eq_true ht] at hd
  have n0 : g ≠ w.heap.size := Nat.ne_of_lt hgl
  have n0' : w.heap.size ≠ g := Ne.symm n0
  have n1 : g ≠ w.heap.size + 1 := Nat.ne_of_lt (Nat.lt_of_lt_of_le hgl (Nat.le_add_right _ _))
  have n1' : w.heap.size + 1 ≠ g := Ne.symm n1
  have n2 : g ≠ w.heap.size + 2 := Nat.ne_of_lt (Nat.lt_of_lt_of_le hgl (Nat.le_add_right _ _))
  have n2' : w.heap.size + 2 ≠ g := Ne.symm n2
  have n3 : g ≠ w.heap.size + 1 + 1 := n2
  have n3' : w.heap.size + 1 + 1 ≠ g := n2'
  unfold opv ansv ansC
  clear I b al b3 hgl
  clear ht
  go_enter Try.func15, Try.ntmps15
  go_wp2_with fail
  refine (unhide hd _).mono ?_
  rintro ex w1 ⟨rfl, rfl⟩
  go_wp2
  go_ret
  have b1 := ((((((unhide b3H).set 0 (.int .i64 a)).set 1 (.int .i64 1)).set 2 (.int .i64 0)).set 3 (.int .i64 0)).set 4 (.int .i64 0)).set 5 (.int .i64 0)
  have h0 := Quiet.chg (unhide alH) (fun k => k = g)
  exact ⟨rfl, chg_set (chg_set (chg_set (chg_set (chg_set (chg_set h0 _ _) _ _) _ _) _ _) _ _) _ _, b1⟩

set_option maxHeartbeats 4000000 in
set_option maxRecDepth 100000 in
theorem turned_feedM1 (w : World) (g : Nat) (S : GS) (b : Blk w g 29 (ghC S)) (I : Inv S) (a bb c : Int) (os ot : ByteArray) (h : a < -549755813888) :
    Calls Try.prog 15 #[.pointer (some ⟨g, 0, none⟩), opv 2 a bb c os ot, .int .i64 2, ansv S.e S.t 0 ⟨#[]⟩, ansv S.e S.t 0 ⟨#[]⟩] w fun ex w' => ex = .returned (.bool true) ∧ Chg (fun k => k = g) w w' ∧ Blk w' g 29 (ghC S) := by
  have al : Quiet w (((w.alloc (.cells #[.int .i64 2, .int .i64 a, .int .i64 bb, .int .i64 c, .string os, .string ot] 32)).alloc (.cells #[.int .i64 S.e, .int .i64 S.t, .int .i64 0, .string ⟨#[]⟩] 42)).alloc (.cells #[.int .i64 S.e, .int .i64 S.t, .int .i64 0, .string ⟨#[]⟩] 42)) := (((Chg.refl _ _).alloc _).alloc _).alloc _
  have b3 := Quiet.blk al b
  have hgl := b.lt
  unfold ghC at b
  have c0 := Quiet.cell al (show w.cell? ⟨g, 0, none⟩ = some (.int .i64 S.d) from b.cell 0)
  have c1 := Quiet.cell al (show w.cell? ⟨g, 1, none⟩ = some (.int .i64 S.q) from b.cell 1)
  have c2 := Quiet.cell al (show w.cell? ⟨g, 2, none⟩ = some (.int .i64 S.n) from b.cell 2)
  have c3 := Quiet.cell al (show w.cell? ⟨g, 3, none⟩ = some (.int .i64 S.s) from b.cell 3)
  have c4 := Quiet.cell al (show w.cell? ⟨g, 4, none⟩ = some (.int .i64 S.v) from b.cell 4)
  have c5 := Quiet.cell al (show w.cell? ⟨g, 5, none⟩ = some (.int .i64 S.k) from b.cell 5)
  have f0 := b3.frozen 0
  have f1 := b3.frozen 1
  have f2 := b3.frozen 2
  have f3 := b3.frozen 3
  have f4 := b3.frozen 4
  have f5 := b3.frozen 5
  have alH := hide al
  have b3H := hide b3
  have h1 : (a < -549755813888) = True := eq_true (by omega)
  have n0 : g ≠ w.heap.size := Nat.ne_of_lt hgl
  have n0' : w.heap.size ≠ g := Ne.symm n0
  have n1 : g ≠ w.heap.size + 1 := Nat.ne_of_lt (Nat.lt_of_lt_of_le hgl (Nat.le_add_right _ _))
  have n1' : w.heap.size + 1 ≠ g := Ne.symm n1
  have n2 : g ≠ w.heap.size + 2 := Nat.ne_of_lt (Nat.lt_of_lt_of_le hgl (Nat.le_add_right _ _))
  have n2' : w.heap.size + 2 ≠ g := Ne.symm n2
  have n3 : g ≠ w.heap.size + 1 + 1 := n2
  have n3' : w.heap.size + 1 + 1 ≠ g := n2'
  unfold opv ansv ansC
  clear I b al b3 hgl
  clear h
  go_enter Try.func15, Try.ntmps15
  go_wp2
  go_ret
  exact ⟨rfl, Quiet.chg (unhide alH) _, unhide b3H⟩

set_option maxHeartbeats 4000000 in
set_option maxRecDepth 100000 in
theorem turned_feedM2 (w : World) (g : Nat) (S : GS) (b : Blk w g 29 (ghC S)) (I : Inv S) (a bb c : Int) (os ot : ByteArray) (h : 549755813888 < a) :
    Calls Try.prog 15 #[.pointer (some ⟨g, 0, none⟩), opv 2 a bb c os ot, .int .i64 2, ansv S.e S.t 0 ⟨#[]⟩, ansv S.e S.t 0 ⟨#[]⟩] w fun ex w' => ex = .returned (.bool true) ∧ Chg (fun k => k = g) w w' ∧ Blk w' g 29 (ghC S) := by
  have al : Quiet w (((w.alloc (.cells #[.int .i64 2, .int .i64 a, .int .i64 bb, .int .i64 c, .string os, .string ot] 32)).alloc (.cells #[.int .i64 S.e, .int .i64 S.t, .int .i64 0, .string ⟨#[]⟩] 42)).alloc (.cells #[.int .i64 S.e, .int .i64 S.t, .int .i64 0, .string ⟨#[]⟩] 42)) := (((Chg.refl _ _).alloc _).alloc _).alloc _
  have b3 := Quiet.blk al b
  have hgl := b.lt
  unfold ghC at b
  have c0 := Quiet.cell al (show w.cell? ⟨g, 0, none⟩ = some (.int .i64 S.d) from b.cell 0)
  have c1 := Quiet.cell al (show w.cell? ⟨g, 1, none⟩ = some (.int .i64 S.q) from b.cell 1)
  have c2 := Quiet.cell al (show w.cell? ⟨g, 2, none⟩ = some (.int .i64 S.n) from b.cell 2)
  have c3 := Quiet.cell al (show w.cell? ⟨g, 3, none⟩ = some (.int .i64 S.s) from b.cell 3)
  have c4 := Quiet.cell al (show w.cell? ⟨g, 4, none⟩ = some (.int .i64 S.v) from b.cell 4)
  have c5 := Quiet.cell al (show w.cell? ⟨g, 5, none⟩ = some (.int .i64 S.k) from b.cell 5)
  have f0 := b3.frozen 0
  have f1 := b3.frozen 1
  have f2 := b3.frozen 2
  have f3 := b3.frozen 3
  have f4 := b3.frozen 4
  have f5 := b3.frozen 5
  have alH := hide al
  have b3H := hide b3
  have h1 : (a < -549755813888) = False := eq_false (by omega)
  have h2 : (549755813888 < a) = True := eq_true (by omega)
  have n0 : g ≠ w.heap.size := Nat.ne_of_lt hgl
  have n0' : w.heap.size ≠ g := Ne.symm n0
  have n1 : g ≠ w.heap.size + 1 := Nat.ne_of_lt (Nat.lt_of_lt_of_le hgl (Nat.le_add_right _ _))
  have n1' : w.heap.size + 1 ≠ g := Ne.symm n1
  have n2 : g ≠ w.heap.size + 2 := Nat.ne_of_lt (Nat.lt_of_lt_of_le hgl (Nat.le_add_right _ _))
  have n2' : w.heap.size + 2 ≠ g := Ne.symm n2
  have n3 : g ≠ w.heap.size + 1 + 1 := n2
  have n3' : w.heap.size + 1 + 1 ≠ g := n2'
  unfold opv ansv ansC
  clear I b al b3 hgl
  clear h
  go_enter Try.func15, Try.ntmps15
  go_wp2
  go_ret
  exact ⟨rfl, Quiet.chg (unhide alH) _, unhide b3H⟩

set_option maxHeartbeats 4000000 in
set_option maxRecDepth 100000 in
theorem turned_feedE1 (w : World) (g : Nat) (S : GS) (b : Blk w g 29 (ghC S)) (I : Inv S) (a bb c : Int) (os ot : ByteArray) (hm : a.natAbs ≤ 549755813888) (h : bb < 0) :
    Calls Try.prog 15 #[.pointer (some ⟨g, 0, none⟩), opv 2 a bb c os ot, .int .i64 3, ansv S.e S.t 0 ⟨#[]⟩, ansv S.e S.t 0 ⟨#[]⟩] w fun ex w' => ex = .returned (.bool true) ∧ Chg (fun k => k = g) w w' ∧ Blk w' g 29 (ghC S) := by
  have al : Quiet w (((w.alloc (.cells #[.int .i64 2, .int .i64 a, .int .i64 bb, .int .i64 c, .string os, .string ot] 32)).alloc (.cells #[.int .i64 S.e, .int .i64 S.t, .int .i64 0, .string ⟨#[]⟩] 42)).alloc (.cells #[.int .i64 S.e, .int .i64 S.t, .int .i64 0, .string ⟨#[]⟩] 42)) := (((Chg.refl _ _).alloc _).alloc _).alloc _
  have b3 := Quiet.blk al b
  have hgl := b.lt
  unfold ghC at b
  have c0 := Quiet.cell al (show w.cell? ⟨g, 0, none⟩ = some (.int .i64 S.d) from b.cell 0)
  have c1 := Quiet.cell al (show w.cell? ⟨g, 1, none⟩ = some (.int .i64 S.q) from b.cell 1)
  have c2 := Quiet.cell al (show w.cell? ⟨g, 2, none⟩ = some (.int .i64 S.n) from b.cell 2)
  have c3 := Quiet.cell al (show w.cell? ⟨g, 3, none⟩ = some (.int .i64 S.s) from b.cell 3)
  have c4 := Quiet.cell al (show w.cell? ⟨g, 4, none⟩ = some (.int .i64 S.v) from b.cell 4)
  have c5 := Quiet.cell al (show w.cell? ⟨g, 5, none⟩ = some (.int .i64 S.k) from b.cell 5)
  have f0 := b3.frozen 0
  have f1 := b3.frozen 1
  have f2 := b3.frozen 2
  have f3 := b3.frozen 3
  have f4 := b3.frozen 4
  have f5 := b3.frozen 5
  have alH := hide al
  have b3H := hide b3
  have h1 : (a < -549755813888) = False := eq_false (by omega)
  have h2 : (549755813888 < a) = False := eq_false (by omega)
  have h3 : (bb < 0) = True := eq_true (by omega)
  have n0 : g ≠ w.heap.size := Nat.ne_of_lt hgl
  have n0' : w.heap.size ≠ g := Ne.symm n0
  have n1 : g ≠ w.heap.size + 1 := Nat.ne_of_lt (Nat.lt_of_lt_of_le hgl (Nat.le_add_right _ _))
  have n1' : w.heap.size + 1 ≠ g := Ne.symm n1
  have n2 : g ≠ w.heap.size + 2 := Nat.ne_of_lt (Nat.lt_of_lt_of_le hgl (Nat.le_add_right _ _))
  have n2' : w.heap.size + 2 ≠ g := Ne.symm n2
  have n3 : g ≠ w.heap.size + 1 + 1 := n2
  have n3' : w.heap.size + 1 + 1 ≠ g := n2'
  unfold opv ansv ansC
  clear I b al b3 hgl
  clear h hm
  go_enter Try.func15, Try.ntmps15
  go_wp2
  go_ret
  exact ⟨rfl, Quiet.chg (unhide alH) _, unhide b3H⟩

set_option maxHeartbeats 4000000 in
set_option maxRecDepth 100000 in
theorem turned_feedE2 (w : World) (g : Nat) (S : GS) (b : Blk w g 29 (ghC S)) (I : Inv S) (a bb c : Int) (os ot : ByteArray) (hm : a.natAbs ≤ 549755813888) (h : 8 < bb) :
    Calls Try.prog 15 #[.pointer (some ⟨g, 0, none⟩), opv 2 a bb c os ot, .int .i64 3, ansv S.e S.t 0 ⟨#[]⟩, ansv S.e S.t 0 ⟨#[]⟩] w fun ex w' => ex = .returned (.bool true) ∧ Chg (fun k => k = g) w w' ∧ Blk w' g 29 (ghC S) := by
  have al : Quiet w (((w.alloc (.cells #[.int .i64 2, .int .i64 a, .int .i64 bb, .int .i64 c, .string os, .string ot] 32)).alloc (.cells #[.int .i64 S.e, .int .i64 S.t, .int .i64 0, .string ⟨#[]⟩] 42)).alloc (.cells #[.int .i64 S.e, .int .i64 S.t, .int .i64 0, .string ⟨#[]⟩] 42)) := (((Chg.refl _ _).alloc _).alloc _).alloc _
  have b3 := Quiet.blk al b
  have hgl := b.lt
  unfold ghC at b
  have c0 := Quiet.cell al (show w.cell? ⟨g, 0, none⟩ = some (.int .i64 S.d) from b.cell 0)
  have c1 := Quiet.cell al (show w.cell? ⟨g, 1, none⟩ = some (.int .i64 S.q) from b.cell 1)
  have c2 := Quiet.cell al (show w.cell? ⟨g, 2, none⟩ = some (.int .i64 S.n) from b.cell 2)
  have c3 := Quiet.cell al (show w.cell? ⟨g, 3, none⟩ = some (.int .i64 S.s) from b.cell 3)
  have c4 := Quiet.cell al (show w.cell? ⟨g, 4, none⟩ = some (.int .i64 S.v) from b.cell 4)
  have c5 := Quiet.cell al (show w.cell? ⟨g, 5, none⟩ = some (.int .i64 S.k) from b.cell 5)
  have f0 := b3.frozen 0
  have f1 := b3.frozen 1
  have f2 := b3.frozen 2
  have f3 := b3.frozen 3
  have f4 := b3.frozen 4
  have f5 := b3.frozen 5
  have alH := hide al
  have b3H := hide b3
  have h1 : (a < -549755813888) = False := eq_false (by omega)
  have h2 : (549755813888 < a) = False := eq_false (by omega)
  have h3 : (bb < 0) = False := eq_false (by omega)
  have h4 : (8 < bb) = True := eq_true (by omega)
  have n0 : g ≠ w.heap.size := Nat.ne_of_lt hgl
  have n0' : w.heap.size ≠ g := Ne.symm n0
  have n1 : g ≠ w.heap.size + 1 := Nat.ne_of_lt (Nat.lt_of_lt_of_le hgl (Nat.le_add_right _ _))
  have n1' : w.heap.size + 1 ≠ g := Ne.symm n1
  have n2 : g ≠ w.heap.size + 2 := Nat.ne_of_lt (Nat.lt_of_lt_of_le hgl (Nat.le_add_right _ _))
  have n2' : w.heap.size + 2 ≠ g := Ne.symm n2
  have n3 : g ≠ w.heap.size + 1 + 1 := n2
  have n3' : w.heap.size + 1 + 1 ≠ g := n2'
  unfold opv ansv ansC
  clear I b al b3 hgl
  clear h hm
  go_enter Try.func15, Try.ntmps15
  go_wp2
  go_ret
  exact ⟨rfl, Quiet.chg (unhide alH) _, unhide b3H⟩

set_option maxHeartbeats 4000000 in
set_option maxRecDepth 100000 in
theorem turned_feedE3 (w : World) (g : Nat) (S : GS) (b : Blk w g 29 (ghC S)) (I : Inv S) (a bb c : Int) (os ot : ByteArray) (hm : a.natAbs ≤ 549755813888) (h0 : 0 ≤ bb ∧ bb ≤ 8) (h : c < 0) :
    Calls Try.prog 15 #[.pointer (some ⟨g, 0, none⟩), opv 2 a bb c os ot, .int .i64 3, ansv S.e S.t 0 ⟨#[]⟩, ansv S.e S.t 0 ⟨#[]⟩] w fun ex w' => ex = .returned (.bool true) ∧ Chg (fun k => k = g) w w' ∧ Blk w' g 29 (ghC S) := by
  have al : Quiet w (((w.alloc (.cells #[.int .i64 2, .int .i64 a, .int .i64 bb, .int .i64 c, .string os, .string ot] 32)).alloc (.cells #[.int .i64 S.e, .int .i64 S.t, .int .i64 0, .string ⟨#[]⟩] 42)).alloc (.cells #[.int .i64 S.e, .int .i64 S.t, .int .i64 0, .string ⟨#[]⟩] 42)) := (((Chg.refl _ _).alloc _).alloc _).alloc _
  have b3 := Quiet.blk al b
  have hgl := b.lt
  unfold ghC at b
  have c0 := Quiet.cell al (show w.cell? ⟨g, 0, none⟩ = some (.int .i64 S.d) from b.cell 0)
  have c1 := Quiet.cell al (show w.cell? ⟨g, 1, none⟩ = some (.int .i64 S.q) from b.cell 1)
  have c2 := Quiet.cell al (show w.cell? ⟨g, 2, none⟩ = some (.int .i64 S.n) from b.cell 2)
  have c3 := Quiet.cell al (show w.cell? ⟨g, 3, none⟩ = some (.int .i64 S.s) from b.cell 3)
  have c4 := Quiet.cell al (show w.cell? ⟨g, 4, none⟩ = some (.int .i64 S.v) from b.cell 4)
  have c5 := Quiet.cell al (show w.cell? ⟨g, 5, none⟩ = some (.int .i64 S.k) from b.cell 5)
  have f0 := b3.frozen 0
  have f1 := b3.frozen 1
  have f2 := b3.frozen 2
  have f3 := b3.frozen 3
  have f4 := b3.frozen 4
  have f5 := b3.frozen 5
  have alH := hide al
  have b3H := hide b3
  have h1 : (a < -549755813888) = False := eq_false (by omega)
  have h2 : (549755813888 < a) = False := eq_false (by omega)
  have h3 : (bb < 0) = False := eq_false (by omega)
  have h4 : (8 < bb) = False := eq_false (by omega)
  have h5 : (c < 0) = True := eq_true (by omega)
  have n0 : g ≠ w.heap.size := Nat.ne_of_lt hgl
  have n0' : w.heap.size ≠ g := Ne.symm n0
  have n1 : g ≠ w.heap.size + 1 := Nat.ne_of_lt (Nat.lt_of_lt_of_le hgl (Nat.le_add_right _ _))
  have n1' : w.heap.size + 1 ≠ g := Ne.symm n1
  have n2 : g ≠ w.heap.size + 2 := Nat.ne_of_lt (Nat.lt_of_lt_of_le hgl (Nat.le_add_right _ _))
  have n2' : w.heap.size + 2 ≠ g := Ne.symm n2
  have n3 : g ≠ w.heap.size + 1 + 1 := n2
  have n3' : w.heap.size + 1 + 1 ≠ g := n2'
  unfold opv ansv ansC
  clear I b al b3 hgl
  clear h h0 hm
  go_enter Try.func15, Try.ntmps15
  go_wp2
  go_ret
  exact ⟨rfl, Quiet.chg (unhide alH) _, unhide b3H⟩

set_option maxHeartbeats 4000000 in
set_option maxRecDepth 100000 in
theorem turned_feedE4 (w : World) (g : Nat) (S : GS) (b : Blk w g 29 (ghC S)) (I : Inv S) (a bb c : Int) (os ot : ByteArray) (hm : a.natAbs ≤ 549755813888) (h0 : 0 ≤ bb ∧ bb ≤ 8) (h : 16 < c) :
    Calls Try.prog 15 #[.pointer (some ⟨g, 0, none⟩), opv 2 a bb c os ot, .int .i64 3, ansv S.e S.t 0 ⟨#[]⟩, ansv S.e S.t 0 ⟨#[]⟩] w fun ex w' => ex = .returned (.bool true) ∧ Chg (fun k => k = g) w w' ∧ Blk w' g 29 (ghC S) := by
  have al : Quiet w (((w.alloc (.cells #[.int .i64 2, .int .i64 a, .int .i64 bb, .int .i64 c, .string os, .string ot] 32)).alloc (.cells #[.int .i64 S.e, .int .i64 S.t, .int .i64 0, .string ⟨#[]⟩] 42)).alloc (.cells #[.int .i64 S.e, .int .i64 S.t, .int .i64 0, .string ⟨#[]⟩] 42)) := (((Chg.refl _ _).alloc _).alloc _).alloc _
  have b3 := Quiet.blk al b
  have hgl := b.lt
  unfold ghC at b
  have c0 := Quiet.cell al (show w.cell? ⟨g, 0, none⟩ = some (.int .i64 S.d) from b.cell 0)
  have c1 := Quiet.cell al (show w.cell? ⟨g, 1, none⟩ = some (.int .i64 S.q) from b.cell 1)
  have c2 := Quiet.cell al (show w.cell? ⟨g, 2, none⟩ = some (.int .i64 S.n) from b.cell 2)
  have c3 := Quiet.cell al (show w.cell? ⟨g, 3, none⟩ = some (.int .i64 S.s) from b.cell 3)
  have c4 := Quiet.cell al (show w.cell? ⟨g, 4, none⟩ = some (.int .i64 S.v) from b.cell 4)
  have c5 := Quiet.cell al (show w.cell? ⟨g, 5, none⟩ = some (.int .i64 S.k) from b.cell 5)
  have f0 := b3.frozen 0
  have f1 := b3.frozen 1
  have f2 := b3.frozen 2
  have f3 := b3.frozen 3
  have f4 := b3.frozen 4
  have f5 := b3.frozen 5
  have alH := hide al
  have b3H := hide b3
  have h1 : (a < -549755813888) = False := eq_false (by omega)
  have h2 : (549755813888 < a) = False := eq_false (by omega)
  have h3 : (bb < 0) = False := eq_false (by omega)
  have h4 : (8 < bb) = False := eq_false (by omega)
  have h5 : (c < 0) = False := eq_false (by omega)
  have h6 : (16 < c) = True := eq_true (by omega)
  have n0 : g ≠ w.heap.size := Nat.ne_of_lt hgl
  have n0' : w.heap.size ≠ g := Ne.symm n0
  have n1 : g ≠ w.heap.size + 1 := Nat.ne_of_lt (Nat.lt_of_lt_of_le hgl (Nat.le_add_right _ _))
  have n1' : w.heap.size + 1 ≠ g := Ne.symm n1
  have n2 : g ≠ w.heap.size + 2 := Nat.ne_of_lt (Nat.lt_of_lt_of_le hgl (Nat.le_add_right _ _))
  have n2' : w.heap.size + 2 ≠ g := Ne.symm n2
  have n3 : g ≠ w.heap.size + 1 + 1 := n2
  have n3' : w.heap.size + 1 + 1 ≠ g := n2'
  unfold opv ansv ansC
  clear I b al b3 hgl
  clear h h0 hm
  go_enter Try.func15, Try.ntmps15
  go_wp2
  go_ret
  exact ⟨rfl, Quiet.chg (unhide alH) _, unhide b3H⟩

set_option maxHeartbeats 4000000 in
set_option maxRecDepth 100000 in
theorem turned_feedR1 (w : World) (g : Nat) (S : GS) (b : Blk w g 29 (ghC S)) (I : Inv S) (a bb c : Int) (os ot : ByteArray) (hm : a.natAbs ≤ 549755813888) (h0 : 0 ≤ bb ∧ bb ≤ 8) (h9 : 0 ≤ c ∧ c ≤ 16) (hr : 1000000000000 * 2 ^ c.toNat < a * 2 ^ bb.toNat * S.d) :
    Calls Try.prog 15 #[.pointer (some ⟨g, 0, none⟩), opv 2 a bb c os ot, .int .i64 0, ansv S.e S.t 0 ⟨#[]⟩, ansv 8 0 0 ⟨#[]⟩] w fun ex w' => ex = .returned (.bool true) ∧ Chg (fun k => k = g) w w' ∧ Blk w' g 29 (ghC S) := by
  have al : Quiet w (((w.alloc (.cells #[.int .i64 2, .int .i64 a, .int .i64 bb, .int .i64 c, .string os, .string ot] 32)).alloc (.cells #[.int .i64 S.e, .int .i64 S.t, .int .i64 0, .string ⟨#[]⟩] 42)).alloc (.cells #[.int .i64 8, .int .i64 0, .int .i64 0, .string ⟨#[]⟩] 42)) := (((Chg.refl _ _).alloc _).alloc _).alloc _
  have b3 := Quiet.blk al b
  have hgl := b.lt
  unfold ghC at b
  have c0 := Quiet.cell al (show w.cell? ⟨g, 0, none⟩ = some (.int .i64 S.d) from b.cell 0)
  have c1 := Quiet.cell al (show w.cell? ⟨g, 1, none⟩ = some (.int .i64 S.q) from b.cell 1)
  have c2 := Quiet.cell al (show w.cell? ⟨g, 2, none⟩ = some (.int .i64 S.n) from b.cell 2)
  have c3 := Quiet.cell al (show w.cell? ⟨g, 3, none⟩ = some (.int .i64 S.s) from b.cell 3)
  have c4 := Quiet.cell al (show w.cell? ⟨g, 4, none⟩ = some (.int .i64 S.v) from b.cell 4)
  have c5 := Quiet.cell al (show w.cell? ⟨g, 5, none⟩ = some (.int .i64 S.k) from b.cell 5)
  have f0 := b3.frozen 0
  have f1 := b3.frozen 1
  have f2 := b3.frozen 2
  have f3 := b3.frozen 3
  have f4 := b3.frozen 4
  have f5 := b3.frozen 5
  have alH := hide al
  have b3H := hide b3
  have h1 : (a < -549755813888) = False := eq_false (by omega)
  have h2 : (549755813888 < a) = False := eq_false (by omega)
  obtain ⟨un, rfl⟩ := Int.eq_ofNat_of_zero_le h0.1
  obtain ⟨kn, rfl⟩ := Int.eq_ofNat_of_zero_le h9.1
  have h3 : ((un : Int) < 0) = False := eq_false (by omega)
  have h4 : (8 < (un : Int)) = False := eq_false (by omega)
  have h5 : ((kn : Int) < 0) = False := eq_false (by omega)
  have h6 : (16 < (kn : Int)) = False := eq_false (by omega)
  have id1 : 1 ≤ S.d ∧ S.d ≤ 10000 := by have := I.ten; unfold Ten at this; omega
  have pu : ((2 : Int) ^ un) ≤ 256 ∧ 1 ≤ (2 : Int) ^ un := by
    have : un = 0 ∨ un = 1 ∨ un = 2 ∨ un = 3 ∨ un = 4 ∨ un = 5 ∨ un = 6 ∨ un = 7 ∨ un = 8 := by omega
    rcases this with rfl | rfl | rfl | rfl | rfl | rfl | rfl | rfl | rfl <;> decide
  have pk : ((2 : Int) ^ kn) ≤ 65536 ∧ 1 ≤ (2 : Int) ^ kn := by
    have h1 : ((2 : Int) ^ kn) ≤ 2 ^ 16 := by
      rw [← ip, ← ip]; exact Int.ofNat_le.2 (Nat.pow_le_pow_right (by omega) (by omega))
    have h2 : (0 : Int) < 2 ^ kn := Int.pow_pos (by omega)
    omega
  obtain ⟨M, hM⟩ : ∃ M, a * 2 ^ un = M := ⟨_, rfl⟩
  have hMb : M.natAbs ≤ 549755813888 * 256 := by
    rw [← hM, Int.natAbs_mul]; exact Nat.mul_le_mul (by omega) (by omega)
  obtain ⟨P, hP⟩ : ∃ P, M * S.d = P := ⟨_, rfl⟩
  have hPb : P.natAbs ≤ 549755813888 * 256 * 10000 := by
    rw [← hP, Int.natAbs_mul]; exact Nat.mul_le_mul hMb (by omega)
  obtain ⟨D, hD⟩ : ∃ D : Int, (2 : Int) ^ kn = D := ⟨_, rfl⟩
  have hu9 : un ≤ 8 := by omega
  have hk9 : kn ≤ 16 := by omega
  rw [hD] at pk
  have bM : -9223372036854775808 ≤ M ∧ M ≤ 9223372036854775807 := by omega
  have bP : -9223372036854775808 ≤ P ∧ P ≤ 9223372036854775807 := by omega
  have bD : -9223372036854775808 ≤ D ∧ D ≤ 9223372036854775807 := by omega
  have bT1 : -9223372036854775808 ≤ 1000000000000 * D ∧ 1000000000000 * D ≤ 9223372036854775807 := by omega
  have bT2 : -9223372036854775808 ≤ -1000000000000 * D ∧ -1000000000000 * D ≤ 9223372036854775807 := by omega
  rw [show ((un : Int)).toNat = un from rfl, show ((kn : Int)).toNat = kn from rfl, hM, hP, hD] at hr
  have hr1 : (1000000000000 * D < P) = True := eq_true hr
  have n0 : g ≠ w.heap.size := Nat.ne_of_lt hgl
  have n0' : w.heap.size ≠ g := Ne.symm n0
  have n1 : g ≠ w.heap.size + 1 := Nat.ne_of_lt (Nat.lt_of_lt_of_le hgl (Nat.le_add_right _ _))
  have n1' : w.heap.size + 1 ≠ g := Ne.symm n1
  have n2 : g ≠ w.heap.size + 2 := Nat.ne_of_lt (Nat.lt_of_lt_of_le hgl (Nat.le_add_right _ _))
  have n2' : w.heap.size + 2 ≠ g := Ne.symm n2
  have n3 : g ≠ w.heap.size + 1 + 1 := n2
  have n3' : w.heap.size + 1 + 1 ≠ g := n2'
  unfold opv ansv ansC
  clear I b al b3 hgl
  have wr1 : IntKind.i64.wrap (a * 2 ^ un) = M := by rw [hM]; exact wrapI_ok _ bM.1 bM.2
  have wr2 : IntKind.i64.wrap (M * S.d) = P := by rw [hP]; exact wrapI_ok _ bP.1 bP.2
  have wr3 : wrap64 ((2 : Int) ^ kn) = D := by rw [hD]; exact wrap64_ok _ bD.1 bD.2
  have wd1 : wrap64 (1000000000000 * D) = 1000000000000 * D := wrap64_ok _ bT1.1 bT1.2
  have wd2 : wrap64 (-1000000000000 * D) = -1000000000000 * D := wrap64_ok _ bT2.1 bT2.2
  clear hM hP hD hMb hPb pu pk id1 h0 h9 hm bM bP bD bT1 bT2
  clear hr
  obtain ⟨d, t, e, q, n, s, v, k⟩ := S
  dsimp only at *
  go_enter Try.func15, Try.ntmps15
  go_wp2
  go_quiet (fail)
  go_wp2
  go_ret
  exact ⟨rfl, (Quiet.chg (unhide alH) _).drewN _, (unhide b3H).drewN _⟩

set_option maxHeartbeats 4000000 in
set_option maxRecDepth 100000 in
theorem turned_feedR2 (w : World) (g : Nat) (S : GS) (b : Blk w g 29 (ghC S)) (I : Inv S) (a bb c : Int) (os ot : ByteArray) (hm : a.natAbs ≤ 549755813888) (h0 : 0 ≤ bb ∧ bb ≤ 8) (h9 : 0 ≤ c ∧ c ≤ 16) (hr : a * 2 ^ bb.toNat * S.d < -1000000000000 * 2 ^ c.toNat) (hr0 : ¬ 1000000000000 * 2 ^ c.toNat < a * 2 ^ bb.toNat * S.d) :
    Calls Try.prog 15 #[.pointer (some ⟨g, 0, none⟩), opv 2 a bb c os ot, .int .i64 0, ansv S.e S.t 0 ⟨#[]⟩, ansv 8 0 0 ⟨#[]⟩] w fun ex w' => ex = .returned (.bool true) ∧ Chg (fun k => k = g) w w' ∧ Blk w' g 29 (ghC S) := by
  have al : Quiet w (((w.alloc (.cells #[.int .i64 2, .int .i64 a, .int .i64 bb, .int .i64 c, .string os, .string ot] 32)).alloc (.cells #[.int .i64 S.e, .int .i64 S.t, .int .i64 0, .string ⟨#[]⟩] 42)).alloc (.cells #[.int .i64 8, .int .i64 0, .int .i64 0, .string ⟨#[]⟩] 42)) := (((Chg.refl _ _).alloc _).alloc _).alloc _
  have b3 := Quiet.blk al b
  have hgl := b.lt
  unfold ghC at b
  have c0 := Quiet.cell al (show w.cell? ⟨g, 0, none⟩ = some (.int .i64 S.d) from b.cell 0)
  have c1 := Quiet.cell al (show w.cell? ⟨g, 1, none⟩ = some (.int .i64 S.q) from b.cell 1)
  have c2 := Quiet.cell al (show w.cell? ⟨g, 2, none⟩ = some (.int .i64 S.n) from b.cell 2)
  have c3 := Quiet.cell al (show w.cell? ⟨g, 3, none⟩ = some (.int .i64 S.s) from b.cell 3)
  have c4 := Quiet.cell al (show w.cell? ⟨g, 4, none⟩ = some (.int .i64 S.v) from b.cell 4)
  have c5 := Quiet.cell al (show w.cell? ⟨g, 5, none⟩ = some (.int .i64 S.k) from b.cell 5)
  have f0 := b3.frozen 0
  have f1 := b3.frozen 1
  have f2 := b3.frozen 2
  have f3 := b3.frozen 3
  have f4 := b3.frozen 4
  have f5 := b3.frozen 5
  have alH := hide al
  have b3H := hide b3
  have h1 : (a < -549755813888) = False := eq_false (by omega)
  have h2 : (549755813888 < a) = False := eq_false (by omega)
  obtain ⟨un, rfl⟩ := Int.eq_ofNat_of_zero_le h0.1
  obtain ⟨kn, rfl⟩ := Int.eq_ofNat_of_zero_le h9.1
  have h3 : ((un : Int) < 0) = False := eq_false (by omega)
  have h4 : (8 < (un : Int)) = False := eq_false (by omega)
  have h5 : ((kn : Int) < 0) = False := eq_false (by omega)
  have h6 : (16 < (kn : Int)) = False := eq_false (by omega)
  have id1 : 1 ≤ S.d ∧ S.d ≤ 10000 := by have := I.ten; unfold Ten at this; omega
  have pu : ((2 : Int) ^ un) ≤ 256 ∧ 1 ≤ (2 : Int) ^ un := by
    have : un = 0 ∨ un = 1 ∨ un = 2 ∨ un = 3 ∨ un = 4 ∨ un = 5 ∨ un = 6 ∨ un = 7 ∨ un = 8 := by omega
    rcases this with rfl | rfl | rfl | rfl | rfl | rfl | rfl | rfl | rfl <;> decide
  have pk : ((2 : Int) ^ kn) ≤ 65536 ∧ 1 ≤ (2 : Int) ^ kn := by
    have h1 : ((2 : Int) ^ kn) ≤ 2 ^ 16 := by
      rw [← ip, ← ip]; exact Int.ofNat_le.2 (Nat.pow_le_pow_right (by omega) (by omega))
    have h2 : (0 : Int) < 2 ^ kn := Int.pow_pos (by omega)
    omega
  obtain ⟨M, hM⟩ : ∃ M, a * 2 ^ un = M := ⟨_, rfl⟩
  have hMb : M.natAbs ≤ 549755813888 * 256 := by
    rw [← hM, Int.natAbs_mul]; exact Nat.mul_le_mul (by omega) (by omega)
  obtain ⟨P, hP⟩ : ∃ P, M * S.d = P := ⟨_, rfl⟩
  have hPb : P.natAbs ≤ 549755813888 * 256 * 10000 := by
    rw [← hP, Int.natAbs_mul]; exact Nat.mul_le_mul hMb (by omega)
  obtain ⟨D, hD⟩ : ∃ D : Int, (2 : Int) ^ kn = D := ⟨_, rfl⟩
  have hu9 : un ≤ 8 := by omega
  have hk9 : kn ≤ 16 := by omega
  rw [hD] at pk
  have bM : -9223372036854775808 ≤ M ∧ M ≤ 9223372036854775807 := by omega
  have bP : -9223372036854775808 ≤ P ∧ P ≤ 9223372036854775807 := by omega
  have bD : -9223372036854775808 ≤ D ∧ D ≤ 9223372036854775807 := by omega
  have bT1 : -9223372036854775808 ≤ 1000000000000 * D ∧ 1000000000000 * D ≤ 9223372036854775807 := by omega
  have bT2 : -9223372036854775808 ≤ -1000000000000 * D ∧ -1000000000000 * D ≤ 9223372036854775807 := by omega
  rw [show ((un : Int)).toNat = un from rfl, show ((kn : Int)).toNat = kn from rfl, hM, hP, hD] at hr hr0
  have hr1 : (1000000000000 * D < P) = False := eq_false hr0
  have hr2 : (P < -1000000000000 * D) = True := eq_true hr
  clear hr0
  have n0 : g ≠ w.heap.size := Nat.ne_of_lt hgl
  have n0' : w.heap.size ≠ g := Ne.symm n0
  have n1 : g ≠ w.heap.size + 1 := Nat.ne_of_lt (Nat.lt_of_lt_of_le hgl (Nat.le_add_right _ _))
  have n1' : w.heap.size + 1 ≠ g := Ne.symm n1
  have n2 : g ≠ w.heap.size + 2 := Nat.ne_of_lt (Nat.lt_of_lt_of_le hgl (Nat.le_add_right _ _))
  have n2' : w.heap.size + 2 ≠ g := Ne.symm n2
  have n3 : g ≠ w.heap.size + 1 + 1 := n2
  have n3' : w.heap.size + 1 + 1 ≠ g := n2'
  unfold opv ansv ansC
  clear I b al b3 hgl
  have wr1 : IntKind.i64.wrap (a * 2 ^ un) = M := by rw [hM]; exact wrapI_ok _ bM.1 bM.2
  have wr2 : IntKind.i64.wrap (M * S.d) = P := by rw [hP]; exact wrapI_ok _ bP.1 bP.2
  have wr3 : wrap64 ((2 : Int) ^ kn) = D := by rw [hD]; exact wrap64_ok _ bD.1 bD.2
  have wd1 : wrap64 (1000000000000 * D) = 1000000000000 * D := wrap64_ok _ bT1.1 bT1.2
  have wd2 : wrap64 (-1000000000000 * D) = -1000000000000 * D := wrap64_ok _ bT2.1 bT2.2
  clear hM hP hD hMb hPb pu pk id1 h0 h9 hm bM bP bD bT1 bT2
  clear hr
  obtain ⟨d, t, e, q, n, s, v, k⟩ := S
  dsimp only at *
  go_enter Try.func15, Try.ntmps15
  go_wp2
  go_quiet (fail)
  go_wp2
  go_ret
  exact ⟨rfl, (Quiet.chg (unhide alH) _).drewN _, (unhide b3H).drewN _⟩

set_option maxHeartbeats 4000000 in
set_option maxRecDepth 100000 in
theorem turned_feed (w : World) (g : Nat) (S : GS) (b : Blk w g 29 (ghC S)) (I : Inv S) (a bb c : Int) (os ot : ByteArray) (hm : a.natAbs ≤ 549755813888) (h0 : 0 ≤ bb ∧ bb ≤ 8) (h9 : 0 ≤ c ∧ c ≤ 16) (hr0 : ¬ 1000000000000 * 2 ^ c.toNat < a * 2 ^ bb.toNat * S.d) (hr : ¬ a * 2 ^ bb.toNat * S.d < -1000000000000 * 2 ^ c.toNat) (R : Int) (hR : R = roundDiv (a * 2 ^ bb.toNat * S.d) (2 ^ c.toNat)) :
    Calls Try.prog 15 #[.pointer (some ⟨g, 0, none⟩), opv 2 a bb c os ot, .int .i64 0, ansv S.e S.t 0 ⟨#[]⟩, ansv 0 R 0 ⟨#[]⟩] w fun ex w' => ex = .returned (.bool true) ∧ Chg (fun k => k = g) w w' ∧ Blk w' g 29 (ghC S) := by
  have al : Quiet w (((w.alloc (.cells #[.int .i64 2, .int .i64 a, .int .i64 bb, .int .i64 c, .string os, .string ot] 32)).alloc (.cells #[.int .i64 S.e, .int .i64 S.t, .int .i64 0, .string ⟨#[]⟩] 42)).alloc (.cells #[.int .i64 0, .int .i64 R, .int .i64 0, .string ⟨#[]⟩] 42)) := (((Chg.refl _ _).alloc _).alloc _).alloc _
  have b3 := Quiet.blk al b
  have hgl := b.lt
  unfold ghC at b
  have c0 := Quiet.cell al (show w.cell? ⟨g, 0, none⟩ = some (.int .i64 S.d) from b.cell 0)
  have c1 := Quiet.cell al (show w.cell? ⟨g, 1, none⟩ = some (.int .i64 S.q) from b.cell 1)
  have c2 := Quiet.cell al (show w.cell? ⟨g, 2, none⟩ = some (.int .i64 S.n) from b.cell 2)
  have c3 := Quiet.cell al (show w.cell? ⟨g, 3, none⟩ = some (.int .i64 S.s) from b.cell 3)
  have c4 := Quiet.cell al (show w.cell? ⟨g, 4, none⟩ = some (.int .i64 S.v) from b.cell 4)
  have c5 := Quiet.cell al (show w.cell? ⟨g, 5, none⟩ = some (.int .i64 S.k) from b.cell 5)
  have f0 := b3.frozen 0
  have f1 := b3.frozen 1
  have f2 := b3.frozen 2
  have f3 := b3.frozen 3
  have f4 := b3.frozen 4
  have f5 := b3.frozen 5
  have alH := hide al
  have b3H := hide b3
  have h1 : (a < -549755813888) = False := eq_false (by omega)
  have h2 : (549755813888 < a) = False := eq_false (by omega)
  obtain ⟨un, rfl⟩ := Int.eq_ofNat_of_zero_le h0.1
  obtain ⟨kn, rfl⟩ := Int.eq_ofNat_of_zero_le h9.1
  have h3 : ((un : Int) < 0) = False := eq_false (by omega)
  have h4 : (8 < (un : Int)) = False := eq_false (by omega)
  have h5 : ((kn : Int) < 0) = False := eq_false (by omega)
  have h6 : (16 < (kn : Int)) = False := eq_false (by omega)
  have id1 : 1 ≤ S.d ∧ S.d ≤ 10000 := by have := I.ten; unfold Ten at this; omega
  have pu : ((2 : Int) ^ un) ≤ 256 ∧ 1 ≤ (2 : Int) ^ un := by
    have : un = 0 ∨ un = 1 ∨ un = 2 ∨ un = 3 ∨ un = 4 ∨ un = 5 ∨ un = 6 ∨ un = 7 ∨ un = 8 := by omega
    rcases this with rfl | rfl | rfl | rfl | rfl | rfl | rfl | rfl | rfl <;> decide
  have pk : ((2 : Int) ^ kn) ≤ 65536 ∧ 1 ≤ (2 : Int) ^ kn := by
    have h1 : ((2 : Int) ^ kn) ≤ 2 ^ 16 := by
      rw [← ip, ← ip]; exact Int.ofNat_le.2 (Nat.pow_le_pow_right (by omega) (by omega))
    have h2 : (0 : Int) < 2 ^ kn := Int.pow_pos (by omega)
    omega
  obtain ⟨M, hM⟩ : ∃ M, a * 2 ^ un = M := ⟨_, rfl⟩
  have hMb : M.natAbs ≤ 549755813888 * 256 := by
    rw [← hM, Int.natAbs_mul]; exact Nat.mul_le_mul (by omega) (by omega)
  obtain ⟨P, hP⟩ : ∃ P, M * S.d = P := ⟨_, rfl⟩
  have hPb : P.natAbs ≤ 549755813888 * 256 * 10000 := by
    rw [← hP, Int.natAbs_mul]; exact Nat.mul_le_mul hMb (by omega)
  obtain ⟨D, hD⟩ : ∃ D : Int, (2 : Int) ^ kn = D := ⟨_, rfl⟩
  have hu9 : un ≤ 8 := by omega
  have hk9 : kn ≤ 16 := by omega
  rw [hD] at pk
  have bM : -9223372036854775808 ≤ M ∧ M ≤ 9223372036854775807 := by omega
  have bP : -9223372036854775808 ≤ P ∧ P ≤ 9223372036854775807 := by omega
  have bD : -9223372036854775808 ≤ D ∧ D ≤ 9223372036854775807 := by omega
  have bT1 : -9223372036854775808 ≤ 1000000000000 * D ∧ 1000000000000 * D ≤ 9223372036854775807 := by omega
  have bT2 : -9223372036854775808 ≤ -1000000000000 * D ∧ -1000000000000 * D ≤ 9223372036854775807 := by omega
  rw [show ((un : Int)).toNat = un from rfl, show ((kn : Int)).toNat = kn from rfl, hM, hP, hD] at hr hr0 hR
  have hr1 : (1000000000000 * D < P) = False := eq_false hr0
  have hr2 : (P < -1000000000000 * D) = False := eq_false hr
  have hle := roundDiv_le P D 1000000000000 pk.2 (by decide) (by omega)
  have hne := hide (fun W => near_any W P D (by omega) pk.2 (by omega) (by omega))
  rw [← hR] at hne
  clear hr0 hle hR
  have n0 : g ≠ w.heap.size := Nat.ne_of_lt hgl
  have n0' : w.heap.size ≠ g := Ne.symm n0
  have n1 : g ≠ w.heap.size + 1 := Nat.ne_of_lt (Nat.lt_of_lt_of_le hgl (Nat.le_add_right _ _))
  have n1' : w.heap.size + 1 ≠ g := Ne.symm n1
  have n2 : g ≠ w.heap.size + 2 := Nat.ne_of_lt (Nat.lt_of_lt_of_le hgl (Nat.le_add_right _ _))
  have n2' : w.heap.size + 2 ≠ g := Ne.symm n2
  have n3 : g ≠ w.heap.size + 1 + 1 := n2
  have n3' : w.heap.size + 1 + 1 ≠ g := n2'
  unfold opv ansv ansC
  clear I b al b3 hgl
  have wr1 : IntKind.i64.wrap (a * 2 ^ un) = M := by rw [hM]; exact wrapI_ok _ bM.1 bM.2
  have wr2 : IntKind.i64.wrap (M * S.d) = P := by rw [hP]; exact wrapI_ok _ bP.1 bP.2
  have wr3 : wrap64 ((2 : Int) ^ kn) = D := by rw [hD]; exact wrap64_ok _ bD.1 bD.2
  have wd1 : wrap64 (1000000000000 * D) = 1000000000000 * D := wrap64_ok _ bT1.1 bT1.2
  have wd2 : wrap64 (-1000000000000 * D) = -1000000000000 * D := wrap64_ok _ bT2.1 bT2.2
  clear hM hP hD hMb hPb pu pk id1 h0 h9 hm bM bP bD bT1 bT2
  clear hr
  obtain ⟨d, t, e, q, n, s, v, k⟩ := S
  dsimp only at *
  go_enter Try.func15, Try.ntmps15
  go_wp2
  go_quiet (fail)
  go_wp2_with fail
  refine (unhide hne _).mono ?_
  rintro ex w9 ⟨rfl, j, rfl⟩
  go_wp2
  go_ret
  exact ⟨rfl, (Quiet.chg (unhide alH) _).drewN _, (unhide b3H).drewN _⟩

set_option maxHeartbeats 4000000 in
set_option maxRecDepth 100000 in
theorem turned_oddE1 (w : World) (g : Nat) (S : GS) (b : Blk w g 29 (ghC S)) (I : Inv S) (a bb c : Int) (os ot : ByteArray) (h : a < 1) :
    Calls Try.prog 15 #[.pointer (some ⟨g, 0, none⟩), opv 3 a bb c os ot, .int .i64 4, ansv S.e S.t 0 ⟨#[]⟩, ansv S.e S.t 0 ⟨#[]⟩] w fun ex w' => ex = .returned (.bool true) ∧ Chg (fun k => k = g) w w' ∧ Blk w' g 29 (ghC S) := by
  have al : Quiet w (((w.alloc (.cells #[.int .i64 3, .int .i64 a, .int .i64 bb, .int .i64 c, .string os, .string ot] 32)).alloc (.cells #[.int .i64 S.e, .int .i64 S.t, .int .i64 0, .string ⟨#[]⟩] 42)).alloc (.cells #[.int .i64 S.e, .int .i64 S.t, .int .i64 0, .string ⟨#[]⟩] 42)) := (((Chg.refl _ _).alloc _).alloc _).alloc _
  have b3 := Quiet.blk al b
  have hgl := b.lt
  unfold ghC at b
  have c0 := Quiet.cell al (show w.cell? ⟨g, 0, none⟩ = some (.int .i64 S.d) from b.cell 0)
  have c1 := Quiet.cell al (show w.cell? ⟨g, 1, none⟩ = some (.int .i64 S.q) from b.cell 1)
  have c2 := Quiet.cell al (show w.cell? ⟨g, 2, none⟩ = some (.int .i64 S.n) from b.cell 2)
  have c3 := Quiet.cell al (show w.cell? ⟨g, 3, none⟩ = some (.int .i64 S.s) from b.cell 3)
  have c4 := Quiet.cell al (show w.cell? ⟨g, 4, none⟩ = some (.int .i64 S.v) from b.cell 4)
  have c5 := Quiet.cell al (show w.cell? ⟨g, 5, none⟩ = some (.int .i64 S.k) from b.cell 5)
  have f0 := b3.frozen 0
  have f1 := b3.frozen 1
  have f2 := b3.frozen 2
  have f3 := b3.frozen 3
  have f4 := b3.frozen 4
  have f5 := b3.frozen 5
  have alH := hide al
  have b3H := hide b3
  have h1 : (a < 1) = True := eq_true (by omega)
  have n0 : g ≠ w.heap.size := Nat.ne_of_lt hgl
  have n0' : w.heap.size ≠ g := Ne.symm n0
  have n1 : g ≠ w.heap.size + 1 := Nat.ne_of_lt (Nat.lt_of_lt_of_le hgl (Nat.le_add_right _ _))
  have n1' : w.heap.size + 1 ≠ g := Ne.symm n1
  have n2 : g ≠ w.heap.size + 2 := Nat.ne_of_lt (Nat.lt_of_lt_of_le hgl (Nat.le_add_right _ _))
  have n2' : w.heap.size + 2 ≠ g := Ne.symm n2
  have n3 : g ≠ w.heap.size + 1 + 1 := n2
  have n3' : w.heap.size + 1 + 1 ≠ g := n2'
  unfold opv ansv ansC
  clear I b al b3 hgl
  clear h
  go_enter Try.func15, Try.ntmps15
  go_wp2
  go_ret
  exact ⟨rfl, Quiet.chg (unhide alH) _, unhide b3H⟩

set_option maxHeartbeats 4000000 in
set_option maxRecDepth 100000 in
theorem turned_oddE2 (w : World) (g : Nat) (S : GS) (b : Blk w g 29 (ghC S)) (I : Inv S) (a bb c : Int) (os ot : ByteArray) (h : 7 < a) :
    Calls Try.prog 15 #[.pointer (some ⟨g, 0, none⟩), opv 3 a bb c os ot, .int .i64 4, ansv S.e S.t 0 ⟨#[]⟩, ansv S.e S.t 0 ⟨#[]⟩] w fun ex w' => ex = .returned (.bool true) ∧ Chg (fun k => k = g) w w' ∧ Blk w' g 29 (ghC S) := by
  have al : Quiet w (((w.alloc (.cells #[.int .i64 3, .int .i64 a, .int .i64 bb, .int .i64 c, .string os, .string ot] 32)).alloc (.cells #[.int .i64 S.e, .int .i64 S.t, .int .i64 0, .string ⟨#[]⟩] 42)).alloc (.cells #[.int .i64 S.e, .int .i64 S.t, .int .i64 0, .string ⟨#[]⟩] 42)) := (((Chg.refl _ _).alloc _).alloc _).alloc _
  have b3 := Quiet.blk al b
  have hgl := b.lt
  unfold ghC at b
  have c0 := Quiet.cell al (show w.cell? ⟨g, 0, none⟩ = some (.int .i64 S.d) from b.cell 0)
  have c1 := Quiet.cell al (show w.cell? ⟨g, 1, none⟩ = some (.int .i64 S.q) from b.cell 1)
  have c2 := Quiet.cell al (show w.cell? ⟨g, 2, none⟩ = some (.int .i64 S.n) from b.cell 2)
  have c3 := Quiet.cell al (show w.cell? ⟨g, 3, none⟩ = some (.int .i64 S.s) from b.cell 3)
  have c4 := Quiet.cell al (show w.cell? ⟨g, 4, none⟩ = some (.int .i64 S.v) from b.cell 4)
  have c5 := Quiet.cell al (show w.cell? ⟨g, 5, none⟩ = some (.int .i64 S.k) from b.cell 5)
  have f0 := b3.frozen 0
  have f1 := b3.frozen 1
  have f2 := b3.frozen 2
  have f3 := b3.frozen 3
  have f4 := b3.frozen 4
  have f5 := b3.frozen 5
  have alH := hide al
  have b3H := hide b3
  have h1 : (a < 1) = False := eq_false (by omega)
  have h2 : (7 < a) = True := eq_true (by omega)
  have n0 : g ≠ w.heap.size := Nat.ne_of_lt hgl
  have n0' : w.heap.size ≠ g := Ne.symm n0
  have n1 : g ≠ w.heap.size + 1 := Nat.ne_of_lt (Nat.lt_of_lt_of_le hgl (Nat.le_add_right _ _))
  have n1' : w.heap.size + 1 ≠ g := Ne.symm n1
  have n2 : g ≠ w.heap.size + 2 := Nat.ne_of_lt (Nat.lt_of_lt_of_le hgl (Nat.le_add_right _ _))
  have n2' : w.heap.size + 2 ≠ g := Ne.symm n2
  have n3 : g ≠ w.heap.size + 1 + 1 := n2
  have n3' : w.heap.size + 1 + 1 ≠ g := n2'
  unfold opv ansv ansC
  clear I b al b3 hgl
  clear h
  go_enter Try.func15, Try.ntmps15
  go_wp2
  go_ret
  exact ⟨rfl, Quiet.chg (unhide alH) _, unhide b3H⟩

set_option maxHeartbeats 4000000 in
set_option maxRecDepth 100000 in
theorem turned_odd (w : World) (g : Nat) (S : GS) (b : Blk w g 29 (ghC S)) (I : Inv S) (a bb c : Int) (os ot : ByteArray) (h : 1 ≤ a ∧ a ≤ 7) :
    Calls Try.prog 15 #[.pointer (some ⟨g, 0, none⟩), opv 3 a bb c os ot, .int .i64 0, ansv S.e S.t 0 ⟨#[]⟩, ansv (oddT a) 0 0 ⟨#[]⟩] w fun ex w' => ex = .returned (.bool true) ∧ Chg (fun k => k = g) w w' ∧ Blk w' g 29 (ghC S) := by
  have al : Quiet w (((w.alloc (.cells #[.int .i64 3, .int .i64 a, .int .i64 bb, .int .i64 c, .string os, .string ot] 32)).alloc (.cells #[.int .i64 S.e, .int .i64 S.t, .int .i64 0, .string ⟨#[]⟩] 42)).alloc (.cells #[.int .i64 (oddT a), .int .i64 0, .int .i64 0, .string ⟨#[]⟩] 42)) := (((Chg.refl _ _).alloc _).alloc _).alloc _
  have b3 := Quiet.blk al b
  have hgl := b.lt
  unfold ghC at b
  have c0 := Quiet.cell al (show w.cell? ⟨g, 0, none⟩ = some (.int .i64 S.d) from b.cell 0)
  have c1 := Quiet.cell al (show w.cell? ⟨g, 1, none⟩ = some (.int .i64 S.q) from b.cell 1)
  have c2 := Quiet.cell al (show w.cell? ⟨g, 2, none⟩ = some (.int .i64 S.n) from b.cell 2)
  have c3 := Quiet.cell al (show w.cell? ⟨g, 3, none⟩ = some (.int .i64 S.s) from b.cell 3)
  have c4 := Quiet.cell al (show w.cell? ⟨g, 4, none⟩ = some (.int .i64 S.v) from b.cell 4)
  have c5 := Quiet.cell al (show w.cell? ⟨g, 5, none⟩ = some (.int .i64 S.k) from b.cell 5)
  have f0 := b3.frozen 0
  have f1 := b3.frozen 1
  have f2 := b3.frozen 2
  have f3 := b3.frozen 3
  have f4 := b3.frozen 4
  have f5 := b3.frozen 5
  have alH := hide al
  have b3H := hide b3
  have h1 : (a < 1) = False := eq_false (by omega)
  have h2 : (7 < a) = False := eq_false (by omega)
  have ho := hide (fun W => oddOwes_any W a h.1 h.2)
  have bo : Blk (((w.alloc (.cells #[.int .i64 3, .int .i64 a, .int .i64 bb, .int .i64 c, .string os, .string ot] 32)).alloc (.cells #[.int .i64 S.e, .int .i64 S.t, .int .i64 0, .string ⟨#[]⟩] 42)).alloc (.cells #[.int .i64 (oddT a), .int .i64 0, .int .i64 0, .string ⟨#[]⟩] 42)) w.heap.size 32 [.int .i64 3, .int .i64 a, .int .i64 bb, .int .i64 c, .string os, .string ot] := ((Blk.new w 32 [.int .i64 3, .int .i64 a, .int .i64 bb, .int .i64 c, .string os, .string ot]).alloc _).alloc _
  have bn : Blk (((w.alloc (.cells #[.int .i64 3, .int .i64 a, .int .i64 bb, .int .i64 c, .string os, .string ot] 32)).alloc (.cells #[.int .i64 S.e, .int .i64 S.t, .int .i64 0, .string ⟨#[]⟩] 42)).alloc (.cells #[.int .i64 (oddT a), .int .i64 0, .int .i64 0, .string ⟨#[]⟩] 42)) (w.heap.size + 2) 42 [.int .i64 (oddT a), .int .i64 0, .int .i64 0, .string ⟨#[]⟩] := Blk.at_new (cs := [.int .i64 (oddT a), .int .i64 0, .int .i64 0, .string ⟨#[]⟩]) (by simp)
  have hcn := QW.blk bn
  have hco := QW.blk bo
  unfold ansv ansC at ho
  generalize oddT a = OT at *
  have n0 : g ≠ w.heap.size := Nat.ne_of_lt hgl
  have n0' : w.heap.size ≠ g := Ne.symm n0
  have n1 : g ≠ w.heap.size + 1 := Nat.ne_of_lt (Nat.lt_of_lt_of_le hgl (Nat.le_add_right _ _))
  have n1' : w.heap.size + 1 ≠ g := Ne.symm n1
  have n2 : g ≠ w.heap.size + 2 := Nat.ne_of_lt (Nat.lt_of_lt_of_le hgl (Nat.le_add_right _ _))
  have n2' : w.heap.size + 2 ≠ g := Ne.symm n2
  have n3 : g ≠ w.heap.size + 1 + 1 := n2
  have n3' : w.heap.size + 1 + 1 ≠ g := n2'
  unfold opv ansv ansC
  clear I b al b3 hgl
  clear h
  obtain ⟨d, t, e, q, n, s, v, k⟩ := S
  dsimp only at *
  go_enter Try.func15, Try.ntmps15
  go_wp2
  refine wp_region_noPanic ?_
  try simp only [List.append_eq, List.cons_append, List.nil_append]
  refine wp_region_mixq [(0, true), (1, true), (2, true), (3, true), (4, true), (5, true), (6, true), (7, true), (8, true), (9, true)] [] (by kernel_rfl) (by kernel_rfl) (fun _ _ _ _ _ h => h) ?_
  simp only [pickM, pickO, List.getElem?_cons_zero, List.getElem?_cons_succ]
  repeat (first | (refine wpMix_read rfl (fun K hK => ?_)) | (refine wpMix_pure rfl (fun K hK => ?_))
          go_big_quiet_op
          first | (refine hK _ ?_; clear hK K) | (apply Exists.intro; refine ⟨fun _ => ?_, ?_⟩; (· (first | (go_at_call 34; exact Calls.in_qw (unhide ho _)))); refine hK _ ?_; clear hK K))
  refine wpMix_nil ?_
  intro _ hw'
  obtain ⟨qq, hw''⟩ := hw'
  subst hw''
  have hqq := qq.q
  generalize qq.w = wq at *
  have hqf := hide (Quiet.trans (unhide alH) hqq)
  have b4 := hide (Quiet.blk hqq (unhide b3H))
  clear hqq hcn hco
  go_wp2
  refine NoPanic.normal ?_
  go_wp2
  go_ret
  exact ⟨rfl, Quiet.chg (unhide hqf) _, unhide b4⟩

set_option maxHeartbeats 4000000 in
set_option maxRecDepth 100000 in
theorem turned_quoteE1 (w : World) (g : Nat) (S : GS) (b : Blk w g 29 (ghC S)) (I : Inv S) (a bb c : Int) (os ot : ByteArray) (h : a < -1000000000000) :
    Calls Try.prog 15 #[.pointer (some ⟨g, 0, none⟩), opv 4 a bb c os ot, .int .i64 8, ansv S.e S.t 0 ⟨#[]⟩, ansv S.e S.t 0 ⟨#[]⟩] w fun ex w' => ex = .returned (.bool true) ∧ Chg (fun k => k = g) w w' ∧ Blk w' g 29 (ghC S) := by
  have al : Quiet w (((w.alloc (.cells #[.int .i64 4, .int .i64 a, .int .i64 bb, .int .i64 c, .string os, .string ot] 32)).alloc (.cells #[.int .i64 S.e, .int .i64 S.t, .int .i64 0, .string ⟨#[]⟩] 42)).alloc (.cells #[.int .i64 S.e, .int .i64 S.t, .int .i64 0, .string ⟨#[]⟩] 42)) := (((Chg.refl _ _).alloc _).alloc _).alloc _
  have b3 := Quiet.blk al b
  have hgl := b.lt
  unfold ghC at b
  have c0 := Quiet.cell al (show w.cell? ⟨g, 0, none⟩ = some (.int .i64 S.d) from b.cell 0)
  have c1 := Quiet.cell al (show w.cell? ⟨g, 1, none⟩ = some (.int .i64 S.q) from b.cell 1)
  have c2 := Quiet.cell al (show w.cell? ⟨g, 2, none⟩ = some (.int .i64 S.n) from b.cell 2)
  have c3 := Quiet.cell al (show w.cell? ⟨g, 3, none⟩ = some (.int .i64 S.s) from b.cell 3)
  have c4 := Quiet.cell al (show w.cell? ⟨g, 4, none⟩ = some (.int .i64 S.v) from b.cell 4)
  have c5 := Quiet.cell al (show w.cell? ⟨g, 5, none⟩ = some (.int .i64 S.k) from b.cell 5)
  have f0 := b3.frozen 0
  have f1 := b3.frozen 1
  have f2 := b3.frozen 2
  have f3 := b3.frozen 3
  have f4 := b3.frozen 4
  have f5 := b3.frozen 5
  have alH := hide al
  have b3H := hide b3
  have h1 : (a < -1000000000000) = True := eq_true (by omega)
  have n0 : g ≠ w.heap.size := Nat.ne_of_lt hgl
  have n0' : w.heap.size ≠ g := Ne.symm n0
  have n1 : g ≠ w.heap.size + 1 := Nat.ne_of_lt (Nat.lt_of_lt_of_le hgl (Nat.le_add_right _ _))
  have n1' : w.heap.size + 1 ≠ g := Ne.symm n1
  have n2 : g ≠ w.heap.size + 2 := Nat.ne_of_lt (Nat.lt_of_lt_of_le hgl (Nat.le_add_right _ _))
  have n2' : w.heap.size + 2 ≠ g := Ne.symm n2
  have n3 : g ≠ w.heap.size + 1 + 1 := n2
  have n3' : w.heap.size + 1 + 1 ≠ g := n2'
  unfold opv ansv ansC
  clear I b al b3 hgl
  clear h
  go_enter Try.func15, Try.ntmps15
  go_wp2
  go_ret
  exact ⟨rfl, Quiet.chg (unhide alH) _, unhide b3H⟩

set_option maxHeartbeats 4000000 in
set_option maxRecDepth 100000 in
theorem turned_quoteE2 (w : World) (g : Nat) (S : GS) (b : Blk w g 29 (ghC S)) (I : Inv S) (a bb c : Int) (os ot : ByteArray) (h : 1000000000000 < a) :
    Calls Try.prog 15 #[.pointer (some ⟨g, 0, none⟩), opv 4 a bb c os ot, .int .i64 8, ansv S.e S.t 0 ⟨#[]⟩, ansv S.e S.t 0 ⟨#[]⟩] w fun ex w' => ex = .returned (.bool true) ∧ Chg (fun k => k = g) w w' ∧ Blk w' g 29 (ghC S) := by
  have al : Quiet w (((w.alloc (.cells #[.int .i64 4, .int .i64 a, .int .i64 bb, .int .i64 c, .string os, .string ot] 32)).alloc (.cells #[.int .i64 S.e, .int .i64 S.t, .int .i64 0, .string ⟨#[]⟩] 42)).alloc (.cells #[.int .i64 S.e, .int .i64 S.t, .int .i64 0, .string ⟨#[]⟩] 42)) := (((Chg.refl _ _).alloc _).alloc _).alloc _
  have b3 := Quiet.blk al b
  have hgl := b.lt
  unfold ghC at b
  have c0 := Quiet.cell al (show w.cell? ⟨g, 0, none⟩ = some (.int .i64 S.d) from b.cell 0)
  have c1 := Quiet.cell al (show w.cell? ⟨g, 1, none⟩ = some (.int .i64 S.q) from b.cell 1)
  have c2 := Quiet.cell al (show w.cell? ⟨g, 2, none⟩ = some (.int .i64 S.n) from b.cell 2)
  have c3 := Quiet.cell al (show w.cell? ⟨g, 3, none⟩ = some (.int .i64 S.s) from b.cell 3)
  have c4 := Quiet.cell al (show w.cell? ⟨g, 4, none⟩ = some (.int .i64 S.v) from b.cell 4)
  have c5 := Quiet.cell al (show w.cell? ⟨g, 5, none⟩ = some (.int .i64 S.k) from b.cell 5)
  have f0 := b3.frozen 0
  have f1 := b3.frozen 1
  have f2 := b3.frozen 2
  have f3 := b3.frozen 3
  have f4 := b3.frozen 4
  have f5 := b3.frozen 5
  have alH := hide al
  have b3H := hide b3
  have h1 : (a < -1000000000000) = False := eq_false (by omega)
  have h2 : (1000000000000 < a) = True := eq_true (by omega)
  have n0 : g ≠ w.heap.size := Nat.ne_of_lt hgl
  have n0' : w.heap.size ≠ g := Ne.symm n0
  have n1 : g ≠ w.heap.size + 1 := Nat.ne_of_lt (Nat.lt_of_lt_of_le hgl (Nat.le_add_right _ _))
  have n1' : w.heap.size + 1 ≠ g := Ne.symm n1
  have n2 : g ≠ w.heap.size + 2 := Nat.ne_of_lt (Nat.lt_of_lt_of_le hgl (Nat.le_add_right _ _))
  have n2' : w.heap.size + 2 ≠ g := Ne.symm n2
  have n3 : g ≠ w.heap.size + 1 + 1 := n2
  have n3' : w.heap.size + 1 + 1 ≠ g := n2'
  unfold opv ansv ansC
  clear I b al b3 hgl
  clear h
  go_enter Try.func15, Try.ntmps15
  go_wp2
  go_ret
  exact ⟨rfl, Quiet.chg (unhide alH) _, unhide b3H⟩

set_option maxHeartbeats 4000000 in
set_option maxRecDepth 100000 in
theorem turned_quote (w : World) (g : Nat) (S : GS) (b : Blk w g 29 (ghC S)) (I : Inv S) (a bb c : Int) (os ot : ByteArray) (h : a.natAbs ≤ 1000000000000) :
    Calls Try.prog 15 #[.pointer (some ⟨g, 0, none⟩), opv 4 a bb c os ot, .int .i64 0, ansv S.e S.t 0 ⟨#[]⟩, ansv 0 a 0 ⟨#[]⟩] w fun ex w' => ex = .returned (.bool true) ∧ Chg (fun k => k = g) w w' ∧ Blk w' g 29 (ghC S) := by
  have al : Quiet w (((w.alloc (.cells #[.int .i64 4, .int .i64 a, .int .i64 bb, .int .i64 c, .string os, .string ot] 32)).alloc (.cells #[.int .i64 S.e, .int .i64 S.t, .int .i64 0, .string ⟨#[]⟩] 42)).alloc (.cells #[.int .i64 0, .int .i64 a, .int .i64 0, .string ⟨#[]⟩] 42)) := (((Chg.refl _ _).alloc _).alloc _).alloc _
  have b3 := Quiet.blk al b
  have hgl := b.lt
  unfold ghC at b
  have c0 := Quiet.cell al (show w.cell? ⟨g, 0, none⟩ = some (.int .i64 S.d) from b.cell 0)
  have c1 := Quiet.cell al (show w.cell? ⟨g, 1, none⟩ = some (.int .i64 S.q) from b.cell 1)
  have c2 := Quiet.cell al (show w.cell? ⟨g, 2, none⟩ = some (.int .i64 S.n) from b.cell 2)
  have c3 := Quiet.cell al (show w.cell? ⟨g, 3, none⟩ = some (.int .i64 S.s) from b.cell 3)
  have c4 := Quiet.cell al (show w.cell? ⟨g, 4, none⟩ = some (.int .i64 S.v) from b.cell 4)
  have c5 := Quiet.cell al (show w.cell? ⟨g, 5, none⟩ = some (.int .i64 S.k) from b.cell 5)
  have f0 := b3.frozen 0
  have f1 := b3.frozen 1
  have f2 := b3.frozen 2
  have f3 := b3.frozen 3
  have f4 := b3.frozen 4
  have f5 := b3.frozen 5
  have alH := hide al
  have b3H := hide b3
  have h1 : (a < -1000000000000) = False := eq_false (by omega)
  have h2 : (1000000000000 < a) = False := eq_false (by omega)
  have n0 : g ≠ w.heap.size := Nat.ne_of_lt hgl
  have n0' : w.heap.size ≠ g := Ne.symm n0
  have n1 : g ≠ w.heap.size + 1 := Nat.ne_of_lt (Nat.lt_of_lt_of_le hgl (Nat.le_add_right _ _))
  have n1' : w.heap.size + 1 ≠ g := Ne.symm n1
  have n2 : g ≠ w.heap.size + 2 := Nat.ne_of_lt (Nat.lt_of_lt_of_le hgl (Nat.le_add_right _ _))
  have n2' : w.heap.size + 2 ≠ g := Ne.symm n2
  have n3 : g ≠ w.heap.size + 1 + 1 := n2
  have n3' : w.heap.size + 1 + 1 ≠ g := n2'
  unfold opv ansv ansC
  clear I b al b3 hgl
  clear h
  go_enter Try.func15, Try.ntmps15
  go_wp2
  go_ret
  exact ⟨rfl, Quiet.chg (unhide alH) _, unhide b3H⟩

set_option maxHeartbeats 4000000 in
set_option maxRecDepth 100000 in
theorem turned_sizeE1 (w : World) (g : Nat) (S : GS) (b : Blk w g 29 (ghC S)) (I : Inv S) (a bb c : Int) (os ot : ByteArray) (h : a < 1) :
    Calls Try.prog 15 #[.pointer (some ⟨g, 0, none⟩), opv 5 a bb c os ot, .int .i64 5, ansv S.e S.t 0 ⟨#[]⟩, ansv S.e S.t 0 ⟨#[]⟩] w fun ex w' => ex = .returned (.bool true) ∧ Chg (fun k => k = g) w w' ∧ Blk w' g 29 (ghC S) := by
  have al : Quiet w (((w.alloc (.cells #[.int .i64 5, .int .i64 a, .int .i64 bb, .int .i64 c, .string os, .string ot] 32)).alloc (.cells #[.int .i64 S.e, .int .i64 S.t, .int .i64 0, .string ⟨#[]⟩] 42)).alloc (.cells #[.int .i64 S.e, .int .i64 S.t, .int .i64 0, .string ⟨#[]⟩] 42)) := (((Chg.refl _ _).alloc _).alloc _).alloc _
  have b3 := Quiet.blk al b
  have hgl := b.lt
  unfold ghC at b
  have c0 := Quiet.cell al (show w.cell? ⟨g, 0, none⟩ = some (.int .i64 S.d) from b.cell 0)
  have c1 := Quiet.cell al (show w.cell? ⟨g, 1, none⟩ = some (.int .i64 S.q) from b.cell 1)
  have c2 := Quiet.cell al (show w.cell? ⟨g, 2, none⟩ = some (.int .i64 S.n) from b.cell 2)
  have c3 := Quiet.cell al (show w.cell? ⟨g, 3, none⟩ = some (.int .i64 S.s) from b.cell 3)
  have c4 := Quiet.cell al (show w.cell? ⟨g, 4, none⟩ = some (.int .i64 S.v) from b.cell 4)
  have c5 := Quiet.cell al (show w.cell? ⟨g, 5, none⟩ = some (.int .i64 S.k) from b.cell 5)
  have f0 := b3.frozen 0
  have f1 := b3.frozen 1
  have f2 := b3.frozen 2
  have f3 := b3.frozen 3
  have f4 := b3.frozen 4
  have f5 := b3.frozen 5
  have alH := hide al
  have b3H := hide b3
  have h1 : (a < 1) = True := eq_true (by omega)
  have n0 : g ≠ w.heap.size := Nat.ne_of_lt hgl
  have n0' : w.heap.size ≠ g := Ne.symm n0
  have n1 : g ≠ w.heap.size + 1 := Nat.ne_of_lt (Nat.lt_of_lt_of_le hgl (Nat.le_add_right _ _))
  have n1' : w.heap.size + 1 ≠ g := Ne.symm n1
  have n2 : g ≠ w.heap.size + 2 := Nat.ne_of_lt (Nat.lt_of_lt_of_le hgl (Nat.le_add_right _ _))
  have n2' : w.heap.size + 2 ≠ g := Ne.symm n2
  have n3 : g ≠ w.heap.size + 1 + 1 := n2
  have n3' : w.heap.size + 1 + 1 ≠ g := n2'
  unfold opv ansv ansC
  clear I b al b3 hgl
  clear h
  go_enter Try.func15, Try.ntmps15
  go_wp2
  go_ret
  exact ⟨rfl, Quiet.chg (unhide alH) _, unhide b3H⟩

set_option maxHeartbeats 4000000 in
set_option maxRecDepth 100000 in
theorem turned_sizeE2 (w : World) (g : Nat) (S : GS) (b : Blk w g 29 (ghC S)) (I : Inv S) (a bb c : Int) (os ot : ByteArray) (h : 16777216 < a) :
    Calls Try.prog 15 #[.pointer (some ⟨g, 0, none⟩), opv 5 a bb c os ot, .int .i64 5, ansv S.e S.t 0 ⟨#[]⟩, ansv S.e S.t 0 ⟨#[]⟩] w fun ex w' => ex = .returned (.bool true) ∧ Chg (fun k => k = g) w w' ∧ Blk w' g 29 (ghC S) := by
  have al : Quiet w (((w.alloc (.cells #[.int .i64 5, .int .i64 a, .int .i64 bb, .int .i64 c, .string os, .string ot] 32)).alloc (.cells #[.int .i64 S.e, .int .i64 S.t, .int .i64 0, .string ⟨#[]⟩] 42)).alloc (.cells #[.int .i64 S.e, .int .i64 S.t, .int .i64 0, .string ⟨#[]⟩] 42)) := (((Chg.refl _ _).alloc _).alloc _).alloc _
  have b3 := Quiet.blk al b
  have hgl := b.lt
  unfold ghC at b
  have c0 := Quiet.cell al (show w.cell? ⟨g, 0, none⟩ = some (.int .i64 S.d) from b.cell 0)
  have c1 := Quiet.cell al (show w.cell? ⟨g, 1, none⟩ = some (.int .i64 S.q) from b.cell 1)
  have c2 := Quiet.cell al (show w.cell? ⟨g, 2, none⟩ = some (.int .i64 S.n) from b.cell 2)
  have c3 := Quiet.cell al (show w.cell? ⟨g, 3, none⟩ = some (.int .i64 S.s) from b.cell 3)
  have c4 := Quiet.cell al (show w.cell? ⟨g, 4, none⟩ = some (.int .i64 S.v) from b.cell 4)
  have c5 := Quiet.cell al (show w.cell? ⟨g, 5, none⟩ = some (.int .i64 S.k) from b.cell 5)
  have f0 := b3.frozen 0
  have f1 := b3.frozen 1
  have f2 := b3.frozen 2
  have f3 := b3.frozen 3
  have f4 := b3.frozen 4
  have f5 := b3.frozen 5
  have alH := hide al
  have b3H := hide b3
  have h1 : (a < 1) = False := eq_false (by omega)
  have h2 : (16777216 < a) = True := eq_true (by omega)
  have n0 : g ≠ w.heap.size := Nat.ne_of_lt hgl
  have n0' : w.heap.size ≠ g := Ne.symm n0
  have n1 : g ≠ w.heap.size + 1 := Nat.ne_of_lt (Nat.lt_of_lt_of_le hgl (Nat.le_add_right _ _))
  have n1' : w.heap.size + 1 ≠ g := Ne.symm n1
  have n2 : g ≠ w.heap.size + 2 := Nat.ne_of_lt (Nat.lt_of_lt_of_le hgl (Nat.le_add_right _ _))
  have n2' : w.heap.size + 2 ≠ g := Ne.symm n2
  have n3 : g ≠ w.heap.size + 1 + 1 := n2
  have n3' : w.heap.size + 1 + 1 ≠ g := n2'
  unfold opv ansv ansC
  clear I b al b3 hgl
  clear h
  go_enter Try.func15, Try.ntmps15
  go_wp2
  go_ret
  exact ⟨rfl, Quiet.chg (unhide alH) _, unhide b3H⟩

set_option maxHeartbeats 4000000 in
set_option maxRecDepth 100000 in
theorem turned_size (w : World) (g : Nat) (S : GS) (b : Blk w g 29 (ghC S)) (I : Inv S) (a bb c : Int) (os ot : ByteArray) (h : 1 ≤ a ∧ a ≤ 16777216) :
    Calls Try.prog 15 #[.pointer (some ⟨g, 0, none⟩), opv 5 a bb c os ot, .int .i64 0, ansv S.e S.t 0 ⟨#[]⟩, ansv S.e S.t 0 ⟨#[]⟩] w fun ex w' => ex = .returned (.bool true) ∧ Chg (fun k => k = g) w w' ∧ Blk w' g 29 (ghC ⟨S.d, S.t, S.e, a, S.n, S.s, S.v, S.k⟩) := by
  have al : Quiet w (((w.alloc (.cells #[.int .i64 5, .int .i64 a, .int .i64 bb, .int .i64 c, .string os, .string ot] 32)).alloc (.cells #[.int .i64 S.e, .int .i64 S.t, .int .i64 0, .string ⟨#[]⟩] 42)).alloc (.cells #[.int .i64 S.e, .int .i64 S.t, .int .i64 0, .string ⟨#[]⟩] 42)) := (((Chg.refl _ _).alloc _).alloc _).alloc _
  have b3 := Quiet.blk al b
  have hgl := b.lt
  unfold ghC at b
  have c0 := Quiet.cell al (show w.cell? ⟨g, 0, none⟩ = some (.int .i64 S.d) from b.cell 0)
  have c1 := Quiet.cell al (show w.cell? ⟨g, 1, none⟩ = some (.int .i64 S.q) from b.cell 1)
  have c2 := Quiet.cell al (show w.cell? ⟨g, 2, none⟩ = some (.int .i64 S.n) from b.cell 2)
  have c3 := Quiet.cell al (show w.cell? ⟨g, 3, none⟩ = some (.int .i64 S.s) from b.cell 3)
  have c4 := Quiet.cell al (show w.cell? ⟨g, 4, none⟩ = some (.int .i64 S.v) from b.cell 4)
  have c5 := Quiet.cell al (show w.cell? ⟨g, 5, none⟩ = some (.int .i64 S.k) from b.cell 5)
  have f0 := b3.frozen 0
  have f1 := b3.frozen 1
  have f2 := b3.frozen 2
  have f3 := b3.frozen 3
  have f4 := b3.frozen 4
  have f5 := b3.frozen 5
  have alH := hide al
  have b3H := hide b3
  have h1 : (a < 1) = False := eq_false (by omega)
  have h2 : (16777216 < a) = False := eq_false (by omega)
  have b1 := hide (b3.set 1 (.int .i64 a))
  have n0 : g ≠ w.heap.size := Nat.ne_of_lt hgl
  have n0' : w.heap.size ≠ g := Ne.symm n0
  have n1 : g ≠ w.heap.size + 1 := Nat.ne_of_lt (Nat.lt_of_lt_of_le hgl (Nat.le_add_right _ _))
  have n1' : w.heap.size + 1 ≠ g := Ne.symm n1
  have n2 : g ≠ w.heap.size + 2 := Nat.ne_of_lt (Nat.lt_of_lt_of_le hgl (Nat.le_add_right _ _))
  have n2' : w.heap.size + 2 ≠ g := Ne.symm n2
  have n3 : g ≠ w.heap.size + 1 + 1 := n2
  have n3' : w.heap.size + 1 + 1 ≠ g := n2'
  unfold opv ansv ansC
  clear I b al b3 hgl
  clear h
  obtain ⟨d, t, e, q, n, s, v, k⟩ := S
  dsimp only at *
  go_enter Try.func15, Try.ntmps15
  go_wp2
  go_ret
  exact ⟨rfl, chg_set (Quiet.chg (unhide alH) _) _ _, unhide b1⟩

set_option maxHeartbeats 4000000 in
set_option maxRecDepth 100000 in
theorem turned_takeF (w : World) (g : Nat) (S : GS) (b : Blk w g 29 (ghC S)) (I : Inv S) (a bb c : Int) (os ot : ByteArray) (h : 16 ≤ S.n) :
    Calls Try.prog 15 #[.pointer (some ⟨g, 0, none⟩), opv 7 a bb c os ot, .int .i64 9, ansv S.e S.t 0 ⟨#[]⟩, ansv S.e S.t 0 ⟨#[]⟩] w fun ex w' => ex = .returned (.bool true) ∧ Chg (fun k => k = g) w w' ∧ Blk w' g 29 (ghC S) := by
  have al : Quiet w (((w.alloc (.cells #[.int .i64 7, .int .i64 a, .int .i64 bb, .int .i64 c, .string os, .string ot] 32)).alloc (.cells #[.int .i64 S.e, .int .i64 S.t, .int .i64 0, .string ⟨#[]⟩] 42)).alloc (.cells #[.int .i64 S.e, .int .i64 S.t, .int .i64 0, .string ⟨#[]⟩] 42)) := (((Chg.refl _ _).alloc _).alloc _).alloc _
  have b3 := Quiet.blk al b
  have hgl := b.lt
  unfold ghC at b
  have c0 := Quiet.cell al (show w.cell? ⟨g, 0, none⟩ = some (.int .i64 S.d) from b.cell 0)
  have c1 := Quiet.cell al (show w.cell? ⟨g, 1, none⟩ = some (.int .i64 S.q) from b.cell 1)
  have c2 := Quiet.cell al (show w.cell? ⟨g, 2, none⟩ = some (.int .i64 S.n) from b.cell 2)
  have c3 := Quiet.cell al (show w.cell? ⟨g, 3, none⟩ = some (.int .i64 S.s) from b.cell 3)
  have c4 := Quiet.cell al (show w.cell? ⟨g, 4, none⟩ = some (.int .i64 S.v) from b.cell 4)
  have c5 := Quiet.cell al (show w.cell? ⟨g, 5, none⟩ = some (.int .i64 S.k) from b.cell 5)
  have f0 := b3.frozen 0
  have f1 := b3.frozen 1
  have f2 := b3.frozen 2
  have f3 := b3.frozen 3
  have f4 := b3.frozen 4
  have f5 := b3.frozen 5
  have alH := hide al
  have b3H := hide b3
  have h1 : (16 ≤ S.n) = True := eq_true h
  have n0 : g ≠ w.heap.size := Nat.ne_of_lt hgl
  have n0' : w.heap.size ≠ g := Ne.symm n0
  have n1 : g ≠ w.heap.size + 1 := Nat.ne_of_lt (Nat.lt_of_lt_of_le hgl (Nat.le_add_right _ _))
  have n1' : w.heap.size + 1 ≠ g := Ne.symm n1
  have n2 : g ≠ w.heap.size + 2 := Nat.ne_of_lt (Nat.lt_of_lt_of_le hgl (Nat.le_add_right _ _))
  have n2' : w.heap.size + 2 ≠ g := Ne.symm n2
  have n3 : g ≠ w.heap.size + 1 + 1 := n2
  have n3' : w.heap.size + 1 + 1 ≠ g := n2'
  unfold opv ansv ansC
  clear I b al b3 hgl
  clear h
  obtain ⟨d, t, e, q, n, s, v, k⟩ := S
  dsimp only at *
  go_enter Try.func15, Try.ntmps15
  go_wp2
  go_ret
  exact ⟨rfl, Quiet.chg (unhide alH) _, unhide b3H⟩

set_option maxHeartbeats 4000000 in
set_option maxRecDepth 100000 in
theorem turned_takeX (w : World) (g : Nat) (S : GS) (b : Blk w g 29 (ghC S)) (I : Inv S) (a bb c : Int) (os ot : ByteArray) (h : ¬ 16 ≤ S.n) (he : S.e ≠ 0) :
    Calls Try.prog 15 #[.pointer (some ⟨g, 0, none⟩), opv 7 a bb c os ot, .int .i64 S.e, ansv S.e S.t 0 ⟨#[]⟩, ansv S.e S.t 0 ⟨#[]⟩] w fun ex w' => ex = .returned (.bool true) ∧ Chg (fun k => k = g) w w' ∧ Blk w' g 29 (ghC S) := by
  have al : Quiet w (((w.alloc (.cells #[.int .i64 7, .int .i64 a, .int .i64 bb, .int .i64 c, .string os, .string ot] 32)).alloc (.cells #[.int .i64 S.e, .int .i64 S.t, .int .i64 0, .string ⟨#[]⟩] 42)).alloc (.cells #[.int .i64 S.e, .int .i64 S.t, .int .i64 0, .string ⟨#[]⟩] 42)) := (((Chg.refl _ _).alloc _).alloc _).alloc _
  have b3 := Quiet.blk al b
  have hgl := b.lt
  unfold ghC at b
  have c0 := Quiet.cell al (show w.cell? ⟨g, 0, none⟩ = some (.int .i64 S.d) from b.cell 0)
  have c1 := Quiet.cell al (show w.cell? ⟨g, 1, none⟩ = some (.int .i64 S.q) from b.cell 1)
  have c2 := Quiet.cell al (show w.cell? ⟨g, 2, none⟩ = some (.int .i64 S.n) from b.cell 2)
  have c3 := Quiet.cell al (show w.cell? ⟨g, 3, none⟩ = some (.int .i64 S.s) from b.cell 3)
  have c4 := Quiet.cell al (show w.cell? ⟨g, 4, none⟩ = some (.int .i64 S.v) from b.cell 4)
  have c5 := Quiet.cell al (show w.cell? ⟨g, 5, none⟩ = some (.int .i64 S.k) from b.cell 5)
  have f0 := b3.frozen 0
  have f1 := b3.frozen 1
  have f2 := b3.frozen 2
  have f3 := b3.frozen 3
  have f4 := b3.frozen 4
  have f5 := b3.frozen 5
  have alH := hide al
  have b3H := hide b3
  have h1 : (16 ≤ S.n) = False := eq_false h
  have h2 : (S.e == 0) = false := by simpa using he
  have h3 : (S.e = 0) = False := eq_false he
  have h4 : (S.e == S.e) = true := by simp
  have n0 : g ≠ w.heap.size := Nat.ne_of_lt hgl
  have n0' : w.heap.size ≠ g := Ne.symm n0
  have n1 : g ≠ w.heap.size + 1 := Nat.ne_of_lt (Nat.lt_of_lt_of_le hgl (Nat.le_add_right _ _))
  have n1' : w.heap.size + 1 ≠ g := Ne.symm n1
  have n2 : g ≠ w.heap.size + 2 := Nat.ne_of_lt (Nat.lt_of_lt_of_le hgl (Nat.le_add_right _ _))
  have n2' : w.heap.size + 2 ≠ g := Ne.symm n2
  have n3 : g ≠ w.heap.size + 1 + 1 := n2
  have n3' : w.heap.size + 1 + 1 ≠ g := n2'
  unfold opv ansv ansC
  clear I b al b3 hgl
  clear h he
  obtain ⟨d, t, e, q, n, s, v, k⟩ := S
  dsimp only at *
  go_enter Try.func15, Try.ntmps15
  go_wp2
  go_ret
  exact ⟨rfl, Quiet.chg (unhide alH) _, unhide b3H⟩

set_option maxHeartbeats 4000000 in
set_option maxRecDepth 100000 in
theorem turned_takeB (w : World) (g : Nat) (S : GS) (b : Blk w g 29 (ghC S)) (I : Inv S) (a bb c : Int) (os ot : ByteArray) (h : ¬ 16 ≤ S.n) (he : S.e = 0) (hb : 281474976710656 < (S.t * S.q).natAbs) :
    Calls Try.prog 15 #[.pointer (some ⟨g, 0, none⟩), opv 7 a bb c os ot, .int .i64 10, ansv S.e S.t 0 ⟨#[]⟩, ansv S.e S.t 0 ⟨#[]⟩] w fun ex w' => ex = .returned (.bool true) ∧ Chg (fun k => k = g) w w' ∧ Blk w' g 29 (ghC S) := by
  have al : Quiet w (((w.alloc (.cells #[.int .i64 7, .int .i64 a, .int .i64 bb, .int .i64 c, .string os, .string ot] 32)).alloc (.cells #[.int .i64 S.e, .int .i64 S.t, .int .i64 0, .string ⟨#[]⟩] 42)).alloc (.cells #[.int .i64 S.e, .int .i64 S.t, .int .i64 0, .string ⟨#[]⟩] 42)) := (((Chg.refl _ _).alloc _).alloc _).alloc _
  have b3 := Quiet.blk al b
  have hgl := b.lt
  unfold ghC at b
  have c0 := Quiet.cell al (show w.cell? ⟨g, 0, none⟩ = some (.int .i64 S.d) from b.cell 0)
  have c1 := Quiet.cell al (show w.cell? ⟨g, 1, none⟩ = some (.int .i64 S.q) from b.cell 1)
  have c2 := Quiet.cell al (show w.cell? ⟨g, 2, none⟩ = some (.int .i64 S.n) from b.cell 2)
  have c3 := Quiet.cell al (show w.cell? ⟨g, 3, none⟩ = some (.int .i64 S.s) from b.cell 3)
  have c4 := Quiet.cell al (show w.cell? ⟨g, 4, none⟩ = some (.int .i64 S.v) from b.cell 4)
  have c5 := Quiet.cell al (show w.cell? ⟨g, 5, none⟩ = some (.int .i64 S.k) from b.cell 5)
  have f0 := b3.frozen 0
  have f1 := b3.frozen 1
  have f2 := b3.frozen 2
  have f3 := b3.frozen 3
  have f4 := b3.frozen 4
  have f5 := b3.frozen 5
  have alH := hide al
  have b3H := hide b3
  have h1 : (16 ≤ S.n) = False := eq_false h
  have it1 := I.t1
  have iq1 := I.q1
  have iq2 := I.q2
  have habs := hide (fun W => abs_any W S.t (by omega) (by omega))
  have hdv : (281474976710656 / S.q < (S.t.natAbs : Int)) ↔ 281474976710656 < (S.t * S.q).natAbs := by
    rw [Int.ediv_lt_iff_lt_mul (by omega), Int.natAbs_mul]
    have : (S.t.natAbs : Int) * S.q = ((S.t.natAbs * S.q.natAbs : Nat) : Int) := by rw [Int.natCast_mul]; congr 1; omega
    rw [this]
    omega
  have td : (281474976710656 : Int).tdiv S.q = 281474976710656 / S.q := Int.tdiv_eq_ediv_of_nonneg (by omega)
  have q0 : 0 ≤ 281474976710656 / S.q := Int.ediv_nonneg (by omega) (by omega)
  have q9 : 281474976710656 / S.q ≤ 281474976710656 := Int.ediv_le_self _ (by omega)
  have sq0 : (S.q == 0) = false := by simp; omega
  have sq1 : (S.q == -1) = false := by simp; omega
  have sq2 : (S.q = 0) = False := eq_false (by omega)
  have sq3 : (S.q = -1) = False := eq_false (by omega)
  have hc : (281474976710656 / S.q < (S.t.natAbs : Int)) = True := eq_true (hdv.2 hb)
  obtain ⟨DV, hDV⟩ : ∃ DV, 281474976710656 / S.q = DV := ⟨_, rfl⟩
  rw [hDV] at hc td q0 q9
  have wdv : IntKind.i64.wrap DV = DV := by rw [IntKind.wrap_i64]; omega
  obtain ⟨A, hA⟩ : ∃ A : Int, (S.t.natAbs : Int) = A := ⟨_, rfl⟩
  rw [hA] at hc habs
  clear hDV hA q0 q9 hdv hb it1 iq1 iq2 h
  have n0 : g ≠ w.heap.size := Nat.ne_of_lt hgl
  have n0' : w.heap.size ≠ g := Ne.symm n0
  have n1 : g ≠ w.heap.size + 1 := Nat.ne_of_lt (Nat.lt_of_lt_of_le hgl (Nat.le_add_right _ _))
  have n1' : w.heap.size + 1 ≠ g := Ne.symm n1
  have n2 : g ≠ w.heap.size + 2 := Nat.ne_of_lt (Nat.lt_of_lt_of_le hgl (Nat.le_add_right _ _))
  have n2' : w.heap.size + 2 ≠ g := Ne.symm n2
  have n3 : g ≠ w.heap.size + 1 + 1 := n2
  have n3' : w.heap.size + 1 + 1 ≠ g := n2'
  unfold opv ansv ansC
  clear I b al b3 hgl
  obtain ⟨d, t, e, q, n, s, v, k⟩ := S
  dsimp only at *
  subst he
  go_enter Try.func15, Try.ntmps15
  go_wp2
  go_quiet ((go_at_call 35; exact Calls.quiet_of_same (unhide habs _)))
  go_wp2
  go_ret
  exact ⟨rfl, (Quiet.chg (unhide alH) _).drewN _, (unhide b3H).drewN _⟩

end Go.Proofs.Qxb6500365a
