/-
  Play AND Fact OF THE EXAMPLES.
-/
import Derived.Test.Qxb6500362aPlayR
import Derived.Test.Qxb6500362aItoa
namespace Go.Proofs.Qxb6500362a
open Go.RowKit Go.Qx
set_option linter.unusedSimpArgs false
set_option linter.unusedVariables false

theorem play_any (w : World) (x v : Nat) (re im : Nat → Int) (R : Rep w x v re im) (I : Inv re im) (k a b c : Int) :
    Calls Try.prog 14 #[ptr x, .int .i64 k, .int .i64 a, .int .i64 b, .int .i64 c] w fun e w' => e = .returned (.int .i64 (ansP re im ⟨k, a, b, c, ⟨#[]⟩, ⟨#[]⟩⟩).e) ∧ Chg (own x v) w w' ∧ Rep w' x v (nextP re im ⟨k, a, b, c, ⟨#[]⟩, ⟨#[]⟩⟩).1 (nextP re im ⟨k, a, b, c, ⟨#[]⟩, ⟨#[]⟩⟩).2 := by
  have h := do_any w x v re im R I ⟨k, a, b, c, ⟨#[]⟩, ⟨#[]⟩⟩
  generalize ansP re im ⟨k, a, b, c, ⟨#[]⟩, ⟨#[]⟩⟩ = A at *
  generalize nextP re im ⟨k, a, b, c, ⟨#[]⟩, ⟨#[]⟩⟩ = K at *
  obtain ⟨e0, n0, m0, s0⟩ := A
  unfold ptr opv ansv ansC at *
  simp only at h
  go_enter Try.func14, Try.ntmps14
  go_wp2_with fail
  refine h.mono ?_
  rintro e w1 ⟨rfl, hch, R1⟩
  have R2 := R1.quiet (Chg.alloc (Chg.refl _ _) (.cells #[.int .i64 e0, .int .i64 n0, .int .i64 m0, .string s0] 35))
  have hch2 := hch.alloc (.cells #[.int .i64 e0, .int .i64 n0, .int .i64 m0, .string s0] 35)
  have hH := hide (And.intro hch2 R2)
  clear hch2 R2 hch R1 h R
  go_wp2
  go_ret
  exact ⟨rfl, unhide hH⟩

def sP (S : (Nat → Int) × (Nat → Int)) (k a b c : Int) : (Nat → Int) × (Nat → Int) := nextP S.1 S.2 ⟨k, a, b, c, ⟨#[]⟩, ⟨#[]⟩⟩
def aP (S : (Nat → Int) × (Nat → Int)) (k a b c : Int) : An := ansP S.1 S.2 ⟨k, a, b, c, ⟨#[]⟩, ⟨#[]⟩⟩
def S0 : (Nat → Int) × (Nat → Int) := (fun _ => 0, fun _ => 0)

def factP (a b c d k A B C e : Int) (s : ByteArray) : Bool :=
  decide ((aP S0 2 0 a b).e = 0) && decide ((aP (sP S0 2 0 a b) 2 1 c d).e = 0) && decide ((aP (sP (sP S0 2 0 a b) 2 1 c d) k A B C).e = e) && decide (showP (sP (sP (sP S0 2 0 a b) 2 1 c d) k A B C).1 (sP (sP (sP S0 2 0 a b) 2 1 c d) k A B C).2 = s.toList)

theorem sP_inv {S : (Nat → Int) × (Nat → Int)} (I : Inv S.1 S.2) (k a b c : Int) : Inv (sP S k a b c).1 (sP S k a b c).2 := inv_next I _

theorem fact_true (w : World) (a b c d k A B C e : Int) (s : ByteArray) (h : factP a b c d k A B C e s = true) :
    Calls Try.prog 12 #[.int .i64 a, .int .i64 b, .int .i64 c, .int .i64 d, .agg #[.int .i64 k, .int .i64 A, .int .i64 B, .int .i64 C, .string ⟨#[]⟩, .string ⟨#[]⟩], .int .i64 e, .string s] w fun r w' => r = .returned (.bool true) ∧ Quiet w w' := by
  unfold factP at h
  simp only [Bool.and_eq_true, decide_eq_true_eq] at h
  obtain ⟨⟨⟨h1, h2⟩, h3⟩, h4⟩ := h
  have I0 : Inv S0.1 S0.2 := inv_first
  have I1 := sP_inv I0 2 0 a b
  have I2 := sP_inv I1 2 1 c d
  have I3 := sP_inv I2 k A B C
  have hn := new_any (w.alloc (.cells #[.int .i64 k, .int .i64 A, .int .i64 B, .int .i64 C, .string ⟨#[]⟩, .string ⟨#[]⟩] 28))
  unfold newPost at hn
  have bo := Blk.new w 28 [.int .i64 k, .int .i64 A, .int .i64 B, .int .i64 C, .string ⟨#[]⟩, .string ⟨#[]⟩]
  have q0 : Quiet w (w.alloc (.cells #[.int .i64 k, .int .i64 A, .int .i64 B, .int .i64 C, .string ⟨#[]⟩, .string ⟨#[]⟩] 28)) := (Chg.refl _ _).alloc _
  have fH := hide (And.intro (And.intro h1 h2) (And.intro h3 h4))
  have IH := hide (And.intro I0 (And.intro I1 (And.intro I2 I3)))
  clear h1 h2 h3 h4 I0 I1 I2 I3
  go_enter Try.func12, Try.ntmps12
  go_wp2_with fail
  refine hn.mono ?_
  clear hn
  rintro r w1 ⟨x, v, rfl, q1, ho, R1⟩
  have R1' : Rep w1 x v S0.1 S0.2 := R1
  have p1 := play_any w1 x v _ _ R1' (unhide IH).1 2 0 a b
  unfold ptr at p1
  have e1 := (unhide fH).1.1
  unfold aP at e1
  rw [e1] at p1
  have bo1 := Quiet.blk q1 bo
  have hz : ∀ k, own x v k → w.heap.size < k := by
    intro k hk
    have := ho k hk
    have := bo.lt
    omega
  have gx : (0 : Int) == 0 := rfl
  clear e1 R1 R1' bo
  go_wp2_with fail
  refine p1.mono ?_
  clear p1
  rintro r w2 ⟨rfl, ch2, R2⟩
  have p2 := play_any w2 x v _ _ R2 (unhide IH).2.1 2 1 c d
  unfold ptr at p2
  have e2 := (unhide fH).1.2
  unfold aP sP at e2
  rw [e2] at p2
  have bo2 := ch2.blk bo1 (fun h => by have := hz _ h; omega)
  clear e2 R2 bo1
  go_wp2_with fail
  refine p2.mono ?_
  clear p2
  rintro r w3 ⟨rfl, ch3, R3⟩
  have p3 := do_any w3 x v _ _ R3 (unhide IH).2.2.1 ⟨k, A, B, C, ⟨#[]⟩, ⟨#[]⟩⟩
  have e3 := (unhide fH).2.1
  unfold aP sP at e3
  have bo3 := ch3.blk bo2 (fun h => by have := hz _ h; omega)
  unfold ptr opv ansv ansC at p3
  simp only at p3
  rw [e3] at p3
  have c0 := bo3.cell 0
  have c1 := bo3.cell 1
  have c2 := bo3.cell 2
  have c3 := bo3.cell 3
  have c4 := bo3.cell 4
  have c5 := bo3.cell 5
  simp at c0 c1 c2 c3 c4 c5
  have cH := hide (And.intro q0 (And.intro q1 (And.intro ho (And.intro ch2 ch3))))
  clear q0 q1 ho ch2 ch3 hz R3 e3 bo2 bo3
  have p3H := hide p3
  clear p3
  go_wp2_with fail
  refine (unhide p3H).mono ?_
  clear p3H c0 c1 c2 c3 c4 c5
  rintro r w4 ⟨rfl, ch4, R4⟩
  generalize ansP _ _ _ = Y at *
  obtain ⟨ye, yn, ym, ys⟩ := Y
  have R5 := R4.quiet (Chg.alloc (Chg.refl _ _) (.cells #[.int .i64 e, .int .i64 yn, .int .i64 ym, .string ys] 35))
  have p4 := show_any _ x v _ _ R5 (unhide IH).2.2.2
  unfold ptr at p4
  have e4 := (unhide fH).2.2
  unfold sP at e4
  have ge : (e == e) = true := by simp
  rw [e4] at p4
  have hs : ((str s.toList).toList == s.toList) = true := by rw [str_toList]; simp
  generalize str s.toList = LS at *
  have chH := hide ch4
  clear e4 ch4 R4 R5
  go_wp2_with fail
  refine p4.mono ?_
  clear p4
  rintro r w5 ⟨rfl, q5⟩
  go_wp2
  go_ret
  refine ⟨rfl, ?_⟩
  obtain ⟨q0, q1, ho, ch2, ch3⟩ := unhide cH
  have ch4 := unhide chH
  have hz : ∀ k, own x v k → w.heap.size ≤ k := by
    intro k hk
    have h1 := ho k hk
    have h2 := q0.size
    omega
  have c1 : Chg (fun _ => False) w w2 := Chg.trans' (q0.trans q1) ch2 (fun i hi h => absurd (hz i h) (by omega))
  have c2 : Chg (fun _ => False) w w3 := Chg.trans' c1 ch3 (fun i hi h => absurd (hz i h) (by omega))
  have c3 : Chg (fun _ => False) w w4 := Chg.trans' c2 ch4 (fun i hi h => absurd (hz i h) (by omega))
  exact Quiet.trans (c3.alloc _) q5
end Go.Proofs.Qxb6500362a
