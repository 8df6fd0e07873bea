/-
  THE GATE IN WHOLE NUMBERS; how the real gate lies in memory; judge, Ticks, Sum.
-/
import Derived.Test.Qxb6500365aFtk
import Derived.Test.Qxb6500365aLibB
import Derived.Test.Qxb6500365aItoa
import Derived.Test.Qxb6500365aQm
import Derived.WalkLawsBesides
import Derived.BigQuiet
import Derived.Deep.RegionHeld3
namespace Go.Proofs.Qxb6500365a
open Go.RowKit Go.Qx Ieee
set_option linter.unusedVariables false
set_option linter.unusedSimpArgs false

/-- The gate: the denominator, the wire's ticks and their verdict, the size, the book: takes, ticks, sizes, ticks * size. -/
structure GS where
  d : Int
  t : Int
  e : Int
  q : Int
  n : Int
  s : Int
  v : Int
  k : Int

structure Inv (S : GS) : Prop where
  ten : Ten S.d
  q1 : 1 ≤ S.q
  q2 : S.q ≤ 16777216
  n0 : 0 ≤ S.n
  n1 : S.n ≤ 16
  s1 : (S.s.natAbs : Int) ≤ S.n * 1000000000000
  v1 : S.n ≤ S.v
  v2 : S.v ≤ S.n * 16777216
  k1 : (S.k.natAbs : Int) ≤ S.n * 281474976710656
  k2 : (S.k.natAbs : Int) ≤ S.v * 1000000000000
  t1 : S.t.natAbs ≤ 1000000000000
  e0 : 0 ≤ S.e
  e1 : S.e ≤ 8
  te : S.e ≠ 0 → S.t = 0

def cellsG (S : GS) (x px vo no : Nat) : List Value := [.int .i64 S.d, .float .f64 (floatOfInt .f64 S.d), .float .f64 x, .float .f32 (floatOfInt .f32 S.q), .int .i64 S.n, .float .f64 px, .float .f64 vo, .float .f64 no]
/-- The real gate at g. -/
def Rep (w : World) (g : Nat) (S : GS) : Prop := ∃ x px vo no, Blk w g 38 (cellsG S x px vo no) ∧ Tick S.d x S.t S.e ∧ Px S.d px S.s S.n ∧ Dbl vo (S.v * one) ∧ Dbl no (S.k * one)
theorem Rep.of_chg {w w' : World} {g : Nat} {S : GS} {T : Nat → Prop} (h : Rep w g S) (c : Chg T w w') (hT : ¬ T g) : Rep w' g S := by
  obtain ⟨x, px, vo, no, b, r⟩ := h
  exact ⟨x, px, vo, no, c.blk b hT, r⟩
theorem Rep.quiet {w w' : World} {g : Nat} {S : GS} (h : Rep w g S) (c : Quiet w w') : Rep w' g S := h.of_chg c id
theorem Rep.lt {w : World} {g : Nat} {S : GS} (h : Rep w g S) : g < w.heap.size := by
  obtain ⟨x, px, vo, no, b, r⟩ := h
  exact b.lt

theorem chg_set {w wr : World} {g : Nat} (h : Chg (fun k => k = g) w wr) (o : Nat) (v : Value) : Chg (fun k => k = g) w (wr.setCell ⟨g, o, none⟩ v) := h.setCell (p := ⟨g, o, none⟩) (.inl rfl) v

/-! ### Laws of operations on floats, as the walk takes them -/
@[go_sem] theorem run_store_float {P : Program} (w : World) (a : Addr) (m : Mode) (k : FloatKind) (b : Nat) : (store a (.float k b) m).run P w = stored P w a (.float k b) m := run_store P w a _ m rfl
@[go_sem] theorem unary_neg_float (k : FloatKind) (b : Nat) : Op.unary .neg (.float k b) = pure (.float k (Op.negFloat k b)) := rfl
theorem ar_add {x y r : Nat} (h : double.add x y = some r) : ∀ W, (binOp .add 35 (.float .f64 x) (.float .f64 y)).run Try.prog W = .ok (.float .f64 r) W := fun W => run_float_arith W .add 35 .f64 x y r h
theorem ar_sub {x y r : Nat} (h : double.sub x y = some r) : ∀ W, (binOp .sub 35 (.float .f64 x) (.float .f64 y)).run Try.prog W = .ok (.float .f64 r) W := fun W => run_float_arith W .sub 35 .f64 x y r h
theorem ar_mul {x y r : Nat} (h : double.mul x y = some r) : ∀ W, (binOp .mul 35 (.float .f64 x) (.float .f64 y)).run Try.prog W = .ok (.float .f64 r) W := fun W => run_float_arith W .mul 35 .f64 x y r h
theorem ar_div {x y r : Nat} (h : double.div x y = some r) : ∀ W, (binOp .quo 35 (.float .f64 x) (.float .f64 y)).run Try.prog W = .ok (.float .f64 r) W := fun W => run_float_arith W .quo 35 .f64 x y r h
theorem cv_int {x : Nat} {t : Int} (h : floatToIntVal .f64 x .i64 = some t) : ∀ W, (convert 35 3 (.float .f64 x)).run Try.prog W = .ok (.int .i64 t) W := fun W => run_convert_float_int W 35 3 .f64 .i64 x t (by rw [Try.underlying35]; rfl) Try.underlying3 h
theorem ne_no {x y : Nat} (h : double.order x y = some .eq) : (FloatKind.f64.format.order x y != some .eq) = false := by
  have h' : FloatKind.f64.format.order x y = some .eq := h
  rw [h']; rfl
theorem ne_none {x y : Nat} (h : double.order x y = none) : (FloatKind.f64.format.order x y != some .eq) = true := by
  have h' : FloatKind.f64.format.order x y = none := h
  rw [h']; rfl
theorem cm {x y : Nat} {o : Ordering} (h : double.order x y = some o) : FloatKind.f64.format.order x y = some o := h

set_option maxHeartbeats 1000000 in
theorem judge_any (w : World) (g : Nat) (S : GS) (x px vo no : Nat) (b : Blk w g 38 (cellsG S x px vo no)) (T : Tick S.d x S.t S.e) :
    Calls Try.prog 48 #[.pointer (some ⟨g, 0, none⟩)] w fun ex w' => ∃ y, ex = .returned (.tuple #[.float .f64 y, .int .i64 S.e]) ∧ Quiet w w' ∧ (S.e = 0 → GoodY y S.t) := by
  obtain ⟨d, t, e, q, n, s, v, k⟩ := S
  have c1 : w.cell? ⟨g, 1, none⟩ = some (.float .f64 (floatOfInt .f64 d)) := b.cell 1
  have c2 : w.cell? ⟨g, 2, none⟩ = some (.float .f64 x) := b.cell 2
  clear b
  dsimp only at T ⊢
  rcases T with ⟨⟨f1, z, f2, f3⟩, y, hm, ⟨G, rfl⟩ | ⟨B, rfl, rfl⟩⟩ | ⟨f1, rfl, rfl⟩ | ⟨f1, f2, rfl, rfl⟩
  · have fin := hide G
    obtain ⟨⟨o1, g1, g2⟩, ⟨o2, g3, g4⟩, _⟩ := G
    have h1 := ne_no f1
    have h2 := ar_sub f2
    have h3 := ne_no f3
    have h4 := ar_mul hm
    have h5 : (FloatKind.f64.format.order y 4786511204640096256 == some .gt) = false := by rw [cm g1]; cases o1 <;> first | rfl | exact absurd rfl g2
    have h6 : (FloatKind.f64.format.order y 14009883241494872064 == some .lt) = false := by rw [cm g3]; cases o2 <;> first | rfl | exact absurd rfl g4
    clear f1 f2 f3 hm g1 g2 g3 g4
    go_enter Try.func48, Try.ntmps48
    go_wp2
    go_ret2
    exact ⟨y, rfl, Chg.refl _ _, fun _ => unhide fin⟩
  · have h1 := ne_no f1
    have h2 := ar_sub f2
    have h3 := ne_no f3
    have h4 := ar_mul hm
    rcases B with g1 | ⟨o, g1, g2, g3⟩
    · have h5 : (FloatKind.f64.format.order y 4786511204640096256 == some .gt) = true := by rw [cm g1]; rfl
      clear f1 f2 f3 hm g1
      go_enter Try.func48, Try.ntmps48
      go_wp2
      go_ret2
      exact ⟨_, rfl, Chg.refl _ _, fun h => by cases h⟩
    · have h5 : (FloatKind.f64.format.order y 4786511204640096256 == some .gt) = false := by rw [cm g1]; cases o <;> first | rfl | exact absurd rfl g2
      have h6 : (FloatKind.f64.format.order y 14009883241494872064 == some .lt) = true := by rw [cm g3]; rfl
      clear f1 f2 f3 hm g1 g2 g3
      go_enter Try.func48, Try.ntmps48
      go_wp2
      go_ret2
      exact ⟨_, rfl, Chg.refl _ _, fun h => by cases h⟩
  · have h1 := ne_none f1
    clear f1
    go_enter Try.func48, Try.ntmps48
    go_wp2
    go_ret2
    exact ⟨_, rfl, Chg.refl _ _, fun h => by cases h⟩
  · have h1 := ne_no f1
    have h2 : ∀ W : World, (binOp .sub 35 (.float .f64 x) (.float .f64 x)).run Try.prog W = .ok (.float .f64 ((Question.nanBits .f64 x x).cut (W.tape W.drawn (.nanBits .f64 x x)))) W.drew := fun W => run_float_nan W 35 x x f2
    have h3 : ∀ t : Nat, (FloatKind.f64.format.order ((Question.nanBits .f64 x x).cut t) 0 != some .eq) = true := fun t => nan_zero x x t
    clear f1 f2
    go_enter Try.func48, Try.ntmps48
    go_wp2
    go_ret2
    exact ⟨_, rfl, (Chg.refl _ _).drew, fun h => by cases h⟩

set_option maxHeartbeats 1000000 in
theorem ticks_any (w : World) (g : Nat) (S : GS) (R : Rep w g S) :
    Calls Try.prog 19 #[.pointer (some ⟨g, 0, none⟩)] w fun ex w' => ex = .returned (.tuple #[.int .i64 S.t, .int .i64 S.e]) ∧ Quiet w w' := by
  obtain ⟨x, px, vo, no, b, T, _⟩ := R
  have hj := judge_any w g S x px vo no b T
  have htz : Hid (S.e ≠ 0 → S.t = 0) := by
    intro h
    rcases T with ⟨_, y, _, ⟨_, e0⟩ | ⟨_, e0, _⟩⟩ | ⟨_, e0, _⟩ | ⟨_, _, e0, _⟩
    · exact absurd e0 h
    · exact e0
    · exact e0
    · exact e0
  clear b T
  obtain ⟨d, t, e, q, n, s, v, k⟩ := S
  dsimp only at hj htz ⊢
  go_enter Try.func19, Try.ntmps19
  go_wp2_with fail
  refine hj.mono ?_
  clear hj
  rintro ex w1 ⟨y, rfl, q1, G⟩
  have qH := hide q1
  clear q1
  by_cases he : e = 0
  · subst he
    obtain ⟨_, _, _, t0, r, o1, o2, g1, g2, g3, g4, g5, g6⟩ := G rfl
    have h1 := cv_int g1
    have h2 := ar_sub g3
    have hg6 := hide g6
    have t1 : IntKind.i64.wrap (t0 + 1) = t0 + 1 := by rw [IntKind.wrap_i64]; omega
    have t2 : IntKind.i64.wrap (t0 - 1) = t0 - 1 := by rw [IntKind.wrap_i64]; omega
    by_cases c1 : o1 = .lt
    · subst c1
      have h3 : (FloatKind.f64.format.order r 4602678819172646912 == some .gt || FloatKind.f64.format.order r 4602678819172646912 == some .eq) = false := by rw [cm g4]; rfl
      have h3a : (FloatKind.f64.format.order r 4602678819172646912 == some .gt) = false := by rw [cm g4]; rfl
      have h3b : (FloatKind.f64.format.order r 4602678819172646912 == some .eq) = false := by rw [cm g4]; rfl
      by_cases c2 : o2 = .gt
      · subst c2
        have h4a : (FloatKind.f64.format.order r 13826050856027422720 == some .lt) = false := by rw [cm g5]; rfl
        have h4b : (FloatKind.f64.format.order r 13826050856027422720 == some .eq) = false := by rw [cm g5]; rfl
        clear g1 g3 g4 g5 g6 G
        go_wp2
        go_ret2
        exact ⟨by rw [unhide hg6]; rfl, unhide qH⟩
      · have h4 : (FloatKind.f64.format.order r 13826050856027422720 == some .lt || FloatKind.f64.format.order r 13826050856027422720 == some .eq) = true := by rw [cm g5]; cases o2 <;> first | rfl | exact absurd rfl c2
        clear g1 g3 g4 g5 g6 G
        go_wp2
        go_ret2
        exact ⟨by rw [unhide hg6, if_neg (fun h => h rfl), if_pos c2]; rfl, unhide qH⟩
    · have h3 : (FloatKind.f64.format.order r 4602678819172646912 == some .gt || FloatKind.f64.format.order r 4602678819172646912 == some .eq) = true := by rw [cm g4]; cases o1 <;> first | rfl | exact absurd rfl c1
      clear g1 g3 g4 g5 g6 G
      go_wp2
      go_ret2
      exact ⟨by rw [unhide hg6, if_pos c1]; rfl, unhide qH⟩
  · have h1 : (e == 0) = false := by simpa using he
    have h2 : (e = 0) = False := eq_false he
    have h3 := hide (unhide htz he)
    clear he G htz
    go_wp2
    go_ret2
    exact ⟨by rw [unhide h3]; rfl, unhide qH⟩
end Go.Proofs.Qxb6500365a
