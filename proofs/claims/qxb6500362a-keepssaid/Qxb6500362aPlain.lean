/-
  THE REAL BENCH: how it lies in memory; the small functions.
-/
import Derived.Test.Qxb6500362aRow
import Derived.Test.Qxb6500362aCells
import Derived.Test.Qxb6500362aLibB
import Derived.Test.Qxb6500362aItoa
import Derived.Test.Qxb6500362aWhole
import Derived.Test.Qxb6500362aProg
import Derived.WalkLawsBesides
import Derived.Laws.ComplexQuo
import Derived.Deep.RegionLaw
import Derived.Deep.RegionHeld3
import Derived.BigQuiet
import Derived.Laws.Cover4
import Derived.OwnWalk
import Derived.Laws.MakeOwn
namespace Go
/-- A complex number is one cell. -/
@[go_sem] theorem run_store_complex' (P : Program) (w : World) (a : Addr) (m : Mode) (k : FloatKind) (x y : Nat) : (store a (.complex k x y) m).run P w = stored P w a (.complex k x y) m := run_store P w a _ m rfl
end Go
namespace Go.Proofs.Qxb6500362a
open Go.RowKit Go.Qx
set_option linter.unusedVariables false
set_option linter.unusedSimpArgs false

def ptr (a : Nat) : Value := .pointer (some ⟨a, 0, none⟩)

def upd {α : Type} (f : Nat → α) (i : Nat) (v : α) : Nat → α := fun j => if j = i then v else f j

def rowC (a b : Nat → Nat) : List Value := [.complex .f64 (a 0) (b 0), .complex .f64 (a 1) (b 1), .complex .f64 (a 2) (b 2), .complex .f64 (a 3) (b 3)]

theorem rowC_get (a b : Nat → Nat) (k : Nat) (hk : k < 4) : (rowC a b)[k]? = some (.complex .f64 (a k) (b k)) := by
  have : k = 0 ∨ k = 1 ∨ k = 2 ∨ k = 3 := by omega
  rcases this with rfl | rfl | rfl | rfl <;> rfl

theorem rowC_set (a b : Nat → Nat) (k : Nat) (hk : k < 4) (x y : Nat) : (rowC a b).set k (.complex .f64 x y) = rowC (upd a k x) (upd b k y) := by
  have : k = 0 ∨ k = 1 ∨ k = 2 ∨ k = 3 := by omega
  rcases this with rfl | rfl | rfl | rfl <;> rfl

/-- The real bench at x: its cells at v: what the words stand for. -/
structure Rep (w : World) (x v : Nat) (re im : Nat → Int) : Prop where
  blk : Blk w x 46 [.slice (some ⟨v, 0, none⟩) 4 4]
  row : ∃ a b : Nat → Nat, Blk w v 66 (rowC a b) ∧ ∀ i, i < 4 → W64 (a i) (re i) ∧ W64 (b i) (im i)
  xv : x ≠ v

def own (x v k : Nat) : Prop := k = x ∨ k = v

theorem Rep.of_chg {S : Nat → Prop} {w w' : World} {x v : Nat} {re im : Nat → Int} (h : Rep w x v re im) (c : Chg S w w') (hS : ∀ k, S k → ¬ own x v k) : Rep w' x v re im := by
  obtain ⟨a, b, h1, h2⟩ := h.row
  exact ⟨c.blk h.blk (fun k => hS _ k (.inl rfl)), ⟨a, b, c.blk h1 (fun k => hS _ k (.inr rfl)), h2⟩, h.xv⟩

theorem Rep.quiet {w w' : World} {x v : Nat} {re im : Nat → Int} (h : Rep w x v re im) (c : Quiet w w') : Rep w' x v re im := h.of_chg c (fun _ f => f.elim)

theorem Rep.lts {w : World} {x v : Nat} {re im : Nat → Int} (h : Rep w x v re im) : ∀ k, own x v k → k < w.heap.size := by
  obtain ⟨a, b, h1, h2⟩ := h.row
  rintro k (rfl | rfl)
  · exact h.blk.lt
  · exact h1.lt

/-- A cell stored. -/
theorem Rep.set {w : World} {x v : Nat} {re im : Nat → Int} (h : Rep w x v re im) (i : Nat) (hi : i < 4) (p q : Nat) (n m : Int) (hp : W64 p n) (hq : W64 q m) : Rep (w.setCell ⟨v, i, none⟩ (.complex .f64 p q)) x v (upd re i n) (upd im i m) := by
  obtain ⟨a, b, h1, h2⟩ := h.row
  refine ⟨h.blk.set_other (a := ⟨v, i, none⟩) h.xv _, ⟨upd a i p, upd b i q, ?_, ?_⟩, h.xv⟩
  · have h3 := h1.set i (.complex .f64 p q)
    rw [rowC_set a b i hi] at h3
    exact h3
  · intro j hj
    unfold upd
    by_cases e : j = i
    · simp [e, hp, hq]
    · simp [e, h2 j hj]

structure Inv (re im : Nat → Int) : Prop where
  r : ∀ i, i < 4 → -67108864 ≤ re i ∧ re i ≤ 67108864
  m : ∀ i, i < 4 → -67108864 ≤ im i ∧ im i ≤ 67108864

/-! ### Constants -/
theorem w_top : W64 4724276009111650304 67108864 := by
  have h := w64_of 67108864 (by decide)
  have e : FloatKind.f64.nearest 67108864 = 4724276009111650304 := by decide
  rw [e] at h; exact h

/-! ### Small functions -/
theorem parts_any (w : World) (a b : Nat) (n m : Int) (ha : Q64 a n) (hb : Q64 b m) (hn : -9223372036854775808 ≤ n.tdiv 4 ∧ n.tdiv 4 ≤ 9223372036854775807) (hm : -9223372036854775808 ≤ m.tdiv 4 ∧ m.tdiv 4 ≤ 9223372036854775807) :
    Calls Try.prog 44 #[.complex .f64 a b] w fun e w' => e = .returned (.tuple #[.int .i64 (n.tdiv 4), .int .i64 (m.tdiv 4)]) ∧ w' = w := by
  have m1 : IntKind.i64.min = -9223372036854775808 := by decide
  have m2 : IntKind.i64.max = 9223372036854775807 := by decide
  have h1 : floatToIntVal .f64 a .i64 = some (n.tdiv 4) := by
    unfold floatToIntVal
    rw [q64_toInt ha]
    simp only
    rw [if_pos (by omega)]
  have h2 : floatToIntVal .f64 b .i64 = some (m.tdiv 4) := by
    unfold floatToIntVal
    rw [q64_toInt hb]
    simp only
    rw [if_pos (by omega)]
  have c1 := fun W => run_convert_float_int (P := Try.prog) W 72 3 .f64 .i64 a _ (by kernel_rfl) Try.underlying3 h1
  have c2 := fun W => run_convert_float_int (P := Try.prog) W 72 3 .f64 .i64 b _ (by kernel_rfl) Try.underlying3 h2
  generalize n.tdiv 4 = N at *
  generalize m.tdiv 4 = M at *
  go_enter Try.func44, Try.ntmps44
  go_wp2
  go_ret2
  exact ⟨rfl, rfl⟩

theorem whole_any (w : World) (n m : Int) : Calls Try.prog 47 #[.int .i64 n, .int .i64 m] w fun e w' => e = .returned (.complex .f64 (FloatKind.f64.nearest n) (FloatKind.f64.nearest m)) ∧ w' = w := by
  go_enter Try.func47, Try.ntmps47
  go_wp2
  go_ret
  exact ⟨rfl, rfl⟩

def inP (n m c : Int) : Bool := decide (-c ≤ n ∧ n ≤ c ∧ -c ≤ m ∧ m ≤ c)

theorem within_any (w : World) (a b c : Nat) (n m k : Int) (ha : W64 a n) (hb : W64 b m) (hc : W64 c k) : Calls Try.prog 49 #[.complex .f64 a b, .float .f64 c] w fun e w' => e = .returned (.bool (inP n m k)) ∧ w' = w := by
  have hneg := w64_neg hc
  have hun : ∀ W, (Op.unary .neg (.float .f64 c)).run Try.prog W = .ok (.float .f64 (Op.negFloat .f64 c)) W := fun W => rfl
  have o1 := w64_order ha hneg
  have o2 := w64_order ha hc
  have o3 := w64_order hb hneg
  have o4 := w64_order hb hc
  have q1 := cmp_lt n (-k)
  have q2 := cmp_gt n k
  have q3 := cmp_gt m (-k)
  have q4 := cmp_eq m (-k)
  have q5 := cmp_lt m k
  have q6 := cmp_eq m k
  rw [← o1] at q1
  rw [← o2] at q2
  rw [← o3] at q3 q4
  rw [← o4] at q5 q6
  generalize Op.negFloat .f64 c = nc at *
  have r1 : ∀ t, binOp .lss t (.float .f64 a) (.float .f64 nc) = pure (.bool (FloatKind.f64.format.order a nc == some .lt)) := fun t => binOp_float_cmp_lss t .f64 a nc
  have r2 : ∀ t, binOp .gtr t (.float .f64 a) (.float .f64 c) = pure (.bool (FloatKind.f64.format.order a c == some .gt)) := fun t => binOp_float_cmp_gtr t .f64 a c
  have r3 : ∀ t, binOp .geq t (.float .f64 b) (.float .f64 nc) = pure (.bool (FloatKind.f64.format.order b nc == some .gt || FloatKind.f64.format.order b nc == some .eq)) := fun t => binOp_float_cmp_geq t .f64 b nc
  have r4 : ∀ t, binOp .leq t (.float .f64 b) (.float .f64 c) = pure (.bool (FloatKind.f64.format.order b c == some .lt || FloatKind.f64.format.order b c == some .eq)) := fun t => binOp_float_cmp_leq t .f64 b c
  generalize FloatKind.f64.format.order a nc = O1 at *
  generalize FloatKind.f64.format.order a c = O2 at *
  generalize FloatKind.f64.format.order b nc = O3 at *
  generalize FloatKind.f64.format.order b c = O4 at *
  clear o1 o2 o3 o4 ha hb hc hneg
  by_cases h1 : n < -k
  · rw [show inP n m k = false by simp [inP]; omega]
    have e1 : (O1 == some Ordering.lt) = true := by rw [q1]; exact decide_eq_true h1
    clear q1 q2 q3 q4 q5 q6
    go_enter Try.func49, Try.ntmps49
    go_wp2
    go_ret
    exact ⟨rfl, rfl⟩
  have e1 : (O1 == some Ordering.lt) = false := by rw [q1]; exact decide_eq_false h1
  by_cases h2 : k < n
  · rw [show inP n m k = false by simp [inP]; omega]
    have e2 : (O2 == some Ordering.gt) = true := by rw [q2]; exact decide_eq_true h2
    clear q1 q2 q3 q4 q5 q6
    go_enter Try.func49, Try.ntmps49
    go_wp2
    go_ret
    exact ⟨rfl, rfl⟩
  have e2 : (O2 == some Ordering.gt) = false := by rw [q2]; exact decide_eq_false h2
  by_cases h3 : -k ≤ m
  · have e3 : (O3 == some Ordering.gt || O3 == some Ordering.eq) = true := by
      rw [q3, q4]; simp; omega
    by_cases h4 : m ≤ k
    · have e4 : (O4 == some Ordering.lt || O4 == some Ordering.eq) = true := by
        rw [q5, q6]; simp; omega
      rw [show inP n m k = true by simp [inP]; omega]
      clear q1 q2 q3 q4 q5 q6
      go_enter Try.func49, Try.ntmps49
      go_wp2
      go_ret
      exact ⟨rfl, rfl⟩
    · have e4 : (O4 == some Ordering.lt || O4 == some Ordering.eq) = false := by
        rw [q5, q6]; simp; omega
      rw [show inP n m k = false by simp [inP]; omega]
      clear q1 q2 q3 q4 q5 q6
      go_enter Try.func49, Try.ntmps49
      go_wp2
      go_ret
      exact ⟨rfl, rfl⟩
  · have e3 : (O3 == some Ordering.gt || O3 == some Ordering.eq) = false := by
      rw [q3, q4]; simp; omega
    rw [show inP n m k = false by simp [inP]; omega]
    clear q1 q2 q3 q4 q5 q6
    go_enter Try.func49, Try.ntmps49
    go_wp2
    go_ret
    exact ⟨rfl, rfl⟩
end Go.Proofs.Qxb6500362a
