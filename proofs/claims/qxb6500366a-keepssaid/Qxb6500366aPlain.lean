/-
  THE REAL TURTLE: how it lies in memory; conj, within, widen.
-/
import Derived.Test.Qxb6500366aMap
import Derived.Test.Qxb6500366aRow
import Derived.Test.Qxb6500366aCells
import Derived.Test.Qxb6500366aLibB
import Derived.Test.Qxb6500366aItoa
import Derived.Test.Qxb6500366aQq
import Derived.Test.Qxb6500366aProg
import Derived.WalkLawsBesides
import Derived.Laws.ComplexQuo
import Derived.Deep.RegionLaw
import Derived.Deep.RegionHeld3
import Derived.BigQuiet
import Derived.Laws.Cover4
import Derived.OwnWalk
import Derived.Laws.MakeOwn
import Derived.WalkSmall
namespace Go
/-- A complex number is one cell. -/
@[go_sem] theorem run_store_complex' (P : Program) (w : World) (a : Addr) (m : Mode) (k : FloatKind) (x y : Nat) : (store a (.complex k x y) m).run P w = stored P w a (.complex k x y) m := run_store P w a _ m rfl
end Go
namespace Go.Proofs.Qxb6500366a
open Go.RowKit Go.Qx
set_option linter.unusedVariables false
set_option linter.unusedSimpArgs false

def ptr (a : Nat) : Value := .pointer (some ⟨a, 0, none⟩)

section
variable {a b : Nat} {x y : Int}
theorem flss (ha : W64 a x) (hb : W64 b y) (t : TypeId) : binOp .lss t (.float .f64 a) (.float .f64 b) = pure (.bool (decide (x < y))) := by
  rw [binOp_float_cmp_lss, w64_order ha hb, cmp_lt]
theorem fgtr (ha : W64 a x) (hb : W64 b y) (t : TypeId) : binOp .gtr t (.float .f64 a) (.float .f64 b) = pure (.bool (decide (y < x))) := by
  rw [binOp_float_cmp_gtr, w64_order ha hb, cmp_gt]
theorem fgeq (ha : W64 a x) (hb : W64 b y) (t : TypeId) : binOp .geq t (.float .f64 a) (.float .f64 b) = pure (.bool (decide (y ≤ x))) := by
  rw [binOp_float_cmp_geq, w64_order ha hb, cmp_gt, cmp_eq]
  congr 2
  by_cases h1 : y < x
  · simp [h1]; omega
  · by_cases h2 : x = y
    · simp [h2]
    · simp [h1, h2]; omega
theorem fleq (ha : W64 a x) (hb : W64 b y) (t : TypeId) : binOp .leq t (.float .f64 a) (.float .f64 b) = pure (.bool (decide (x ≤ y))) := by
  rw [binOp_float_cmp_leq, w64_order ha hb, cmp_lt, cmp_eq]
  congr 2
  by_cases h1 : x < y
  · simp [h1]; omega
  · by_cases h2 : x = y
    · simp [h2]
    · simp [h1, h2]; omega
end

theorem w_top : W64 4697254411347427328 1048576 := by
  have h := w64_of 1048576 (by decide)
  have e : FloatKind.f64.nearest 1048576 = 4697254411347427328 := by decide
  rw [e] at h; exact h
theorem w_bot : W64 13920626448202203136 (-1048576) := by
  have h := w64_of (-1048576) (by decide)
  have e : FloatKind.f64.nearest (-1048576) = 13920626448202203136 := by decide
  rw [e] at h; exact h

theorem conj_any (w : World) (a b : Nat) : Calls Try.prog 44 #[.complex .f64 a b] w fun e w' => e = .returned (.complex .f64 a (Op.negFloat .f64 b)) ∧ w' = w := by
  have hun : ∀ W, (Op.unary .neg (.float .f64 b)).run Try.prog W = .ok (.float .f64 (Op.negFloat .f64 b)) W := fun W => rfl
  go_enter Try.func44, Try.ntmps44
  go_wp2
  go_ret
  exact ⟨rfl, rfl⟩

def inP (p : Pt) : Bool := decide (-1048576 ≤ p.1 ∧ p.1 ≤ 1048576 ∧ -1048576 ≤ p.2 ∧ p.2 ≤ 1048576)

theorem within_any (w : World) (a b : Nat) (n m : Int) (ha : W64 a n) (hb : W64 b m) : Calls Try.prog 45 #[.complex .f64 a b] w fun e w' => e = .returned (.bool (inP (n, m))) ∧ w' = w := by
  have r1 := fgeq ha w_bot
  have r2 := fleq ha w_top
  have r3 := fgeq hb w_bot
  have r4 := fleq hb w_top
  clear ha hb
  by_cases h1 : -1048576 ≤ n
  case neg =>
    rw [show inP (n, m) = false by simp [inP]; omega]
    go_enter Try.func45, Try.ntmps45
    go_wp2
    go_ret
    exact ⟨rfl, rfl⟩
  by_cases h2 : n ≤ 1048576
  case neg =>
    rw [show inP (n, m) = false by simp [inP]; omega]
    go_enter Try.func45, Try.ntmps45
    go_wp2
    go_ret
    exact ⟨rfl, rfl⟩
  by_cases h3 : -1048576 ≤ m
  case neg =>
    rw [show inP (n, m) = false by simp [inP]; omega]
    go_enter Try.func45, Try.ntmps45
    go_wp2
    go_ret
    exact ⟨rfl, rfl⟩
  by_cases h4 : m ≤ 1048576
  case neg =>
    rw [show inP (n, m) = false by simp [inP]; omega]
    go_enter Try.func45, Try.ntmps45
    go_wp2
    go_ret
    exact ⟨rfl, rfl⟩
  rw [show inP (n, m) = true by simp [inP]; omega]
  go_enter Try.func45, Try.ntmps45
  go_wp2
  go_ret
  exact ⟨rfl, rfl⟩

/-- The turtle's own cells. -/
def turC (pos dir tr mp : Value) (k : Int) (lo hi op : Value) : List Value := [pos, dir, tr, mp, .int .i64 k, lo, hi, op]

def loP (l p : Pt) : Pt := (if p.1 < l.1 then p.1 else l.1, if p.2 < l.2 then p.2 else l.2)
def hiP (h p : Pt) : Pt := (if h.1 < p.1 then p.1 else h.1, if h.2 < p.2 then p.2 else h.2)

def widenPost (w : World) (x : Nat) (pos dir tr mp : Value) (k : Int) (op : Value) (l h : Pt) (e : Ending) (w' : World) : Prop :=
  e = .returned (.tuple #[]) ∧ Chg (fun k => k = x) w w' ∧ ∃ lo' hi', CW lo' l ∧ CW hi' h ∧ Blk w' x 48 (turC pos dir tr mp k lo' hi' op)

set_option maxRecDepth 100000 in
set_option maxHeartbeats 4000000 in
theorem widen_any (w : World) (x : Nat) (pos dir tr mp : Value) (k : Int) (lo hi op : Value) (l h p : Pt) (B : Blk w x 48 (turC pos dir tr mp k lo hi op)) (hl : CW lo l) (hh : CW hi h) (v : Value) (hv : CW v p) :
    Calls Try.prog 46 #[ptr x, v] w (widenPost w x pos dir tr mp k op (loP l p) (hiP h p)) := by
  obtain ⟨l1, l2, rfl, L1, L2⟩ := hl
  obtain ⟨h1, h2, rfl, H1, H2⟩ := hh
  obtain ⟨a, b, rfl, A, Bb⟩ := hv
  obtain ⟨lx, ly⟩ := l
  obtain ⟨hx, hy⟩ := h
  obtain ⟨px, py⟩ := p
  simp only at L1 L2 H1 H2 A Bb
  have r1 := flss A L1
  have r2 := flss Bb L2
  have r3 := fgtr A H1
  have r4 := fgtr Bb H2
  have c5 := B.cell 5
  have c6 := B.cell 6
  have f5 := B.frozen 5
  have f6 := B.frozen 6
  simp [turC] at c5 c6
  have BH := hide B
  have LH := hide (⟨L1, L2, H1, H2, A, Bb⟩ : _ ∧ _ ∧ _ ∧ _ ∧ _ ∧ _)
  have hc : ∀ {w'}, Chg (fun k => k = x) w w' → Chg (fun k => k = x) w w' := fun h => h
  clear B L1 L2 H1 H2 A Bb hc
  unfold ptr loP hiP
  by_cases t1 : px < lx
  · by_cases t2 : py < ly
    · by_cases t3 : hx < px
      · by_cases t4 : hy < py
        · simp only [t1, t2, t3, t4, if_true, if_false]
          go_enter Try.func46, Try.ntmps46
          go_wp2
          go_end0
          obtain ⟨L1, L2, H1, H2, A, Bb⟩ := unhide LH
          exact ⟨rfl, Chg.setCell (Chg.setCell (Chg.setCell (Chg.setCell (Chg.refl (fun k => k = x) w) (p := ⟨x, 5, none⟩) (.inl rfl) _) (p := ⟨x, 5, none⟩) (.inl rfl) _) (p := ⟨x, 6, none⟩) (.inl rfl) _) (p := ⟨x, 6, none⟩) (.inl rfl) _, .complex .f64 a b, .complex .f64 a b, ⟨_, _, rfl, A, Bb⟩, ⟨_, _, rfl, A, Bb⟩, ((((unhide BH).set 5 _).set 5 _).set 6 _).set 6 _⟩
        · simp only [t1, t2, t3, t4, if_true, if_false]
          go_enter Try.func46, Try.ntmps46
          go_wp2
          go_end0
          obtain ⟨L1, L2, H1, H2, A, Bb⟩ := unhide LH
          exact ⟨rfl, Chg.setCell (Chg.setCell (Chg.setCell (Chg.refl (fun k => k = x) w) (p := ⟨x, 5, none⟩) (.inl rfl) _) (p := ⟨x, 5, none⟩) (.inl rfl) _) (p := ⟨x, 6, none⟩) (.inl rfl) _, .complex .f64 a b, .complex .f64 a h2, ⟨_, _, rfl, A, Bb⟩, ⟨_, _, rfl, A, H2⟩, (((unhide BH).set 5 _).set 5 _).set 6 _⟩
      · by_cases t4 : hy < py
        · simp only [t1, t2, t3, t4, if_true, if_false]
          go_enter Try.func46, Try.ntmps46
          go_wp2
          go_end0
          obtain ⟨L1, L2, H1, H2, A, Bb⟩ := unhide LH
          exact ⟨rfl, Chg.setCell (Chg.setCell (Chg.setCell (Chg.refl (fun k => k = x) w) (p := ⟨x, 5, none⟩) (.inl rfl) _) (p := ⟨x, 5, none⟩) (.inl rfl) _) (p := ⟨x, 6, none⟩) (.inl rfl) _, .complex .f64 a b, .complex .f64 h1 b, ⟨_, _, rfl, A, Bb⟩, ⟨_, _, rfl, H1, Bb⟩, (((unhide BH).set 5 _).set 5 _).set 6 _⟩
        · simp only [t1, t2, t3, t4, if_true, if_false]
          go_enter Try.func46, Try.ntmps46
          go_wp2
          go_end0
          obtain ⟨L1, L2, H1, H2, A, Bb⟩ := unhide LH
          exact ⟨rfl, Chg.setCell (Chg.setCell (Chg.refl (fun k => k = x) w) (p := ⟨x, 5, none⟩) (.inl rfl) _) (p := ⟨x, 5, none⟩) (.inl rfl) _, .complex .f64 a b, .complex .f64 h1 h2, ⟨_, _, rfl, A, Bb⟩, ⟨_, _, rfl, H1, H2⟩, ((unhide BH).set 5 _).set 5 _⟩
    · by_cases t3 : hx < px
      · by_cases t4 : hy < py
        · simp only [t1, t2, t3, t4, if_true, if_false]
          go_enter Try.func46, Try.ntmps46
          go_wp2
          go_end0
          obtain ⟨L1, L2, H1, H2, A, Bb⟩ := unhide LH
          exact ⟨rfl, Chg.setCell (Chg.setCell (Chg.setCell (Chg.refl (fun k => k = x) w) (p := ⟨x, 5, none⟩) (.inl rfl) _) (p := ⟨x, 6, none⟩) (.inl rfl) _) (p := ⟨x, 6, none⟩) (.inl rfl) _, .complex .f64 a l2, .complex .f64 a b, ⟨_, _, rfl, A, L2⟩, ⟨_, _, rfl, A, Bb⟩, (((unhide BH).set 5 _).set 6 _).set 6 _⟩
        · simp only [t1, t2, t3, t4, if_true, if_false]
          go_enter Try.func46, Try.ntmps46
          go_wp2
          go_end0
          obtain ⟨L1, L2, H1, H2, A, Bb⟩ := unhide LH
          exact ⟨rfl, Chg.setCell (Chg.setCell (Chg.refl (fun k => k = x) w) (p := ⟨x, 5, none⟩) (.inl rfl) _) (p := ⟨x, 6, none⟩) (.inl rfl) _, .complex .f64 a l2, .complex .f64 a h2, ⟨_, _, rfl, A, L2⟩, ⟨_, _, rfl, A, H2⟩, ((unhide BH).set 5 _).set 6 _⟩
      · by_cases t4 : hy < py
        · simp only [t1, t2, t3, t4, if_true, if_false]
          go_enter Try.func46, Try.ntmps46
          go_wp2
          go_end0
          obtain ⟨L1, L2, H1, H2, A, Bb⟩ := unhide LH
          exact ⟨rfl, Chg.setCell (Chg.setCell (Chg.refl (fun k => k = x) w) (p := ⟨x, 5, none⟩) (.inl rfl) _) (p := ⟨x, 6, none⟩) (.inl rfl) _, .complex .f64 a l2, .complex .f64 h1 b, ⟨_, _, rfl, A, L2⟩, ⟨_, _, rfl, H1, Bb⟩, ((unhide BH).set 5 _).set 6 _⟩
        · simp only [t1, t2, t3, t4, if_true, if_false]
          go_enter Try.func46, Try.ntmps46
          go_wp2
          go_end0
          obtain ⟨L1, L2, H1, H2, A, Bb⟩ := unhide LH
          exact ⟨rfl, Chg.setCell (Chg.refl (fun k => k = x) w) (p := ⟨x, 5, none⟩) (.inl rfl) _, .complex .f64 a l2, .complex .f64 h1 h2, ⟨_, _, rfl, A, L2⟩, ⟨_, _, rfl, H1, H2⟩, (unhide BH).set 5 _⟩
  · by_cases t2 : py < ly
    · by_cases t3 : hx < px
      · by_cases t4 : hy < py
        · simp only [t1, t2, t3, t4, if_true, if_false]
          go_enter Try.func46, Try.ntmps46
          go_wp2
          go_end0
          obtain ⟨L1, L2, H1, H2, A, Bb⟩ := unhide LH
          exact ⟨rfl, Chg.setCell (Chg.setCell (Chg.setCell (Chg.refl (fun k => k = x) w) (p := ⟨x, 5, none⟩) (.inl rfl) _) (p := ⟨x, 6, none⟩) (.inl rfl) _) (p := ⟨x, 6, none⟩) (.inl rfl) _, .complex .f64 l1 b, .complex .f64 a b, ⟨_, _, rfl, L1, Bb⟩, ⟨_, _, rfl, A, Bb⟩, (((unhide BH).set 5 _).set 6 _).set 6 _⟩
        · simp only [t1, t2, t3, t4, if_true, if_false]
          go_enter Try.func46, Try.ntmps46
          go_wp2
          go_end0
          obtain ⟨L1, L2, H1, H2, A, Bb⟩ := unhide LH
          exact ⟨rfl, Chg.setCell (Chg.setCell (Chg.refl (fun k => k = x) w) (p := ⟨x, 5, none⟩) (.inl rfl) _) (p := ⟨x, 6, none⟩) (.inl rfl) _, .complex .f64 l1 b, .complex .f64 a h2, ⟨_, _, rfl, L1, Bb⟩, ⟨_, _, rfl, A, H2⟩, ((unhide BH).set 5 _).set 6 _⟩
      · by_cases t4 : hy < py
        · simp only [t1, t2, t3, t4, if_true, if_false]
          go_enter Try.func46, Try.ntmps46
          go_wp2
          go_end0
          obtain ⟨L1, L2, H1, H2, A, Bb⟩ := unhide LH
          exact ⟨rfl, Chg.setCell (Chg.setCell (Chg.refl (fun k => k = x) w) (p := ⟨x, 5, none⟩) (.inl rfl) _) (p := ⟨x, 6, none⟩) (.inl rfl) _, .complex .f64 l1 b, .complex .f64 h1 b, ⟨_, _, rfl, L1, Bb⟩, ⟨_, _, rfl, H1, Bb⟩, ((unhide BH).set 5 _).set 6 _⟩
        · simp only [t1, t2, t3, t4, if_true, if_false]
          go_enter Try.func46, Try.ntmps46
          go_wp2
          go_end0
          obtain ⟨L1, L2, H1, H2, A, Bb⟩ := unhide LH
          exact ⟨rfl, Chg.setCell (Chg.refl (fun k => k = x) w) (p := ⟨x, 5, none⟩) (.inl rfl) _, .complex .f64 l1 b, .complex .f64 h1 h2, ⟨_, _, rfl, L1, Bb⟩, ⟨_, _, rfl, H1, H2⟩, (unhide BH).set 5 _⟩
    · by_cases t3 : hx < px
      · by_cases t4 : hy < py
        · simp only [t1, t2, t3, t4, if_true, if_false]
          go_enter Try.func46, Try.ntmps46
          go_wp2
          go_end0
          obtain ⟨L1, L2, H1, H2, A, Bb⟩ := unhide LH
          exact ⟨rfl, Chg.setCell (Chg.setCell (Chg.refl (fun k => k = x) w) (p := ⟨x, 6, none⟩) (.inl rfl) _) (p := ⟨x, 6, none⟩) (.inl rfl) _, .complex .f64 l1 l2, .complex .f64 a b, ⟨_, _, rfl, L1, L2⟩, ⟨_, _, rfl, A, Bb⟩, ((unhide BH).set 6 _).set 6 _⟩
        · simp only [t1, t2, t3, t4, if_true, if_false]
          go_enter Try.func46, Try.ntmps46
          go_wp2
          go_end0
          obtain ⟨L1, L2, H1, H2, A, Bb⟩ := unhide LH
          exact ⟨rfl, Chg.setCell (Chg.refl (fun k => k = x) w) (p := ⟨x, 6, none⟩) (.inl rfl) _, .complex .f64 l1 l2, .complex .f64 a h2, ⟨_, _, rfl, L1, L2⟩, ⟨_, _, rfl, A, H2⟩, (unhide BH).set 6 _⟩
      · by_cases t4 : hy < py
        · simp only [t1, t2, t3, t4, if_true, if_false]
          go_enter Try.func46, Try.ntmps46
          go_wp2
          go_end0
          obtain ⟨L1, L2, H1, H2, A, Bb⟩ := unhide LH
          exact ⟨rfl, Chg.setCell (Chg.refl (fun k => k = x) w) (p := ⟨x, 6, none⟩) (.inl rfl) _, .complex .f64 l1 l2, .complex .f64 h1 b, ⟨_, _, rfl, L1, L2⟩, ⟨_, _, rfl, H1, Bb⟩, (unhide BH).set 6 _⟩
        · simp only [t1, t2, t3, t4, if_true, if_false]
          go_enter Try.func46, Try.ntmps46
          go_wp2
          go_end0
          obtain ⟨L1, L2, H1, H2, A, Bb⟩ := unhide LH
          exact ⟨rfl, Chg.refl (fun k => k = x) w, .complex .f64 l1 l2, .complex .f64 h1 h2, ⟨_, _, rfl, L1, L2⟩, ⟨_, _, rfl, H1, H2⟩, unhide BH⟩
end Go.Proofs.Qxb6500366a
