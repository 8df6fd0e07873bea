/-
  THE REAL BENCH: unit, integral, Cells, Fits, put, New, Set, Get, Same.
-/
import Derived.Test.Qxb6500362aPlain
namespace Go.Proofs.Qxb6500362a
open Go.RowKit Go.Qx
set_option linter.unusedVariables false
set_option linter.unusedSimpArgs false

theorem w_0 : W64 0 0 := by
  have h := w64_of 0 (by decide)
  have e : FloatKind.f64.nearest 0 = 0 := by decide
  rw [e] at h; exact h
theorem w_1 : W64 4607182418800017408 1 := by
  have h := w64_of 1 (by decide)
  have e : FloatKind.f64.nearest 1 = 4607182418800017408 := by decide
  rw [e] at h; exact h
theorem w_m1 : W64 13830554455654793216 (-1) := by
  have h := w64_of (-1) (by decide)
  have e : FloatKind.f64.nearest (-1) = 13830554455654793216 := by decide
  rw [e] at h; exact h
theorem w_2 : W64 4611686018427387904 2 := by
  have h := w64_of 2 (by decide)
  have e : FloatKind.f64.nearest 2 = 4611686018427387904 := by decide
  rw [e] at h; exact h
theorem w_4 : W64 4616189618054758400 4 := by
  have h := w64_of 4 (by decide)
  have e : FloatKind.f64.nearest 4 = 4616189618054758400 := by decide
  rw [e] at h; exact h

/-- i ^ k. -/
def uR (k : Int) : Int := if k = 1 then 0 else if k = 2 then -1 else if k = 3 then 0 else 1
def uI (k : Int) : Int := if k = 1 then 1 else if k = 2 then 0 else if k = 3 then -1 else 0

def uA (k : Int) : Nat := if k = 1 then 0 else if k = 2 then 13830554455654793216 else if k = 3 then 0 else 4607182418800017408
def uB (k : Int) : Nat := if k = 1 then 4607182418800017408 else if k = 2 then 0 else if k = 3 then 13830554455654793216 else 0

theorem unit_w (k : Int) : W64 (uA k) (uR k) ∧ W64 (uB k) (uI k) := by
  unfold uA uB uR uI
  by_cases h1 : k = 1
  · simp only [h1, if_true]; exact ⟨w_0, w_1⟩
  · by_cases h2 : k = 2
    · subst h2; exact ⟨w_m1, w_0⟩
    · by_cases h3 : k = 3
      · subst h3; exact ⟨w_0, w_m1⟩
      · simp only [h1, h2, h3, if_false]; exact ⟨w_1, w_0⟩

theorem unit_any (w : World) (k : Int) : Calls Try.prog 50 #[.int .i64 k] w fun e w' => e = .returned (.complex .f64 (uA k) (uB k)) ∧ w' = w := by
  by_cases h1 : k = 1
  · subst h1
    go_enter Try.func50, Try.ntmps50
    go_wp2
    go_ret
    exact ⟨rfl, rfl⟩
  have b1 : (k == 1) = false := by simpa using h1
  by_cases h2 : k = 2
  · subst h2
    go_enter Try.func50, Try.ntmps50
    go_wp2
    go_ret
    exact ⟨rfl, rfl⟩
  have b2 : (k == 2) = false := by simpa using h2
  by_cases h3 : k = 3
  · subst h3
    go_enter Try.func50, Try.ntmps50
    go_wp2
    go_ret
    exact ⟨rfl, rfl⟩
  have b3 : (k == 3) = false := by simpa using h3
  have e1 : Hid (uA k = 4607182418800017408 ∧ uB k = 0) := by show _ ∧ _; simp [uA, uB, h1, h2, h3]
  rw [(unhide e1).1, (unhide e1).2]
  clear h1 h2 h3 e1
  go_enter Try.func50, Try.ntmps50
  go_wp2
  go_ret
  exact ⟨rfl, rfl⟩

/-- Both parts are whole (n, m: quarters). -/
def wholeP (n m : Int) : Bool := decide (n = n.tdiv 4 * 4 ∧ m = m.tdiv 4 * 4)

theorem integral_any (w : World) (a b : Nat) (n m : Int) (ha : Q64 a n) (hb : Q64 b m) (hn : n.natAbs ≤ 1152921504606846976) (hm : m.natAbs ≤ 1152921504606846976) (hn2 : (n.tdiv 4).natAbs ≤ 9007199254740992) (hm2 : (m.tdiv 4).natAbs ≤ 9007199254740992) :
    Calls Try.prog 51 #[.complex .f64 a b] w fun e w' => e = .returned (.bool (wholeP n m)) ∧ w' = w := by
  have hp := parts_any w a b n m ha hb (by omega) (by omega)
  have hw := fun W => whole_any W (n.tdiv 4) (m.tdiv 4)
  have heq := ceq_whole ha hb (Q64.of_whole (w64_of (n.tdiv 4) hn2)) (Q64.of_whole (w64_of (m.tdiv 4) hm2)) Try.prog 66
  have hr : Hid (wholeP n m = decide (n = n.tdiv 4 * 4 ∧ m = m.tdiv 4 * 4)) := rfl
  rw [unhide hr]
  clear hr
  generalize decide (n = n.tdiv 4 * 4 ∧ m = m.tdiv 4 * 4) = D at *
  generalize FloatKind.f64.nearest (n.tdiv 4) = z1 at *
  generalize FloatKind.f64.nearest (m.tdiv 4) = z2 at *
  generalize n.tdiv 4 = N at *
  generalize m.tdiv 4 = M at *
  clear hn hm hn2 hm2
  go_enter Try.func51, Try.ntmps51
  go_wp2_with fail
  refine hp.mono ?_
  rintro e w' ⟨rfl, rfl⟩
  go_wp2_with fail
  refine (hw _).mono ?_
  rintro e w' ⟨rfl, rfl⟩
  go_wp2
  go_ret
  exact ⟨rfl, rfl⟩

def cellsP (a b : Int) : Bool := decide (0 ≤ a ∧ a < 4 ∧ 0 ≤ b ∧ b < 4)

theorem cells_any (w : World) (a b : Int) : Calls Try.prog 45 #[.int .i64 a, .int .i64 b] w fun e w' => e = .returned (.bool (cellsP a b)) ∧ w' = w := by
  by_cases h1 : 0 ≤ a
  · by_cases h2 : a < 4
    · by_cases h3 : 0 ≤ b
      · by_cases h4 : b < 4
        · rw [show cellsP a b = true by simp [cellsP, h1, h2, h3, h4]]
          go_enter Try.func45, Try.ntmps45
          go_wp2
          go_ret
          exact ⟨rfl, rfl⟩
        · rw [show cellsP a b = false by simp [cellsP]; omega]
          go_enter Try.func45, Try.ntmps45
          go_wp2
          go_ret
          exact ⟨rfl, rfl⟩
      · rw [show cellsP a b = false by simp [cellsP]; omega]
        go_enter Try.func45, Try.ntmps45
        go_wp2
        go_ret
        exact ⟨rfl, rfl⟩
    · rw [show cellsP a b = false by simp [cellsP]; omega]
      go_enter Try.func45, Try.ntmps45
      go_wp2
      go_ret
      exact ⟨rfl, rfl⟩
  · rw [show cellsP a b = false by simp [cellsP]; omega]
    go_enter Try.func45, Try.ntmps45
    go_wp2
    go_ret
    exact ⟨rfl, rfl⟩

theorem fits_any (w : World) (a b c : Int) (hc : 0 ≤ c ∧ c ≤ 9223372036854775807) : Calls Try.prog 46 #[.int .i64 a, .int .i64 b, .int .i64 c] w fun e w' => e = .returned (.bool (inP a b c)) ∧ w' = w := by
  have wn : IntKind.i64.wrap (0 - c) = -c := by rw [IntKind.wrap_i64]; omega
  have wn2 : IntKind.i64.wrap (-c) = -c := by rw [IntKind.wrap_i64]; omega
  by_cases h1 : -c ≤ a
  · by_cases h2 : a ≤ c
    · by_cases h3 : -c ≤ b
      · by_cases h4 : b ≤ c
        · rw [show inP a b c = true by simp [inP, h1, h2, h3, h4]]
          go_enter Try.func46, Try.ntmps46
          go_wp2
          go_ret
          exact ⟨rfl, rfl⟩
        · rw [show inP a b c = false by simp [inP]; omega]
          go_enter Try.func46, Try.ntmps46
          go_wp2
          go_ret
          exact ⟨rfl, rfl⟩
      · rw [show inP a b c = false by simp [inP]; omega]
        go_enter Try.func46, Try.ntmps46
        go_wp2
        go_ret
        exact ⟨rfl, rfl⟩
    · rw [show inP a b c = false by simp [inP]; omega]
      go_enter Try.func46, Try.ntmps46
      go_wp2
      go_ret
      exact ⟨rfl, rfl⟩
  · rw [show inP a b c = false by simp [inP]; omega]
    go_enter Try.func46, Try.ntmps46
    go_wp2
    go_ret
    exact ⟨rfl, rfl⟩

def repPost (w : World) (x v : Nat) (E : Int) (re im : Nat → Int) (e : Ending) (w' : World) : Prop := e = .returned (.int .i64 E) ∧ Chg (own x v) w w' ∧ Rep w' x v re im

/-- put's answer. -/
def putE (n m : Int) : Int := if inP n m 67108864 = true then 0 else 2
def putF (f : Nat → Int) (i : Nat) (n m k : Int) : Nat → Int := if inP n m 67108864 = true then upd f i k else f

theorem put_any (w : World) (x v : Nat) (re im : Nat → Int) (R : Rep w x v re im) (i : Nat) (hi : i < 4) (a b : Nat) (n m : Int) (ha : W64 a n) (hb : W64 b m) :
    Calls Try.prog 48 #[ptr x, .int .i64 i, .complex .f64 a b] w (repPost w x v (putE n m) (putF re i n m n) (putF im i n m m)) := by
  have hw := within_any w a b _ n m _ ha hb w_top
  obtain ⟨aa, bb, rowB, hrow⟩ := R.row
  have c0 := R.blk.cell 0
  simp at c0
  have cr := (rowB.cell i).trans (rowC_get aa bb i hi)
  have fr := rowB.frozen i
  have i0 : (0 : Int) ≤ (i : Int) := by omega
  have i1 : (i : Int) < 4 := by omega
  unfold repPost ptr putE putF
  have RH := hide R
  have fin : Hid (Chg (own x v) w (w.setCell ⟨v, i, none⟩ (.complex .f64 a b)) ∧ Rep (w.setCell ⟨v, i, none⟩ (.complex .f64 a b)) x v (upd re i n) (upd im i m)) := ⟨(Chg.refl (own x v) w).setCell (p := ⟨v, i, none⟩) (.inl (.inr rfl)) _, R.set i hi a b n m ha hb⟩
  clear rowB hrow ha hb R
  generalize inP n m 67108864 = B at *
  cases B with
  | true =>
    rw [if_pos rfl, if_pos rfl, if_pos rfl]
    go_enter Try.func48, Try.ntmps48
    go_wp2_with fail
    refine hw.mono ?_
    rintro e w' ⟨rfl, rfl⟩
    go_wp2
    go_ret
    exact ⟨rfl, (unhide fin).1, (unhide fin).2⟩
  | false =>
    rw [if_neg (by simp), if_neg (by simp), if_neg (by simp)]
    go_enter Try.func48, Try.ntmps48
    go_wp2_with fail
    refine hw.mono ?_
    rintro e w' ⟨rfl, rfl⟩
    go_wp2
    go_ret
    exact ⟨rfl, Chg.refl _ _, unhide RH⟩

theorem info66 : (Try.prog.info? 66).map (fun i => (i.zero, i.size, i.bytes)) = some (some (.complex .f64 0 0), 1, 16) := by kernel_rfl
theorem made66 : madeCells (Value.complex .f64 0 0).cells (4 * 1) = (rowC (fun _ => 0) (fun _ => 0)).toArray := by kernel_rfl

theorem make44 (W : World) : (Instr.makeSlice 44 (.int .i64 4) (.int .i64 4)).run Try.prog W = .ok (.slice (some ⟨W.heap.size, 0, none⟩) 4 4) (W.alloc (.cells (rowC (fun _ => 0) (fun _ => 0)).toArray 66)) := by
  obtain ⟨i, hi, hz0, hz1, hz2⟩ := info_parts info66
  have := run_make (P := Try.prog) W 44 66 i _ Try.underlying44 hi hz0 .i64 .i64 4 4 (by omega) (by omega) (by rw [hz2]; omega) (by omega)
  rw [hz1] at this
  rw [this]
  exact congrArg (fun x => Result.ok _ (W.alloc (.cells x 66))) made66

def newPost (w : World) (e : Ending) (w' : World) : Prop := ∃ x v, e = .returned (.pointer (some ⟨x, 0, none⟩)) ∧ Quiet w w' ∧ (∀ k, own x v k → w.heap.size ≤ k) ∧ Rep w' x v (fun _ => 0) (fun _ => 0)

theorem new_any (w : World) : Calls Try.prog 13 #[] w (newPost w) := by
  have hm := make44
  generalize hF : (rowC (fun _ => 0) (fun _ => 0)).toArray = F at hm
  have hFH := hide hF
  clear hF
  go_enter Try.func13, Try.ntmps13
  go_wp2
  go_ret
  refine ⟨w.heap.size + 1, w.heap.size, rfl, ((Chg.refl _ _).alloc _).alloc _, ?_, ?_, ⟨fun _ => 0, fun _ => 0, ?_, fun i hi => ⟨w_0, w_0⟩⟩, by omega⟩
  · rintro k (rfl | rfl) <;> omega
  · exact Blk.at_new (cs := [.slice (some ⟨w.heap.size, 0, none⟩) 4 4]) (by simp)
  · rw [← unhide hFH]
    exact (Blk.new w 66 _).alloc _

theorem cells_cases (a b : Int) : (∃ i j : Nat, a = i ∧ b = j ∧ i < 4 ∧ j < 4 ∧ cellsP a b = true) ∨ cellsP a b = false := by
  by_cases h : 0 ≤ a ∧ a < 4 ∧ 0 ≤ b ∧ b < 4
  · left
    exact ⟨a.toNat, b.toNat, by omega, by omega, by omega, by omega, by simp [cellsP, h]⟩
  · right
    unfold cellsP; exact decide_eq_false h

def setE (i x y : Int) : Int := if cellsP i i = false then 1 else putE x y
def setF (f : Nat → Int) (i x y k : Int) : Nat → Int := if cellsP i i = false then f else putF f i.toNat x y k

set_option maxHeartbeats 1000000 in
theorem set_any (w : World) (x v : Nat) (re im : Nat → Int) (R : Rep w x v re im) (i n m : Int) : Calls Try.prog 20 #[ptr x, .int .i64 i, .int .i64 n, .int .i64 m] w (repPost w x v (setE i n m) (setF re i n m n) (setF im i n m m)) := by
  have hc := cells_any w i i
  rcases cells_cases i i with ⟨k, k', rfl, hk', hk, _, e0⟩ | e0
  · have hf := fits_any w n m 67108864 (by omega)
    have e1 : Hid (setE k n m = putE n m) := by show _ = _; simp [setE, e0]
    have e2 : Hid (∀ f z, setF f k n m z = putF f k n m z) := fun f z => by simp [setF, e0]
    rw [e0] at hc
    rw [unhide e1, unhide e2, unhide e2]
    clear e1 e2 e0 hk'
    obtain ⟨aa, bb, rowB, hrow⟩ := R.row
    have c0 := R.blk.cell 0
    simp at c0
    have cr := (rowB.cell k).trans (rowC_get aa bb k hk)
    have fr := rowB.frozen k
    have xv := R.xv
    have vx := Ne.symm xv
    have i0 : (0 : Int) ≤ (k : Int) := by omega
    have i1 : (k : Int) < 4 := by omega
    have hwh := whole_any w.drew n m
    have RH := hide R
    unfold repPost ptr putE putF
    have fin : Hid (inP n m 67108864 = true → Chg (own x v) w (w.setCell ⟨v, k, none⟩ (.complex .f64 (FloatKind.f64.nearest n) (FloatKind.f64.nearest m))) ∧ Rep (w.setCell ⟨v, k, none⟩ (.complex .f64 (FloatKind.f64.nearest n) (FloatKind.f64.nearest m))) x v (upd re k n) (upd im k m)) := by
      intro h
      simp only [inP, decide_eq_true_eq] at h
      exact ⟨(Chg.refl (own x v) w).setCell (p := ⟨v, k, none⟩) (.inl (.inr rfl)) _, R.set k hk _ _ n m (w64_of n (by omega)) (w64_of m (by omega))⟩
    clear rowB hrow R
    generalize FloatKind.f64.nearest n = z1 at *
    generalize FloatKind.f64.nearest m = z2 at *
    generalize inP n m 67108864 = B at *
    cases B with
    | true =>
      rw [if_pos rfl, if_pos rfl, if_pos rfl]
      go_enter Try.func20, Try.ntmps20
      go_wp2_with fail
      refine hc.mono ?_
      rintro e w' ⟨rfl, rfl⟩
      go_wp2_with fail
      refine hf.mono ?_
      rintro e w' ⟨rfl, rfl⟩
      go_wp2_with fail
      go_region_held3 (fun W => W.cell? ⟨x, 0, none⟩ = some (.slice (some ⟨v, 0, none⟩) 4 4)) (first | go_keep | exact c0) (first | (go_at_call 47; (with_reducible refine hwh.mono ?_); rintro e w2 ⟨rfl, rfl⟩))
      rename_i hHeld
      clear hHeld
      obtain ⟨y1, y2⟩ := unhide fin (by trivial)
      have yH := hide (And.intro y1.drew (y2.quiet ((Chg.refl _ _).drew)))
      clear y1 y2 fin
      go_wp2
      go_ret
      exact ⟨rfl, (unhide yH).1, (unhide yH).2⟩
    | false =>
      rw [if_neg (by simp), if_neg (by simp), if_neg (by simp)]
      go_enter Try.func20, Try.ntmps20
      go_wp2_with fail
      refine hc.mono ?_
      rintro e w' ⟨rfl, rfl⟩
      go_wp2_with fail
      refine hf.mono ?_
      rintro e w' ⟨rfl, rfl⟩
      go_wp2
      go_ret
      exact ⟨rfl, Chg.refl _ _, unhide RH⟩
  · have e1 : Hid (setE i n m = 1) := by show _ = _; simp [setE, e0]
    have e2 : Hid (∀ f z, setF f i n m z = f) := fun f z => by simp [setF, e0]
    rw [e0] at hc
    rw [unhide e1, unhide e2, unhide e2]
    unfold repPost ptr
    have RH := hide R
    clear e1 e2 e0 R
    go_enter Try.func20, Try.ntmps20
    go_wp2_with fail
    refine hc.mono ?_
    rintro e w' ⟨rfl, rfl⟩
    go_wp2
    go_ret
    exact ⟨rfl, Chg.refl _ _, unhide RH⟩
end Go.Proofs.Qxb6500362a
