/-
  THE REAL MESH: how it lies in memory; Nodes, Ends, live, Route.
-/
import Derived.Test.Qxb6500364aHear
namespace Go.Proofs.Qxb6500364a
open Go.RowKit Go.Qx
set_option linter.unusedVariables false
set_option linter.unusedSimpArgs false

def rowC (n : Nat → Nat) : List Value := [ptr (n 0), ptr (n 1), ptr (n 2), ptr (n 3), ptr (n 4)]

theorem rowC_get (n : Nat → Nat) (k : Nat) (hk : k < 5) : (rowC n)[k]? = some (ptr (n k)) := by
  have : k = 0 ∨ k = 1 ∨ k = 2 ∨ k = 3 ∨ k = 4 := by omega
  rcases this with rfl | rfl | rfl | rfl | rfl <;> rfl

/-- The real mesh at x: its row at r, its routers at n 0 .. n 4. -/
structure Rep (w : World) (x r : Nat) (n : Nat → Nat) (C : Nat → Nat → Int) (H : Nat → Nat → Nat → Int) : Prop where
  blk : Blk w x 52 [.slice (some ⟨r, 0, none⟩) 5 5]
  row : Blk w r 53 (rowC n)
  nd : ∀ a, a < 5 → Blk w (n a) 58 (ndC a (mended a (C a) (H a)))
  xr : x ≠ r
  xn : ∀ a, a < 5 → x ≠ n a
  rn : ∀ a, a < 5 → r ≠ n a
  nn : ∀ a b, a < 5 → b < 5 → a ≠ b → n a ≠ n b

def own (x r : Nat) (n : Nat → Nat) (k : Nat) : Prop := k = x ∨ k = r ∨ ∃ a, a < 5 ∧ k = n a

theorem Rep.of_chg {S : Nat → Prop} {w w' : World} {x r : Nat} {n : Nat → Nat} {C : Nat → Nat → Int} {H : Nat → Nat → Nat → Int} (h : Rep w x r n C H) (c : Chg S w w') (hS : ∀ k, S k → ¬ own x r n k) : Rep w' x r n C H :=
  { h with blk := c.blk h.blk (fun k => hS _ k (.inl rfl)), row := c.blk h.row (fun k => hS _ k (.inr (.inl rfl))), nd := fun a ha => c.blk (h.nd a ha) (fun k => hS _ k (.inr (.inr ⟨a, ha, rfl⟩))) }

theorem Rep.quiet {w w' : World} {x r : Nat} {n : Nat → Nat} {C : Nat → Nat → Int} {H : Nat → Nat → Nat → Int} (h : Rep w x r n C H) (c : Quiet w w') : Rep w' x r n C H := h.of_chg c (fun _ f => f.elim)

theorem Rep.lts {w : World} {x r : Nat} {n : Nat → Nat} {C : Nat → Nat → Int} {H : Nat → Nat → Nat → Int} (h : Rep w x r n C H) : ∀ k, own x r n k → k < w.heap.size := by
  rintro k (rfl | rfl | ⟨a, ha, rfl⟩)
  · exact h.blk.lt
  · exact h.row.lt
  · exact (h.nd a ha).lt

/-- A lawful mesh. -/
structure Inv (C : Nat → Nat → Int) (H : Nat → Nat → Nat → Int) : Prop where
  c : ∀ a b, a < 5 → b < 5 → 0 ≤ C a b ∧ C a b ≤ 16
  sym : ∀ a b, a < 5 → b < 5 → C a b = C b a
  diag : ∀ a, a < 5 → C a a = 0
  h : ∀ a b d, a < 5 → b < 5 → d < 5 → 0 ≤ H a b d ∧ H a b d ≤ 16
  far : ∀ a b d, a < 5 → b < 5 → d < 5 → C a b = 0 → H a b d = 16

theorem Inv.ok {C : Nat → Nat → Int} {H : Nat → Nat → Nat → Int} (I : Inv C H) (a : Nat) (ha : a < 5) : NdOk (mended a (C a) (H a)) := ⟨fun b hb => I.c a b ha hb, fun b d hb hd => I.h a b d ha hb hd⟩

def nodesP (a b : Int) : Bool := decide (0 ≤ a ∧ a < 5 ∧ 0 ≤ b ∧ b < 5)
def endsP (a b : Int) : Int := if nodesP a b = false then 1 else if a = b then 2 else 0

theorem nodes_any (w : World) (a b : Int) : Calls Try.prog 43 #[.int .i64 a, .int .i64 b] w fun e w' => e = .returned (.bool (nodesP a b)) ∧ w' = w := by
  by_cases h1 : 0 ≤ a
  · by_cases h2 : a < 5
    · by_cases h3 : 0 ≤ b
      · by_cases h4 : b < 5
        · rw [show nodesP a b = true by simp [nodesP, h1, h2, h3, h4]]
          go_enter Try.func43, Try.ntmps43
          go_wp2
          go_ret
          exact ⟨rfl, rfl⟩
        · rw [show nodesP a b = false by simp [nodesP]; omega]
          go_enter Try.func43, Try.ntmps43
          go_wp2
          go_ret
          exact ⟨rfl, rfl⟩
      · rw [show nodesP a b = false by simp [nodesP]; omega]
        have h3' : decide (0 ≤ b) = false := decide_eq_false h3
        go_enter Try.func43, Try.ntmps43
        go_wp2
        go_ret
        exact ⟨rfl, rfl⟩
    · rw [show nodesP a b = false by simp [nodesP]; omega]
      go_enter Try.func43, Try.ntmps43
      go_wp2
      go_ret
      exact ⟨rfl, rfl⟩
  · rw [show nodesP a b = false by simp [nodesP]; omega]
    go_enter Try.func43, Try.ntmps43
    go_wp2
    go_ret
    exact ⟨rfl, rfl⟩

theorem ends_any (w : World) (a b : Int) : Calls Try.prog 40 #[.int .i64 a, .int .i64 b] w fun e w' => e = .returned (.int .i64 (endsP a b)) ∧ w' = w := by
  have hn := nodes_any w a b
  unfold endsP
  generalize nodesP a b = B at *
  cases B with
  | false =>
    rw [if_pos rfl]
    go_enter Try.func40, Try.ntmps40
    go_wp2_with fail
    refine hn.mono ?_
    rintro e w' ⟨rfl, rfl⟩
    go_wp2
    go_ret
    exact ⟨rfl, rfl⟩
  | true =>
    rw [if_neg (by simp)]
    by_cases e : a = b
    · subst e
      rw [if_pos rfl]
      go_enter Try.func40, Try.ntmps40
      go_wp2_with fail
      refine hn.mono ?_
      rintro e w' ⟨rfl, rfl⟩
      go_wp2
      go_ret
      exact ⟨rfl, rfl⟩
    · rw [if_neg e]
      have e1 : (a == b) = false := by simpa using e
      clear e
      go_enter Try.func40, Try.ntmps40
      go_wp2_with fail
      refine hn.mono ?_
      rintro e w' ⟨rfl, rfl⟩
      go_wp2
      go_ret
      exact ⟨rfl, rfl⟩

/-- Two ends that are different routers, or an error. -/
theorem ends_cases (a b : Int) : (∃ i j : Nat, a = i ∧ b = j ∧ i < 5 ∧ j < 5 ∧ i ≠ j ∧ endsP a b = 0) ∨ (endsP a b ≠ 0 ∧ (endsP a b = 1 ∨ endsP a b = 2)) := by
  by_cases h : 0 ≤ a ∧ a < 5 ∧ 0 ≤ b ∧ b < 5
  · by_cases e : a = b
    · right
      have : endsP a b = 2 := by unfold endsP nodesP; rw [if_neg (by simp; omega), if_pos e]
      rw [this]; exact ⟨by decide, .inr rfl⟩
    · left
      refine ⟨a.toNat, b.toNat, by omega, by omega, by omega, by omega, by omega, ?_⟩
      unfold endsP nodesP; rw [if_neg (by simp; omega), if_neg e]
  · right
    have : endsP a b = 1 := by unfold endsP nodesP; rw [if_pos (by simp; omega)]
    rw [this]; exact ⟨by decide, .inl rfl⟩

def liveP (C : Nat → Nat → Int) (a b : Int) : Int := if endsP a b = 0 ∧ C a.toNat b.toNat = 0 then 4 else endsP a b

theorem live_any (w : World) (x r : Nat) (n : Nat → Nat) (C : Nat → Nat → Int) (H : Nat → Nat → Nat → Int) (R : Rep w x r n C H) (a b : Int) :
    Calls Try.prog 41 #[ptr x, .int .i64 a, .int .i64 b] w fun e w' => e = .returned (.int .i64 (liveP C a b)) ∧ w' = w := by
  have he := ends_any w a b
  have c0 := R.blk.cell 0
  simp at c0
  rcases ends_cases a b with ⟨i, j, rfl, rfl, hi, hj, hij, e0⟩ | ⟨hne, _⟩
  · have hl : Hid (liveP C i j = if C i j = 0 then 4 else 0) := by show _ = _; simp [liveP, e0]
    rw [e0] at he
    rw [unhide hl]
    have cr := (R.row.cell i).trans (rowC_get n i hi)
    have cc := cell_c (R.nd i hi) j hj
    rw [show (mended i (C i) (H i)).c j = C i j from rfl] at cc
    have i0 : (0 : Int) ≤ (i : Int) := by omega
    have i1 : (i : Int) < 5 := by omega
    have j0 : (0 : Int) ≤ (j : Int) := by omega
    have j1 : (j : Int) < 5 := by omega
    unfold ptr at *
    generalize C i j = cij at *
    clear hl e0 R
    by_cases hz : cij = 0
    · subst hz
      rw [if_pos rfl]
      go_enter Try.func41, Try.ntmps41
      go_wp2_with fail
      refine he.mono ?_
      rintro e w' ⟨rfl, rfl⟩
      go_wp2
      go_ret
      exact ⟨rfl, rfl⟩
    · rw [if_neg hz]
      have z1 : (cij == 0) = false := by simpa using hz
      go_enter Try.func41, Try.ntmps41
      go_wp2_with fail
      refine he.mono ?_
      rintro e w' ⟨rfl, rfl⟩
      go_wp2
      go_ret
      exact ⟨rfl, rfl⟩
  · have hl : Hid (liveP C a b = endsP a b) := by show _ = _; simp [liveP, hne]
    rw [unhide hl]
    have z1 : (endsP a b == 0) = false := by simpa using hne
    clear hl hne
    unfold ptr
    generalize endsP a b = E at *
    go_enter Try.func41, Try.ntmps41
    go_wp2_with fail
    refine he.mono ?_
    rintro e w' ⟨rfl, rfl⟩
    go_wp2
    go_ret
    exact ⟨rfl, rfl⟩

/-- Route's answer. -/
def routeP (C : Nat → Nat → Int) (H : Nat → Nat → Nat → Int) (a d : Int) : Int × Int × Int := if nodesP a d = true then ((bestP a.toNat (C a.toNat) (H a.toNat) d.toNat).1, (bestP a.toNat (C a.toNat) (H a.toNat) d.toNat).2, 0) else (0, 0, 1)

theorem nodes_cases (a b : Int) : (∃ i j : Nat, a = i ∧ b = j ∧ i < 5 ∧ j < 5 ∧ nodesP a b = true) ∨ nodesP a b = false := by
  by_cases h : 0 ≤ a ∧ a < 5 ∧ 0 ≤ b ∧ b < 5
  · left
    exact ⟨a.toNat, b.toNat, by omega, by omega, by omega, by omega, by simp [nodesP, h]⟩
  · right
    unfold nodesP; exact decide_eq_false h

set_option maxHeartbeats 1000000 in
theorem route_any (w : World) (x r : Nat) (n : Nat → Nat) (C : Nat → Nat → Int) (H : Nat → Nat → Nat → Int) (R : Rep w x r n C H) (a d : Int) :
    Calls Try.prog 28 #[ptr x, .int .i64 a, .int .i64 d] w fun e w' => e = .returned (.tuple #[.int .i64 (routeP C H a d).1, .int .i64 (routeP C H a d).2.1, .int .i64 (routeP C H a d).2.2]) ∧ Quiet w w' := by
  have he := nodes_any w a d
  have c0 := R.blk.cell 0
  simp at c0
  rcases nodes_cases a d with ⟨i, j, rfl, rfl, hi, hj, e0⟩ | e0
  · have hl : Hid (routeP C H i j = ((bestP i (C i) (H i) j).1, (bestP i (C i) (H i) j).2, 0)) := by show _ = _; simp [routeP, e0]
    rw [e0] at he
    rw [unhide hl]
    have cr := (R.row.cell i).trans (rowC_get n i hi)
    have cd := cell_d (R.nd i hi) j hj
    have cp := cell_p (R.nd i hi) j hj
    rw [show (mended i (C i) (H i)).d j = (bestP i (C i) (H i) j).1 from rfl] at cd
    rw [show (mended i (C i) (H i)).p j = (bestP i (C i) (H i) j).2 from rfl] at cp
    have i0 : (0 : Int) ≤ (i : Int) := by omega
    have i1 : (i : Int) < 5 := by omega
    have j0 : (0 : Int) ≤ (j : Int) := by omega
    have j1 : (j : Int) < 5 := by omega
    unfold ptr at *
    generalize bestP i (C i) (H i) j = B at *
    obtain ⟨B1, B2⟩ := B
    simp only at cd cp ⊢
    clear hl e0 R
    go_enter Try.func28, Try.ntmps28
    go_wp2_with fail
    refine he.mono ?_
    rintro e w' ⟨rfl, rfl⟩
    go_wp2
    go_big_quiet (fail)
    go_wp2
    go_ret3
    exact ⟨rfl, (Chg.refl _ _).drewN _⟩
  · have hl : Hid (routeP C H a d = (0, 0, 1)) := by show _ = _; simp [routeP, e0]
    rw [unhide hl]
    rw [e0] at he
    clear hl e0 R
    unfold ptr
    go_enter Try.func28, Try.ntmps28
    go_wp2_with fail
    refine he.mono ?_
    rintro e w' ⟨rfl, rfl⟩
    go_wp2
    go_ret3
    exact ⟨rfl, Chg.refl _ _⟩
end Go.Proofs.Qxb6500364a
