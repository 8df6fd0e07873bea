/-
  THE REAL MESH: Link, Unlink, Deliver.
-/
import Derived.Test.Qxb6500364aMesh
namespace Go.Proofs.Qxb6500364a
open Go.RowKit Go.Qx
set_option linter.unusedVariables false
set_option linter.unusedSimpArgs false

/-- One number for both directions. -/
def lk {α : Type} (C : Nat → Nat → α) (a b : Nat) (v : α) : Nat → Nat → α := fun i j => if (i = a ∧ j = b) ∨ (i = b ∧ j = a) then v else C i j

theorem lk_a {α : Type} (C : Nat → Nat → α) (a b : Nat) (v : α) (h : a ≠ b) : upd (C a) b v = lk C a b v a := by
  funext j
  unfold upd lk
  by_cases e : j = b
  · simp [e]
  · rw [if_neg e, if_neg (by omega)]

theorem lk_b {α : Type} (C : Nat → Nat → α) (a b : Nat) (v : α) (h : a ≠ b) : upd (C b) a v = lk C a b v b := by
  funext j
  unfold upd lk
  by_cases e : j = a
  · simp [e]
  · rw [if_neg e, if_neg (by omega)]

theorem lk_o {α : Type} (C : Nat → Nat → α) (a b : Nat) (v : α) (i : Nat) (h1 : i ≠ a) (h2 : i ≠ b) : lk C a b v i = C i := by
  funext j
  unfold lk
  rw [if_neg (by omega)]

def repPost (w : World) (x r : Nat) (n : Nat → Nat) (E : Int) (C : Nat → Nat → Int) (H : Nat → Nat → Nat → Int) (e : Ending) (w' : World) : Prop := e = .returned (.int .i64 E) ∧ Chg (own x r n) w w' ∧ Rep w' x r n C H

/-- One router turned: the others stay. -/
theorem Rep.turn {w w' : World} {x r : Nat} {n : Nat → Nat} {C C' : Nat → Nat → Int} {H H' : Nat → Nat → Nat → Int} (R : Rep w x r n C H) (a : Nat) (ha : a < 5) (c : Chg (fun k => k = n a) w w') (hb : Blk w' (n a) 58 (ndC a (mended a (C' a) (H' a)))) (ho : ∀ i, i < 5 → i ≠ a → C' i = C i ∧ H' i = H i) : Chg (own x r n) w w' ∧ Rep w' x r n C' H' := by
  refine ⟨c.mono (fun k _ e => .inr (.inr ⟨a, ha, e⟩)), ?_, ?_, ?_, R.xr, R.xn, R.rn, R.nn⟩
  · exact c.blk R.blk (R.xn a ha)
  · exact c.blk R.row (R.rn a ha)
  · intro i hi
    by_cases e : i = a
    · subst e; exact hb
    · obtain ⟨e1, e2⟩ := ho i hi e
      rw [e1, e2]
      exact c.blk (R.nd i hi) (R.nn i a hi ha e)

def linkE (a b c : Int) : Int := if endsP a b ≠ 0 then endsP a b else if c < 1 then 3 else 0
def linkC (C : Nat → Nat → Int) (a b c : Int) : Nat → Nat → Int := if linkE a b c = 0 then lk C a.toNat b.toNat (min c 16) else C

/-- wire at a router of the mesh; it stays so far that the other end does not yet know. -/
theorem wire_rep {w : World} {x r : Nat} {n : Nat → Nat} {C : Nat → Nat → Int} {H : Nat → Nat → Nat → Int} (R : Rep w x r n C H) (a b : Nat) (ha : a < 5) (hb : b < 5) (c : Int) (hc : 0 ≤ c ∧ c ≤ 16) (o : NdOk (mended a (C a) (H a))) (H' : Nat → Nat → Nat → Int) (hH : H' = if c = 0 then upd H a (upd (H a) b (fun _ => 16)) else H) :
    Calls Try.prog 22 #[.pointer (some ⟨n a, 0, none⟩), .int .i64 b, .int .i64 c] w fun e w' => e = .returned (.tuple #[]) ∧ Chg (own x r n) w w' ∧ Rep w' x r n (upd C a (upd (C a) b c)) H' := by
  refine Calls.mono (wire_any w (n a) a _ (R.nd a ha) o ha b hb c hc) ?_
  rintro e w' ⟨h1, h2, h3⟩
  refine ⟨h1, R.turn a ha h2 ?_ ?_⟩
  · have e1 : (upd C a (upd (C a) b c)) a = upd (C a) b c := by simp [upd]
    have e2 : H' a = wireH (mended a (C a) (H a)) b c := by
      rw [hH]; unfold wireH
      split
      · simp [upd]; rfl
      · rfl
    rw [e1, e2]; exact h3
  · intro i hi hne
    constructor
    · simp [upd, hne]
    · rw [hH]
      split
      · simp [upd, hne]
      · rfl

theorem two_lk (C : Nat → Nat → Int) (a b : Nat) (c : Int) (hab : a ≠ b) : upd (upd C a (upd (C a) b c)) b (upd ((upd C a (upd (C a) b c)) b) a c) = lk C a b c := by
  funext i j
  unfold upd lk
  by_cases h1 : i = b
  · subst h1
    simp only [if_true]
    by_cases h2 : j = a
    · simp [h2]
    · rw [if_neg h2, if_neg (by omega : ¬ i = a), if_neg (by omega)]
  · rw [if_neg h1]
    by_cases h2 : i = a
    · subst h2
      simp only [if_true]
      by_cases h3 : j = b
      · simp [h3]
      · rw [if_neg h3, if_neg (by omega)]
    · rw [if_neg h2, if_neg (by omega)]

theorem two_lkH (H : Nat → Nat → Nat → Int) (a b : Nat) (v : Nat → Int) (hab : a ≠ b) : upd (upd H a (upd (H a) b v)) b (upd ((upd H a (upd (H a) b v)) b) a v) = lk H a b v := by
  funext i j
  unfold upd lk
  by_cases h1 : i = b
  · subst h1
    simp only [if_true]
    by_cases h2 : j = a
    · simp [h2]
    · rw [if_neg h2, if_neg (by omega : ¬ i = a), if_neg (by omega)]
  · rw [if_neg h1]
    by_cases h2 : i = a
    · subst h2
      simp only [if_true]
      by_cases h3 : j = b
      · simp [h3]
      · rw [if_neg h3, if_neg (by omega)]
    · rw [if_neg h2, if_neg (by omega)]

set_option maxHeartbeats 1000000 in
theorem link_any (w : World) (x r : Nat) (n : Nat → Nat) (C : Nat → Nat → Int) (H : Nat → Nat → Nat → Int) (R : Rep w x r n C H) (I : Inv C H) (a b c : Int) : Calls Try.prog 25 #[ptr x, .int .i64 a, .int .i64 b, .int .i64 c] w (repPost w x r n (linkE a b c) (linkC C a b c) H) := by
  have he := ends_any w a b
  rcases ends_cases a b with ⟨i, j, rfl, rfl, hi, hj, hij, e0⟩ | ⟨hne, _⟩
  · rw [e0] at he
    by_cases hc : c < 1
    · have e1 : Hid (linkE i j c = 3) := by show _ = _; simp [linkE, e0, hc]
      have e2 : Hid (linkC C i j c = C) := by show _ = _; simp [linkC, unhide e1]
      rw [unhide e1, unhide e2]
      unfold repPost ptr
      have RH := hide R
      clear e1 e2 R
      go_enter Try.func25, Try.ntmps25
      go_wp2_with fail
      refine he.mono ?_
      rintro e w' ⟨rfl, rfl⟩
      go_wp2
      go_ret
      exact ⟨rfl, Chg.refl _ _, unhide RH⟩
    · have e1 : Hid (linkE i j c = 0) := by show _ = _; simp [linkE, e0, hc]
      have e2 : Hid (linkC C i j c = lk C i j (min c 16)) := by show _ = _; simp [linkC, unhide e1]
      rw [unhide e1, unhide e2]
      have i0 : (0 : Int) ≤ (i : Int) := by omega
      have i1 : (i : Int) < 5 := by omega
      have j0 : (0 : Int) ≤ (j : Int) := by omega
      have j1 : (j : Int) < 5 := by omega
      have c0 := R.blk.cell 0
      simp at c0
      have cr : w.cell? ⟨r, i, none⟩ = some (.pointer (some ⟨n i, 0, none⟩)) := (R.row.cell i).trans (rowC_get n i hi)
      have step : ∀ m : Int, 1 ≤ m ∧ m ≤ 16 → m = min c 16 → Hid (Calls Try.prog 22 #[.pointer (some ⟨n i, 0, none⟩), .int .i64 j, .int .i64 m] w fun e w' => e = .returned (.tuple #[]) ∧ Chg (own x r n) w w' ∧ w'.cell? ⟨x, 0, none⟩ = some (.slice (some ⟨r, 0, none⟩) 5 5) ∧ w'.cell? ⟨r, j, none⟩ = some (.pointer (some ⟨n j, 0, none⟩)) ∧ Hid (Calls Try.prog 22 #[.pointer (some ⟨n j, 0, none⟩), .int .i64 i, .int .i64 m] w' fun e w'' => e = .returned (.tuple #[]) ∧ Chg (own x r n) w' w'' ∧ Rep w'' x r n (lk C i j (min c 16)) H)) := by
        intro m hm hmc
        refine Calls.mono (wire_rep R i j hi hj m (by omega) (I.ok i hi) H (by rw [if_neg (by omega)])) ?_
        rintro e w' ⟨h1, h2, R2⟩
        have d0 := R2.blk.cell 0
        simp at d0
        refine ⟨h1, h2, d0, (R2.row.cell j).trans (rowC_get n j hj), ?_⟩
        have o2 : NdOk (mended j ((upd C i (upd (C i) j m)) j) (H j)) := by
          have : (upd C i (upd (C i) j m)) j = C j := by simp [upd, Ne.symm hij]
          rw [this]; exact I.ok j hj
        have h3 := wire_rep R2 j i hj hi m (by omega) o2 H (by rw [if_neg (by omega)])
        rw [two_lk C i j m hij, hmc] at h3
        rw [hmc]; exact h3
      unfold repPost ptr
      clear R e1 e2 e0
      by_cases h16 : 16 < c
      · have hstep := step 16 (by omega) (by omega)
        clear step
        go_enter Try.func25, Try.ntmps25
        go_wp2_with fail
        refine he.mono ?_
        rintro e w' ⟨rfl, rfl⟩
        go_wp2_with fail
        refine (unhide hstep).mono ?_
        rintro e w2 ⟨rfl, ch2, d0, d1, hcall⟩
        clear hstep
        go_wp2_with fail
        refine (unhide hcall).mono ?_
        rintro e w3 ⟨rfl, ch3, R3⟩
        have R3H := hide R3
        have chH := hide (ch2.trans ch3)
        clear R3 ch2 ch3 hcall
        go_wp2
        go_ret
        exact ⟨rfl, unhide chH, unhide R3H⟩
      · have hstep := step c (by omega) (by omega)
        clear step
        go_enter Try.func25, Try.ntmps25
        go_wp2_with fail
        refine he.mono ?_
        rintro e w' ⟨rfl, rfl⟩
        go_wp2_with fail
        refine (unhide hstep).mono ?_
        rintro e w2 ⟨rfl, ch2, d0, d1, hcall⟩
        clear hstep
        go_wp2_with fail
        refine (unhide hcall).mono ?_
        rintro e w3 ⟨rfl, ch3, R3⟩
        have R3H := hide R3
        have chH := hide (ch2.trans ch3)
        clear R3 ch2 ch3 hcall
        go_wp2
        go_ret
        exact ⟨rfl, unhide chH, unhide R3H⟩
  · have e1 : Hid (linkE a b c = endsP a b) := by show _ = _; simp [linkE, hne]
    have e2 : Hid (linkC C a b c = C) := by show _ = _; simp [linkC, unhide e1, hne]
    rw [unhide e1, unhide e2]
    unfold repPost ptr
    have z1 : (endsP a b != 0) = true := by simpa using hne
    have RH := hide R
    clear e1 e2 hne R
    generalize endsP a b = E at *
    go_enter Try.func25, Try.ntmps25
    go_wp2_with fail
    refine he.mono ?_
    rintro e w' ⟨rfl, rfl⟩
    go_wp2
    go_ret
    exact ⟨rfl, Chg.refl _ _, unhide RH⟩
end Go.Proofs.Qxb6500364a
