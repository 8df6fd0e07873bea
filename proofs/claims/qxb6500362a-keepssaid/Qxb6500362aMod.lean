/-
  THE MODEL'S BENCH: how it lies in memory; New, turn, put, Set, Get, Conj.
-/
import Derived.Test.Qxb6500362aPlayR
namespace Go.Proofs.Qxb6500362a
open Go.RowKit Go.Qx
set_option linter.unusedVariables false
set_option linter.unusedSimpArgs false

def rowI (f : Nat → Int) : List Value := [.int .i64 (f 0), .int .i64 (f 1), .int .i64 (f 2), .int .i64 (f 3)]

theorem rowI_get (f : Nat → Int) (k : Nat) (hk : k < 4) : (rowI f)[k]? = some (.int .i64 (f k)) := by
  have : k = 0 ∨ k = 1 ∨ k = 2 ∨ k = 3 := by omega
  rcases this with rfl | rfl | rfl | rfl <;> rfl

theorem rowI_set (f : Nat → Int) (k : Nat) (hk : k < 4) (x : Int) : (rowI f).set k (.int .i64 x) = rowI (upd f k x) := by
  have : k = 0 ∨ k = 1 ∨ k = 2 ∨ k = 3 := by omega
  rcases this with rfl | rfl | rfl | rfl <;> rfl

/-- The model's bench at m: its two rows at p and q. -/
structure RepM (w : World) (m p q : Nat) (re im : Nat → Int) : Prop where
  blk : Blk w m 79 [.slice (some ⟨p, 0, none⟩) 4 4, .slice (some ⟨q, 0, none⟩) 4 4]
  rowR : Blk w p 3 (rowI re)
  rowM : Blk w q 3 (rowI im)
  mp : m ≠ p
  mq : m ≠ q
  pq : p ≠ q

def ownM (m p q k : Nat) : Prop := k = m ∨ k = p ∨ k = q

theorem RepM.of_chg {S : Nat → Prop} {w w' : World} {m p q : Nat} {re im : Nat → Int} (h : RepM w m p q re im) (c : Chg S w w') (hS : ∀ k, S k → ¬ ownM m p q k) : RepM w' m p q re im :=
  ⟨c.blk h.blk (fun k => hS _ k (.inl rfl)), c.blk h.rowR (fun k => hS _ k (.inr (.inl rfl))), c.blk h.rowM (fun k => hS _ k (.inr (.inr rfl))), h.mp, h.mq, h.pq⟩

theorem RepM.quiet {w w' : World} {m p q : Nat} {re im : Nat → Int} (h : RepM w m p q re im) (c : Quiet w w') : RepM w' m p q re im := h.of_chg c (fun _ f => f.elim)

theorem RepM.lts {w : World} {m p q : Nat} {re im : Nat → Int} (h : RepM w m p q re im) : ∀ k, ownM m p q k → k < w.heap.size := by
  rintro k (rfl | rfl | rfl)
  · exact h.blk.lt
  · exact h.rowR.lt
  · exact h.rowM.lt

/-- Both parts stored. -/
theorem RepM.set {w : World} {m p q : Nat} {re im : Nat → Int} (h : RepM w m p q re im) (i : Nat) (hi : i < 4) (a b : Int) : RepM ((w.setCell ⟨p, i, none⟩ (.int .i64 a)).setCell ⟨q, i, none⟩ (.int .i64 b)) m p q (upd re i a) (upd im i b) := by
  refine ⟨(h.blk.set_other (a := ⟨p, i, none⟩) h.mp _).set_other (a := ⟨q, i, none⟩) h.mq _, ?_, ?_, h.mp, h.mq, h.pq⟩
  · have h3 := h.rowR.set i (.int .i64 a)
    rw [rowI_set re i hi] at h3
    exact h3.set_other (a := ⟨q, i, none⟩) h.pq _
  · have h3 := (h.rowM.set_other (a := ⟨p, i, none⟩) (Ne.symm h.pq) (.int .i64 a)).set i (.int .i64 b)
    rw [rowI_set im i hi] at h3
    exact h3

theorem RepM.setM {w : World} {m p q : Nat} {re im : Nat → Int} (h : RepM w m p q re im) (i : Nat) (hi : i < 4) (b : Int) : RepM (w.setCell ⟨q, i, none⟩ (.int .i64 b)) m p q re (upd im i b) := by
  refine ⟨h.blk.set_other (a := ⟨q, i, none⟩) h.mq _, h.rowR.set_other (a := ⟨q, i, none⟩) h.pq _, ?_, h.mp, h.mq, h.pq⟩
  have h3 := h.rowM.set i (.int .i64 b)
  rw [rowI_set im i hi] at h3
  exact h3

theorem info3 : (Try.prog.info? 3).map (fun i => (i.zero, i.size, i.bytes)) = some (some (.int .i64 0), 1, 8) := by kernel_rfl
theorem made3 : madeCells (Value.int .i64 0).cells (4 * 1) = (rowI (fun _ => 0)).toArray := by kernel_rfl

theorem make77 (W : World) : (Instr.makeSlice 77 (.int .i64 4) (.int .i64 4)).run Try.prog W = .ok (.slice (some ⟨W.heap.size, 0, none⟩) 4 4) (W.alloc (.cells (rowI (fun _ => 0)).toArray 3)) := by
  obtain ⟨i, hi, hz0, hz1, hz2⟩ := info_parts info3
  have := run_make (P := Try.prog) W 77 3 i _ Try.underlying77 hi hz0 .i64 .i64 4 4 (by omega) (by omega) (by rw [hz2]; omega) (by omega)
  rw [hz1] at this
  rw [this]
  exact congrArg (fun x => Result.ok _ (W.alloc (.cells x 3))) made3

def newMPost (w : World) (e : Ending) (w' : World) : Prop := ∃ m p q, e = .returned (.pointer (some ⟨m, 0, none⟩)) ∧ Quiet w w' ∧ (∀ k, ownM m p q k → w.heap.size ≤ k) ∧ RepM w' m p q (fun _ => 0) (fun _ => 0)

def repPostM (w : World) (m p q : Nat) (E : Int) (re im : Nat → Int) (e : Ending) (w' : World) : Prop := e = .returned (.int .i64 E) ∧ Chg (ownM m p q) w w' ∧ RepM w' m p q re im

theorem mnew_any (w : World) : Calls Try.prog 41 #[] w (newMPost w) := by
  have hm := make77
  generalize hF : (rowI (fun _ => 0)).toArray = F at hm
  have hFH := hide hF
  clear hF
  go_enter Try.func41, Try.ntmps41
  go_wp2
  go_region
  all_goals
    go_wp2
    go_ret
    have hF := unhide hFH
    subst hF
    first
      | (refine ⟨w.heap.size + 2, w.heap.size, w.heap.size + 1, rfl, (((Chg.refl _ _).drew.alloc _).alloc _).alloc _, ?_, Blk.at_new (cs := [.slice (some ⟨w.heap.size, 0, none⟩) 4 4, .slice (some ⟨w.heap.size + 1, 0, none⟩) 4 4]) (by simp), ?_, ?_, by omega, by omega, by omega⟩
         · rintro k (rfl | rfl | rfl) <;> omega
         · exact ((Blk.new w.drew 3 _).alloc _).alloc _
         · exact (Blk.at_new (by simp)).alloc _)
      | (refine ⟨w.heap.size + 2, w.heap.size + 1, w.heap.size, rfl, (((Chg.refl _ _).drew.alloc _).alloc _).alloc _, ?_, Blk.at_new (cs := [.slice (some ⟨w.heap.size + 1, 0, none⟩) 4 4, .slice (some ⟨w.heap.size, 0, none⟩) 4 4]) (by simp), ?_, ?_, by omega, by omega, by omega⟩
         · rintro k (rfl | rfl | rfl) <;> omega
         · exact (Blk.at_new (by simp)).alloc _
         · exact ((Blk.new w.drew 3 _).alloc _).alloc _)

theorem turn_any (w : World) (x y k : Int) (hx : x.natAbs ≤ 1152921504606846976) (hy : y.natAbs ≤ 1152921504606846976) : Calls Try.prog 68 #[.int .i64 x, .int .i64 y, .int .i64 k] w fun e w' => e = .returned (.tuple #[.int .i64 (x * uR k - y * uI k), .int .i64 (x * uI k + y * uR k)]) ∧ w' = w := by
  have nx : wrap64 (-x) = -x := by unfold wrap64; omega
  have ny : wrap64 (-y) = -y := by unfold wrap64; omega
  by_cases h1 : k = 1
  · subst h1
    rw [show x * uR 1 - y * uI 1 = -y by simp [uR, uI], show x * uI 1 + y * uR 1 = x by simp [uR, uI]]
    go_enter Try.func68, Try.ntmps68
    go_wp2
    go_ret2
    exact ⟨rfl, rfl⟩
  by_cases h2 : k = 2
  · subst h2
    rw [show x * uR 2 - y * uI 2 = -x by simp [uR, uI], show x * uI 2 + y * uR 2 = -y by simp [uR, uI]]
    go_enter Try.func68, Try.ntmps68
    go_wp2
    go_ret2
    exact ⟨rfl, rfl⟩
  by_cases h3 : k = 3
  · subst h3
    rw [show x * uR 3 - y * uI 3 = y by simp [uR, uI], show x * uI 3 + y * uR 3 = -x by simp [uR, uI]]
    go_enter Try.func68, Try.ntmps68
    go_wp2
    go_ret2
    exact ⟨rfl, rfl⟩
  · rw [show x * uR k - y * uI k = x by simp [uR, uI, h1, h2, h3], show x * uI k + y * uR k = y by simp [uR, uI, h1, h2, h3]]
    have b1 : (k == 1) = false := by simpa using h1
    have b2 : (k == 2) = false := by simpa using h2
    have b3 : (k == 3) = false := by simpa using h3
    go_enter Try.func68, Try.ntmps68
    go_wp2
    go_ret2
    exact ⟨rfl, rfl⟩

set_option maxHeartbeats 1000000 in
theorem mput_any (w : World) (m p q : Nat) (re im : Nat → Int) (R : RepM w m p q re im) (i : Nat) (hi : i < 4) (n k : Int) :
    Calls Try.prog 67 #[ptr m, .int .i64 i, .int .i64 n, .int .i64 k] w (repPostM w m p q (putE n k) (putF re i n k n) (putF im i n k k)) := by
  have hf := fits_any w n k 67108864 (by omega)
  have c0 := R.blk.cell 0
  have c1 := R.blk.cell 1
  simp at c0 c1
  have f1 := R.rowR.frozen
  have f2 := R.rowM.frozen
  have r1 := (R.rowR.cell i).trans (rowI_get re i hi)
  have r2 := (R.rowM.cell i).trans (rowI_get im i hi)
  have npq := R.pq
  have nmp := R.mp
  have nmq := R.mq
  have i0 : (0 : Int) ≤ (i : Int) := by omega
  have i1 : (i : Int) < 4 := by omega
  have RH := hide R
  clear R
  unfold repPostM ptr
  by_cases h : inP n k 67108864 = true
  · rw [show putE n k = 0 by simp [putE, h], show putF re i n k n = upd re i n by simp [putF, h], show putF im i n k k = upd im i k by simp [putF, h]]
    rw [h] at hf
    clear h
    go_enter Try.func67, Try.ntmps67
    go_wp2_with fail
    refine hf.mono ?_
    rintro e w' ⟨rfl, rfl⟩
    go_wp2
    go_region
    all_goals
      go_wp2
      go_ret
      refine ⟨rfl, ?_, ((unhide RH).quiet ((Chg.refl _ _).drew)).set i hi n k⟩
      exact (((Chg.refl (ownM m p q) w').drew).setCell (.inl (.inr (.inl rfl))) _).setCell (.inl (.inr (.inr rfl))) _
  · rw [show putE n k = 2 by simp [putE, h], show putF re i n k n = re by simp [putF, h], show putF im i n k k = im by simp [putF, h]]
    rw [show inP n k 67108864 = false by simpa using h] at hf
    clear h
    go_enter Try.func67, Try.ntmps67
    go_wp2_with fail
    refine hf.mono ?_
    rintro e w' ⟨rfl, rfl⟩
    go_wp2
    go_ret
    exact ⟨rfl, Chg.refl _ _, unhide RH⟩

theorem mset_any (w : World) (m p q : Nat) (re im : Nat → Int) (R : RepM w m p q re im) (i n k : Int) : Calls Try.prog 55 #[ptr m, .int .i64 i, .int .i64 n, .int .i64 k] w (repPostM w m p q (setE i n k) (setF re i n k n) (setF im i n k k)) := by
  have hc := cells_any w i i
  rcases cells_cases i i with ⟨l, l', rfl, hl', hl, _, e0⟩ | e0
  · have hp := mput_any w m p q re im R l hl n k
    rw [e0] at hc
    rw [show setE l n k = putE n k by simp [setE, e0], show setF re l n k n = putF re l n k n by simp [setF, e0], show setF im l n k k = putF im l n k k by simp [setF, e0]]
    unfold repPostM ptr at hp ⊢
    clear e0 hl'
    go_enter Try.func55, Try.ntmps55
    go_wp2_with fail
    refine hc.mono ?_
    rintro e w' ⟨rfl, rfl⟩
    go_wp2_with fail
    refine hp.mono ?_
    rintro e w' ⟨rfl, h2, h3⟩
    go_wp2
    go_ret
    exact ⟨rfl, h2, h3⟩
  · rw [e0] at hc
    rw [show setE i n k = 1 by simp [setE, e0], show setF re i n k n = re by simp [setF, e0], show setF im i n k k = im by simp [setF, e0]]
    have RH := hide R
    clear R e0
    unfold repPostM ptr
    go_enter Try.func55, Try.ntmps55
    go_wp2_with fail
    refine hc.mono ?_
    rintro e w' ⟨rfl, rfl⟩
    go_wp2
    go_ret
    exact ⟨rfl, Chg.refl _ _, unhide RH⟩

set_option maxHeartbeats 1000000 in
theorem mget_any (w : World) (m p q : Nat) (re im : Nat → Int) (R : RepM w m p q re im) (i : Int) : Calls Try.prog 56 #[ptr m, .int .i64 i] w fun e w' => e = .returned (.tuple #[.int .i64 (getP re im i).1, .int .i64 (getP re im i).2.1, .int .i64 (getP re im i).2.2]) ∧ Quiet w w' := by
  have hc := cells_any w i i
  rcases cells_cases i i with ⟨k, k', rfl, hk', hk, _, e0⟩ | e0
  · have e1 : Hid (getP re im k = (re k, im k, 0)) := by show _ = _; simp [getP, e0]
    rw [e0] at hc
    rw [unhide e1]
    have c0 := R.blk.cell 0
    have c1 := R.blk.cell 1
    simp at c0 c1
    have r1 := (R.rowR.cell k).trans (rowI_get re k hk)
    have r2 := (R.rowM.cell k).trans (rowI_get im k hk)
    have i0 : (0 : Int) ≤ (k : Int) := by omega
    have i1 : (k : Int) < 4 := by omega
    generalize re k = rk at *
    generalize im k = ik at *
    unfold ptr
    clear e1 e0 hk' R
    go_enter Try.func56, Try.ntmps56
    go_wp2_with fail
    refine hc.mono ?_
    rintro e w' ⟨rfl, rfl⟩
    go_wp2
    go_quiet (fail)
    go_wp2
    go_ret3
    exact ⟨rfl, (Chg.refl _ _).drewN _⟩
  · have e1 : Hid (getP re im i = (0, 0, 1)) := by show _ = _; simp [getP, e0]
    rw [e0] at hc
    rw [unhide e1]
    unfold ptr
    clear e1 e0 R
    go_enter Try.func56, Try.ntmps56
    go_wp2_with fail
    refine hc.mono ?_
    rintro e w' ⟨rfl, rfl⟩
    go_wp2
    go_ret3
    exact ⟨rfl, Chg.refl _ _⟩
end Go.Proofs.Qxb6500362a
