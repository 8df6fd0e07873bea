/-
  367 Keeps: the ghost in memory; Before, First, Insiders, Slack. (gen7gh.py)
-/
import Derived.Test.Qxb6500367aKCnt
import Derived.Test.Qxb6500367aQq
import Derived.Test.Qxb6500367aWire
import Derived.Test.Qxb6500367aSmallFns
import Derived.BigQuiet
namespace Go.Proofs.Qxb6500367a
open Go.RowKit Go.Qx
set_option linter.unusedSimpArgs false
set_option linter.unusedVariables false

def gcells (S : Nat → Nd) : Nat → List Value
  | 0 => []
  | k + 1 => gcells S k ++ [.int .i64 (S k).clock, .int .i64 (S k).phase, .int .i64 (S k).mine, .int .i64 (S k).acks]
theorem gcells_length (S : Nat → Nd) : ∀ k, (gcells S k).length = k * 4
  | 0 => rfl
  | k + 1 => by rw [gcells, List.length_append, gcells_length S k]; simp; omega
theorem gcells_get (S : Nat → Nd) (sp : List Value) : ∀ k j r, j < k → r < 4 → (gcells S k ++ sp)[j * 4 + r]? = [Value.int .i64 (S j).clock, .int .i64 (S j).phase, .int .i64 (S j).mine, .int .i64 (S j).acks][r]?
  | 0, j, r, hj, hr => by omega
  | k + 1, j, r, hj, hr => by
    rw [gcells, List.append_assoc]
    by_cases e : j = k
    · subst e
      rw [List.getElem?_append_right (by rw [gcells_length]; omega), gcells_length, show j * 4 + r - j * 4 = r by omega, List.getElem?_append_left (by simp; omega)]
    · exact gcells_get S _ k j r (by omega) hr
def mcells : List M4 → List Value
  | [] => []
  | m :: r => .int .i64 m.k :: .int .i64 m.f :: .int .i64 m.t :: .int .i64 m.c :: mcells r
theorem mcells_length : ∀ W, (mcells W).length = W.length * 4
  | [] => rfl
  | m :: r => by simp [mcells, mcells_length r]; omega
theorem mcells_append : ∀ a b, mcells (a ++ b) = mcells a ++ mcells b
  | [], b => rfl
  | m :: r, b => by simp [mcells, mcells_append r b]
theorem mcells_get : ∀ (W : List M4) (sp : List Value) (j r : Nat) (m : M4), W[j]? = some m → r < 4 → (mcells W ++ sp)[j * 4 + r]? = [Value.int .i64 m.k, .int .i64 m.f, .int .i64 m.t, .int .i64 m.c][r]?
  | [], sp, j, r, m, h, hr => by simp at h
  | x :: W, sp, 0, r, m, h, hr => by
    simp at h; subst h
    rw [show 0 * 4 + r = r by omega]
    rcases (by omega : r = 0 ∨ r = 1 ∨ r = 2 ∨ r = 3) with rfl | rfl | rfl | rfl <;> rfl
  | x :: W, sp, j + 1, r, m, h, hr => by
    have := mcells_get W sp j r m (by simpa using h) hr
    rw [show (j + 1) * 4 + r = (j * 4 + r) + 1 + 1 + 1 + 1 by omega]
    simpa [mcells] using this

/-- The ghost's three rows: nodes' pointers X, wire, minds. -/
structure GR (w : World) (g : Nat) (vX vW vG : Value) (n : Nat) (X : List Value) (W : List M4) (S : Nat → Nd) : Prop where
  blk : Blk w g 52 [vX, vW, vG]
  rX : Row w 25 1 vX n X
  rW : Row w 82 4 vW W.length (mcells W)
  rG : Row w 80 4 vG n (gcells S n)
  gx : vX.ownBlock ≠ some g
  gw : vW.ownBlock ≠ some g
  gg : vG.ownBlock ≠ some g
  xw : ∀ b, vX.ownBlock = some b → vW.ownBlock ≠ some b
  xg : ∀ b, vX.ownBlock = some b → vG.ownBlock ≠ some b
  wg : ∀ b, vW.ownBlock = some b → vG.ownBlock ≠ some b

def ownR (g : Nat) (vX vW vG : Value) (k : Nat) : Prop := k = g ∨ vX.ownBlock = some k ∨ vW.ownBlock = some k ∨ vG.ownBlock = some k

theorem GR.of_chg {T : Nat → Prop} {w w' : World} {g : Nat} {vX vW vG : Value} {n : Nat} {X : List Value} {W : List M4} {S : Nat → Nd} (h : GR w g vX vW vG n X W S) (c : Chg T w w') (hT : ∀ k, ownR g vX vW vG k → ¬ T k) : GR w' g vX vW vG n X W S :=
  { h with
    blk := c.blk h.blk (hT g (.inl rfl))
    rX := h.rX.of_chg c (fun b hb => hT b (.inr (.inl hb)))
    rW := h.rW.of_chg c (fun b hb => hT b (.inr (.inr (.inl hb))))
    rG := h.rG.of_chg c (fun b hb => hT b (.inr (.inr (.inr hb)))) }
theorem GR.quiet {w w' : World} {g : Nat} {vX vW vG : Value} {n : Nat} {X : List Value} {W : List M4} {S : Nat → Nd} (h : GR w g vX vW vG n X W S) (q : Quiet w w') : GR w' g vX vW vG n X W S := h.of_chg q (fun _ _ f => f)

/-- A mind's cells. -/
theorem GR.mind {w : World} {g : Nat} {vX vW vG : Value} {n : Nat} {X : List Value} {W : List M4} {S : Nat → Nd} (h : GR w g vX vW vG n X W S) {j : Nat} (hj : j < n) :
    ∃ gb cg, vG = .slice (some ⟨gb, 0, none⟩) n cg ∧ w.cell? ⟨gb, j * 4, none⟩ = some (.int .i64 (S j).clock) ∧ w.cell? ⟨gb, j * 4 + 1, none⟩ = some (.int .i64 (S j).phase) ∧ w.cell? ⟨gb, j * 4 + 2, none⟩ = some (.int .i64 (S j).mine) ∧ w.cell? ⟨gb, j * 4 + 3, none⟩ = some (.int .i64 (S j).acks) := by
  rcases h.rG.form with ⟨_, h0, _⟩ | ⟨gb, cg, sp, hv, hb, _⟩
  · omega
  · refine ⟨gb, cg, hv, ?_, ?_, ?_, ?_⟩
    · have := gcells_get S sp n j 0 hj (by omega)
      rw [Nat.add_zero] at this
      rw [hb.cell, this]; rfl
    · rw [hb.cell, gcells_get S sp n j 1 hj (by omega)]; rfl
    · rw [hb.cell, gcells_get S sp n j 2 hj (by omega)]; rfl
    · rw [hb.cell, gcells_get S sp n j 3 hj (by omega)]; rfl
/-- A message's cells. -/
theorem GR.post {w : World} {g : Nat} {vX vW vG : Value} {n : Nat} {X : List Value} {W : List M4} {S : Nat → Nd} (h : GR w g vX vW vG n X W S) {j : Nat} {m : M4} (hj : W[j]? = some m) :
    ∃ wb cw, vW = .slice (some ⟨wb, 0, none⟩) W.length cw ∧ w.cell? ⟨wb, j * 4, none⟩ = some (.int .i64 m.k) ∧ w.cell? ⟨wb, j * 4 + 1, none⟩ = some (.int .i64 m.f) ∧ w.cell? ⟨wb, j * 4 + 2, none⟩ = some (.int .i64 m.t) ∧ w.cell? ⟨wb, j * 4 + 3, none⟩ = some (.int .i64 m.c) := by
  have hl := (List.getElem?_eq_some_iff.1 hj).1
  rcases h.rW.form with ⟨_, h0, _⟩ | ⟨wb, cw, sp, hv, hb, _⟩
  · omega
  · refine ⟨wb, cw, hv, ?_, ?_, ?_, ?_⟩
    · have := mcells_get W sp j 0 m hj (by omega)
      rw [Nat.add_zero] at this
      rw [hb.cell, this]; rfl
    · rw [hb.cell, mcells_get W sp j 1 m hj (by omega)]; rfl
    · rw [hb.cell, mcells_get W sp j 2 m hj (by omega)]; rfl
    · rw [hb.cell, mcells_get W sp j 3 m hj (by omega)]; rfl

theorem beforeL_any (w : World) (a b c d : Int) : Calls Try.prog 54 #[.agg #[.int .i64 a, .int .i64 b], .agg #[.int .i64 c, .int .i64 d]] w fun e w' => e = .returned (.bool (beforeP (a, b) (c, d))) ∧ Quiet w w' := by
  by_cases h : a = c
  · subst h
    have e : beforeP (a, b) (a, d) = decide (b < d) := by simp [beforeP]
    have b1 : (a == a) = true := by simp
    rw [e]
    go_enter Try.func54, Try.ntmps54
    go_wp2
    go_ret
    exact ⟨rfl, ((Chg.refl _ _).alloc _).alloc _⟩
  · have e : beforeP (a, b) (c, d) = decide (a < c) := by simp [beforeP, h]
    have b1 : (a == c) = false := by simpa using h
    rw [e]
    go_enter Try.func54, Try.ntmps54
    go_wp2
    go_ret
    exact ⟨rfl, ((Chg.refl _ _).alloc _).alloc _⟩

set_option maxHeartbeats 8000000 in
set_option maxRecDepth 100000 in
theorem insiders_any (w : World) (g : Nat) (vX vW vG : Value) (n : Nat) (h4 : n ≤ 4) (X : List Value) (W : List M4) (S : Nat → Nd) (H : GR w g vX vW vG n X W S) :
    Calls Try.prog 55 #[ptr g] w fun e w' => e = .returned (.int .i64 (insTo (fun j => (S j).phase) n)) ∧ w' = w := by
  obtain ⟨ag, cg, rfl⟩ := H.rG.shape
  have c2 : w.cell? ⟨g, 2, none⟩ = some (.slice ag n cg) := H.blk.cell 2
  have hgl := H.blk.lt
  have HH := hide H
  clear H
  have hb : Hid (∀ k, 0 ≤ insTo (fun j => (S j).phase) k ∧ insTo (fun j => (S j).phase) k ≤ k) := fun k => by
    induction k with
    | zero => exact ⟨Int.le_refl _, Int.le_refl _⟩
    | succ k ih => rw [insTo]; split <;> (push_cast; omega)
  unfold ptr
  go_enter Try.func55, Try.ntmps55
  go_wp2
  go_loopw [3, 4] (fun c i wr => ∃ k : Nat, k ≤ n ∧ i = .int .i64 k ∧ c = .int .i64 (insTo (fun j => (S j).phase) k) ∧ wr = w) (fun _ i _ => 5 - (intOf i).toNat)
  case atStart => exact ⟨0, Nat.zero_le _, rfl, rfl, rfl⟩
  case round =>
    obtain ⟨k, hk, rfl, rfl, rfl⟩ := hrel
    have i0 : (0 : Int) ≤ (k : Int) := by omega
    by_cases hlt : k < n
    · have i1 : (k : Int) < (n : Int) := by omega
      obtain ⟨gb, cg', hv, m0, m1, m2, m3⟩ := (unhide HH).mind hlt
      injection hv with e1 e2 e3
      subst e1 e3
      have hk2 := unhide hb k
      have hnx : Hid (insTo (fun j => (S j).phase) (k + 1) = insTo (fun j => (S j).phase) k + (if (S k).phase = 2 then 1 else 0)) := by show _ = _; rfl
      generalize insTo (fun j => (S j).phase) k = c at *
      generalize (S k).phase = p at *
      by_cases hp : p = 2
      · have b1 : (p == 2) = true := by simpa using hp
        have hnx2 : Hid (insTo (fun j => (S j).phase) (k + 1) = c + 1) := by show _ = _; rw [unhide hnx, if_pos hp]
        have w1 : IntKind.i64.wrap (c + 1) = c + 1 := by rw [IntKind.wrap_i64]; omega
        clear hp
        go_wp2
        go_roundw
        case rel => first | exact ⟨k + 1, by omega, by go_num, by rw [unhide hnx2], rfl⟩ | exact ⟨k + 1, by omega, by go_num, by rw [unhide hnx2], trivial⟩ | exact ⟨k + 1, by omega, by go_num, by rw [unhide hnx2]⟩
        case measure => simp [intOf]; omega
      · have b1 : (p == 2) = false := by simpa using hp
        have hnx2 : Hid (insTo (fun j => (S j).phase) (k + 1) = c) := by show _ = _; rw [unhide hnx, if_neg hp]; omega
        clear hp
        go_wp2
        go_roundw
        case rel => first | exact ⟨k + 1, by omega, by go_num, by rw [unhide hnx2], rfl⟩ | exact ⟨k + 1, by omega, by go_num, by rw [unhide hnx2], trivial⟩ | exact ⟨k + 1, by omega, by go_num, by rw [unhide hnx2]⟩
        case measure => simp [intOf]; omega
    · have i1 : ¬ (k : Int) < (n : Int) := by omega
      have hkn : k = n := by omega
      subst hkn
      go_wp2
      go_ret
      exact ⟨rfl, rfl⟩
end Go.Proofs.Qxb6500367a
