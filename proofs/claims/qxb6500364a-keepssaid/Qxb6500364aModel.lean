/-
  THE ABSTRACT MESH: how it lies in memory; live, Link, Unlink.
-/
import Derived.Test.Qxb6500364aDeliver
import Derived.Test.Qxb6500364aShow
namespace Go.Proofs.Qxb6500364a
open Go.RowKit Go.Qx
set_option linter.unusedVariables false
set_option linter.unusedSimpArgs false

def ear (h : Nat → Int) : ByteArray := str (earTo h 5)

def grid {α : Type} (f : α → Value) (C : Nat → Nat → α) : List Value := (List.range 25).map fun i => f (C (i / 5) (i % 5))

theorem grid_length {α : Type} (f : α → Value) (C : Nat → Nat → α) : (grid f C).length = 25 := by simp [grid]

theorem grid_at {α : Type} (f : α → Value) (C : Nat → Nat → α) (i : Nat) (hi : i < 25) : (grid f C)[i]? = some (f (C (i / 5) (i % 5))) := by
  unfold grid
  rw [List.getElem?_map, List.getElem?_range hi]; rfl

theorem grid_get {α : Type} (f : α → Value) (C : Nat → Nat → α) (a b : Nat) (ha : a < 5) (hb : b < 5) : (grid f C)[a * 5 + b]? = some (f (C a b)) := by
  rw [grid_at f C _ (by omega), show (a * 5 + b) / 5 = a by omega, show (a * 5 + b) % 5 = b by omega]

theorem grid_set {α : Type} (f : α → Value) (C : Nat → Nat → α) (a b : Nat) (ha : a < 5) (hb : b < 5) (v : α) : (grid f C).set (a * 5 + b) (f v) = grid f (upd C a (upd (C a) b v)) := by
  refine List.ext_getElem? ?_
  intro i
  rw [List.getElem?_set]
  by_cases e : a * 5 + b = i
  · subst e
    rw [if_pos rfl, if_pos (by rw [grid_length]; omega), grid_get f _ a b ha hb]
    simp [upd]
  · rw [if_neg e]
    by_cases hi : i < 25
    · rw [grid_at f _ i hi, grid_at f _ i hi]
      congr 2
      unfold upd
      by_cases e1 : i / 5 = a
      · rw [if_pos e1, if_neg (by omega), e1]
      · rw [if_neg e1]
    · rw [List.getElem?_eq_none (by rw [grid_length]; omega), List.getElem?_eq_none (by rw [grid_length]; omega)]

def iv (v : Int) : Value := .int .i64 v
def sv (h : Nat → Int) : Value := .string (ear h)

theorem grid_congr {α : Type} (f : α → Value) {C C' : Nat → Nat → α} (h : ∀ a b, a < 5 → b < 5 → f (C a b) = f (C' a b)) : grid f C = grid f C' := by
  unfold grid
  refine List.map_congr_left ?_
  intro i hi
  rw [List.mem_range] at hi
  exact h _ _ (by omega) (by omega)

/-- The abstract mesh at m. -/
structure RepM (w : World) (m p q : Nat) (C : Nat → Nat → Int) (H : Nat → Nat → Nat → Int) : Prop where
  blk : Blk w m 72 [.slice (some ⟨p, 0, none⟩) 25 25, .slice (some ⟨q, 0, none⟩) 25 25]
  cb : Blk w p 3 (grid iv C)
  hb : Blk w q 9 (grid sv H)
  mp : m ≠ p
  mq : m ≠ q
  pq : p ≠ q

def ownM (m p q k : Nat) : Prop := k = m ∨ k = p ∨ k = q

theorem RepM.of_chg {S : Nat → Prop} {w w' : World} {m p q : Nat} {C : Nat → Nat → Int} {H : Nat → Nat → Nat → Int} (h : RepM w m p q C H) (c : Chg S w w') (hS : ∀ k, S k → ¬ ownM m p q k) : RepM w' m p q C H :=
  { h with blk := c.blk h.blk (fun k => hS _ k (.inl rfl)), cb := c.blk h.cb (fun k => hS _ k (.inr (.inl rfl))), hb := c.blk h.hb (fun k => hS _ k (.inr (.inr rfl))) }

theorem RepM.quiet {w w' : World} {m p q : Nat} {C : Nat → Nat → Int} {H : Nat → Nat → Nat → Int} (h : RepM w m p q C H) (c : Quiet w w') : RepM w' m p q C H := h.of_chg c (fun _ f => f.elim)

theorem RepM.lts {w : World} {m p q : Nat} {C : Nat → Nat → Int} {H : Nat → Nat → Nat → Int} (h : RepM w m p q C H) : ∀ k, ownM m p q k → k < w.heap.size := by
  rintro k (rfl | rfl | rfl)
  · exact h.blk.lt
  · exact h.cb.lt
  · exact h.hb.lt

def repMPost (w : World) (m p q : Nat) (E : Int) (C : Nat → Nat → Int) (H : Nat → Nat → Nat → Int) (e : Ending) (w' : World) : Prop := e = .returned (.int .i64 E) ∧ Chg (ownM m p q) w w' ∧ RepM w' m p q C H

theorem mlive_any (w : World) (m p q : Nat) (C : Nat → Nat → Int) (H : Nat → Nat → Nat → Int) (R : RepM w m p q C H) (a b : Int) :
    Calls Try.prog 45 #[ptr m, .int .i64 a, .int .i64 b] w fun e w' => e = .returned (.int .i64 (liveP C a b)) ∧ w' = w := by
  have he := ends_any w a b
  have c0 := R.blk.cell 0
  simp at c0
  rcases ends_cases a b with ⟨i, j, rfl, rfl, hi, hj, hij, e0⟩ | ⟨hne, _⟩
  · have hl : Hid (liveP C i j = if C i j = 0 then 4 else 0) := by show _ = _; simp [liveP, e0]
    rw [e0] at he
    rw [unhide hl]
    have cc : w.cell? ⟨p, i * 5 + j, none⟩ = some (.int .i64 (C i j)) := (R.cb.cell _).trans (grid_get iv C i j hi hj)
    have i0 : (0 : Int) ≤ (i : Int) := by omega
    have i1 : (i : Int) < 5 := by omega
    have j0 : (0 : Int) ≤ (j : Int) := by omega
    have j1 : (j : Int) < 5 := by omega
    have ix1 : (0 : Int) ≤ (i : Int) * 5 + (j : Int) := by omega
    have ix2 : (i : Int) * 5 + (j : Int) < 25 := by omega
    have wr1 : IntKind.i64.wrap ((i : Int) * 5) = (i : Int) * 5 := by rw [IntKind.wrap_i64]; omega
    have wr2 : IntKind.i64.wrap ((i : Int) * 5 + (j : Int)) = (i : Int) * 5 + (j : Int) := by rw [IntKind.wrap_i64]; omega
    have tn : ((i : Int) * 5 + (j : Int)).toNat = i * 5 + j := by omega
    unfold ptr at *
    generalize C i j = cij at *
    clear hl e0 R
    by_cases hz : cij = 0
    · subst hz
      rw [if_pos rfl]
      go_enter Try.func45, Try.ntmps45
      go_wp2_with fail
      refine he.mono ?_
      rintro e w' ⟨rfl, rfl⟩
      go_wp2
      go_ret
      exact ⟨rfl, rfl⟩
    · rw [if_neg hz]
      have z1 : (cij == 0) = false := by simpa using hz
      go_enter Try.func45, Try.ntmps45
      go_wp2_with fail
      refine he.mono ?_
      rintro e w' ⟨rfl, rfl⟩
      go_wp2
      go_ret
      exact ⟨rfl, rfl⟩
  · have hl : Hid (liveP C a b = endsP a b) := by show _ = _; simp [liveP, hne]
    rw [unhide hl]
    have z1 : (endsP a b == 0) = false := by simpa using hne
    clear hl hne
    unfold ptr
    generalize endsP a b = E at *
    go_enter Try.func45, Try.ntmps45
    go_wp2_with fail
    refine he.mono ?_
    rintro e w' ⟨rfl, rfl⟩
    go_wp2
    go_ret
    exact ⟨rfl, rfl⟩

theorem grid_lk (C : Nat → Nat → Int) (a b : Nat) (ha : a < 5) (hb : b < 5) (hab : a ≠ b) (c : Int) : ((grid iv C).set (a * 5 + b) (.int .i64 c)).set (b * 5 + a) (.int .i64 c) = grid iv (lk C a b c) := by
  have h1 := grid_set iv C a b ha hb c
  have h2 := grid_set iv (upd C a (upd (C a) b c)) b a hb ha c
  rw [two_lk C a b c hab] at h2
  rw [← h2, ← h1]; rfl

theorem grid_lkH (H : Nat → Nat → Nat → Int) (a b : Nat) (ha : a < 5) (hb : b < 5) (hab : a ≠ b) (v : Nat → Int) : ((grid sv H).set (a * 5 + b) (sv v)).set (b * 5 + a) (sv v) = grid sv (lk H a b v) := by
  rw [grid_set sv H a b ha hb v, grid_set sv _ b a hb ha v, two_lkH H a b v hab]

set_option maxHeartbeats 2000000 in
theorem mlink_any (w : World) (m p q : Nat) (C : Nat → Nat → Int) (H : Nat → Nat → Nat → Int) (R : RepM w m p q C H) (a b c : Int) : Calls Try.prog 33 #[ptr m, .int .i64 a, .int .i64 b, .int .i64 c] w (repMPost w m p q (linkE a b c) (linkC C a b c) H) := by
  have he := ends_any w a b
  rcases ends_cases a b with ⟨i, j, rfl, rfl, hi, hj, hij, e0⟩ | ⟨hne, _⟩
  · rw [e0] at he
    by_cases hc : c < 1
    · have e1 : Hid (linkE i j c = 3) := by show _ = _; simp [linkE, e0, hc]
      have e2 : Hid (linkC C i j c = C) := by show _ = _; simp [linkC, unhide e1]
      rw [unhide e1, unhide e2]
      unfold repMPost ptr
      have RH := hide R
      clear e1 e2 R
      go_enter Try.func33, Try.ntmps33
      go_wp2_with fail
      refine he.mono ?_
      rintro e w' ⟨rfl, rfl⟩
      go_wp2
      go_ret
      exact ⟨rfl, Chg.refl _ _, unhide RH⟩
    · have e1 : Hid (linkE i j c = 0) := by show _ = _; simp [linkE, e0, hc]
      have e2 : Hid (linkC C i j c = lk C i j (min c 16)) := by show _ = _; simp [linkC, unhide e1]
      rw [unhide e1, unhide e2]
      have c0 := R.blk.cell 0
      simp at c0
      have cc : w.cell? ⟨p, i * 5 + j, none⟩ = some (.int .i64 (C i j)) := (R.cb.cell _).trans (grid_get iv C i j hi hj)
      have cc2 : w.cell? ⟨p, j * 5 + i, none⟩ = some (.int .i64 (C j i)) := (R.cb.cell _).trans (grid_get iv C j i hj hi)
      have fc := R.cb.frozen (i * 5 + j)
      have fc2 := R.cb.frozen (j * 5 + i)
      have mp := R.mp
      have pm := Ne.symm mp
      have i0 : (0 : Int) ≤ (i : Int) := by omega
      have i1 : (i : Int) < 5 := by omega
      have j0 : (0 : Int) ≤ (j : Int) := by omega
      have j1 : (j : Int) < 5 := by omega
      have ix1 : (0 : Int) ≤ (i : Int) * 5 + (j : Int) := by omega
      have ix2 : (i : Int) * 5 + (j : Int) < 25 := by omega
      have wr1 : IntKind.i64.wrap ((i : Int) * 5) = (i : Int) * 5 := by rw [IntKind.wrap_i64]; omega
      have wr2 : IntKind.i64.wrap ((i : Int) * 5 + (j : Int)) = (i : Int) * 5 + (j : Int) := by rw [IntKind.wrap_i64]; omega
      have tn : ((i : Int) * 5 + (j : Int)).toNat = i * 5 + j := by omega
      have jx1 : (0 : Int) ≤ (j : Int) * 5 + (i : Int) := by omega
      have jx2 : (j : Int) * 5 + (i : Int) < 25 := by omega
      have wr3 : IntKind.i64.wrap ((j : Int) * 5) = (j : Int) * 5 := by rw [IntKind.wrap_i64]; omega
      have wr4 : IntKind.i64.wrap ((j : Int) * 5 + (i : Int)) = (j : Int) * 5 + (i : Int) := by rw [IntKind.wrap_i64]; omega
      have tn2 : ((j : Int) * 5 + (i : Int)).toNat = j * 5 + i := by omega
      have nij : i * 5 + j ≠ j * 5 + i := by omega
      have nji : j * 5 + i ≠ i * 5 + j := by omega
      have fin : Hid (∀ c' V, c' = min c 16 → Quiet w V → Chg (ownM m p q) w ((V.setCell ⟨p, i * 5 + j, none⟩ (.int .i64 c')).setCell ⟨p, j * 5 + i, none⟩ (.int .i64 c')) ∧ RepM ((V.setCell ⟨p, i * 5 + j, none⟩ (.int .i64 c')).setCell ⟨p, j * 5 + i, none⟩ (.int .i64 c')) m p q (lk C i j (min c 16)) H) := by
        intro c' V hc' qq
        refine ⟨((qq.chg (ownM m p q)).setCell (p := ⟨p, i * 5 + j, none⟩) (.inl (.inr (.inl rfl))) _).setCell (p := ⟨p, j * 5 + i, none⟩) (.inl (.inr (.inl rfl))) _, ((qq.blk R.blk).set_other (a := ⟨p, i * 5 + j, none⟩) mp _).set_other (a := ⟨p, j * 5 + i, none⟩) mp _, ?_, ((qq.blk R.hb).set_other (a := ⟨p, i * 5 + j, none⟩) (Ne.symm R.pq) _).set_other (a := ⟨p, j * 5 + i, none⟩) (Ne.symm R.pq) _, R.mp, R.mq, R.pq⟩
        have h1 := ((qq.blk R.cb).set (i * 5 + j) (.int .i64 c')).set (j * 5 + i) (.int .i64 c')
        rw [grid_lk C i j hi hj hij c', hc'] at h1
        rw [hc']; exact h1
      unfold repMPost ptr
      clear R e1 e2 e0
      by_cases h16 : 16 < c
      · go_enter Try.func33, Try.ntmps33
        go_wp2_with fail
        refine he.mono ?_
        rintro e w' ⟨rfl, rfl⟩
        go_wp2
        go_region_held3 (fun W => W.cell? ⟨m, 0, none⟩ = some (.slice (some ⟨p, 0, none⟩) 25 25)) (go_keep) (fail)
        rename_i hHeld
        clear hHeld
        obtain ⟨y1, y2⟩ := unhide fin 16 w' (by omega) (Chg.refl _ _)
        have yH := hide (And.intro y1.drew (y2.quiet ((Chg.refl _ _).drew)))
        clear y1 y2 fin
        go_wp2
        go_ret
        exact ⟨rfl, (unhide yH).1, (unhide yH).2⟩
      · go_enter Try.func33, Try.ntmps33
        go_wp2_with fail
        refine he.mono ?_
        rintro e w' ⟨rfl, rfl⟩
        go_wp2
        go_region_held3 (fun W => W.cell? ⟨m, 0, none⟩ = some (.slice (some ⟨p, 0, none⟩) 25 25)) (go_keep) (fail)
        rename_i hHeld
        clear hHeld
        obtain ⟨y1, y2⟩ := unhide fin c w' (by omega) (Chg.refl _ _)
        have yH := hide (And.intro y1.drew (y2.quiet ((Chg.refl _ _).drew)))
        clear y1 y2 fin
        go_wp2
        go_ret
        exact ⟨rfl, (unhide yH).1, (unhide yH).2⟩
  · have e1 : Hid (linkE a b c = endsP a b) := by show _ = _; simp [linkE, hne]
    have e2 : Hid (linkC C a b c = C) := by show _ = _; simp [linkC, unhide e1, hne]
    rw [unhide e1, unhide e2]
    unfold repMPost ptr
    have z1 : (endsP a b != 0) = true := by simpa using hne
    have RH := hide R
    clear e1 e2 hne R
    generalize endsP a b = E at *
    go_enter Try.func33, Try.ntmps33
    go_wp2_with fail
    refine he.mono ?_
    rintro e w' ⟨rfl, rfl⟩
    go_wp2
    go_ret
    exact ⟨rfl, Chg.refl _ _, unhide RH⟩
end Go.Proofs.Qxb6500364a
