/-
  THE BOOK: Turn. (gen64turn.py)
-/
import Derived.Test.Qxb6500364aKFoot
import Derived.Test.Qxb6500364aDelM
import Derived.BigQuiet
namespace Go.Proofs.Qxb6500364a
open Go.RowKit Go.Qx
set_option linter.unusedVariables false
set_option linter.unusedSimpArgs false

def opW (w : World) (k a b c : Int) (s t : ByteArray) : World := w.alloc (.cells #[.int .i64 k, .int .i64 a, .int .i64 b, .int .i64 c, .string s, .string t] 32)
theorem opW_quiet (w : World) (k a b c : Int) (s t : ByteArray) : Quiet w (opW w k a b c s t) := (Chg.refl _ _).alloc _
theorem opW_op (w : World) (k a b c : Int) (s t : ByteArray) : Blk (opW w k a b c s t) w.heap.size 32 [.int .i64 k, .int .i64 a, .int .i64 b, .int .i64 c, .string s, .string t] := Blk.new w 32 [.int .i64 k, .int .i64 a, .int .i64 b, .int .i64 c, .string s, .string t]

/-- The marks, k of them wiped. -/
def wipeTo (k : Nat) (M : Nat → Nat → Bool) : Nat → Nat → Bool := fun a b => if a * 5 + b < k then false else M a b
theorem wipe_set (k : Nat) (hk : k < 25) (M : Nat → Nat → Bool) : (grid Value.bool (wipeTo k M)).set k (.bool false) = grid Value.bool (wipeTo (k + 1) M) := by
  have h := grid_set Value.bool (wipeTo k M) (k / 5) (k % 5) (by omega) (by omega) false
  rw [show k / 5 * 5 + k % 5 = k by omega] at h
  rw [h]
  refine grid_congr _ ?_
  intro a b ha hb
  congr 1
  unfold upd wipeTo
  by_cases e1 : a = k / 5
  · rw [if_pos e1]
    by_cases e2 : b = k % 5
    · rw [if_pos e2, if_pos (by omega)]
    · rw [if_neg e2]
      by_cases e3 : k / 5 * 5 + b < k
      · rw [if_pos e3, if_pos (by omega)]
      · rw [if_neg e3, if_neg (by omega), e1]
  · rw [if_neg e1]
    by_cases e3 : a * 5 + b < k
    · rw [if_pos e3, if_pos (by omega)]
    · rw [if_neg e3, if_neg (by omega)]
theorem wipe_none (M : Nat → Nat → Bool) : wipeTo 0 M = M := by
  funext a b; unfold wipeTo; rw [if_neg (by omega)]
theorem wipe_all (M : Nat → Nat → Bool) : grid Value.bool (wipeTo 25 M) = grid Value.bool (fun _ _ => false) := by
  refine grid_congr _ ?_
  intro a b ha hb
  unfold wipeTo; rw [if_pos (by omega)]
section
variable {w : World} {g p q m f : Nat} {C : Nat → Nat → Int} {H : Nat → Nat → Nat → Int} {M F : Nat → Nat → Bool} {r : Nat}
theorem RepG.wipe {k : Nat} (R : RepG w g p q m f C H (wipeTo k M) F r) (hk : k < 25) : RepG (w.setCell ⟨m, k, none⟩ (.bool false)) g p q m f C H (wipeTo (k + 1) M) F r := by
  have h := R.mb.set k (.bool false)
  rw [wipe_set k hk M] at h
  exact ⟨R.blk.set_other (a := ⟨m, k, none⟩) R.gm _, R.cb.set_other (a := ⟨m, k, none⟩) R.pm _, R.hb.set_other (a := ⟨m, k, none⟩) R.qm _, h, R.fb.set_other (a := ⟨m, k, none⟩) (Ne.symm R.mf) _, R.gp, R.gq, R.gm, R.gf, R.pq, R.pm, R.pf, R.qm, R.qf, R.mf⟩
theorem RepG.wiped (R : RepG w g p q m f C H (wipeTo 25 M) F r) : RepG w g p q m f C H (fun _ _ => false) F r := by
  have h := R.mb
  rw [wipe_all] at h
  exact ⟨R.blk, R.cb, R.hb, h, R.fb, R.gp, R.gq, R.gm, R.gf, R.pq, R.pm, R.pf, R.qm, R.qf, R.mf⟩
theorem RepG.setR (R : RepG w g p q m f C H M F r) (s : Nat) : RepG (w.setCell ⟨g, 4, none⟩ (.int .i64 s)) g p q m f C H M F s :=
  ⟨R.blk.set 4 _, R.cb.set_other (a := ⟨g, 4, none⟩) (Ne.symm R.gp) _, R.hb.set_other (a := ⟨g, 4, none⟩) (Ne.symm R.gq) _, R.mb.set_other (a := ⟨g, 4, none⟩) (Ne.symm R.gm) _, R.fb.set_other (a := ⟨g, 4, none⟩) (Ne.symm R.gf) _, R.gp, R.gq, R.gm, R.gf, R.pq, R.pm, R.pf, R.qm, R.qf, R.mf⟩
theorem RepG.setC (R : RepG w g p q m f C H M F r) (a b : Nat) (ha : a < 5) (hb : b < 5) (v : Int) : RepG (w.setCell ⟨p, a * 5 + b, none⟩ (.int .i64 v)) g p q m f (upd C a (upd (C a) b v)) H M F r := by
  have h := R.cb.set (a * 5 + b) (iv v)
  rw [grid_set iv C a b ha hb v] at h
  exact ⟨R.blk.set_other (a := ⟨p, a * 5 + b, none⟩) R.gp _, h, R.hb.set_other (a := ⟨p, a * 5 + b, none⟩) (Ne.symm R.pq) _, R.mb.set_other (a := ⟨p, a * 5 + b, none⟩) (Ne.symm R.pm) _, R.fb.set_other (a := ⟨p, a * 5 + b, none⟩) (Ne.symm R.pf) _, R.gp, R.gq, R.gm, R.gf, R.pq, R.pm, R.pf, R.qm, R.qf, R.mf⟩
theorem RepG.setH (R : RepG w g p q m f C H M F r) (a b : Nat) (ha : a < 5) (hb : b < 5) (v : Nat → Int) : RepG (w.setCell ⟨q, a * 5 + b, none⟩ (sv v)) g p q m f C (upd H a (upd (H a) b v)) M F r := by
  have h := R.hb.set (a * 5 + b) (sv v)
  rw [grid_set sv H a b ha hb v] at h
  exact ⟨R.blk.set_other (a := ⟨q, a * 5 + b, none⟩) R.gq _, R.cb.set_other (a := ⟨q, a * 5 + b, none⟩) R.pq _, h, R.mb.set_other (a := ⟨q, a * 5 + b, none⟩) (Ne.symm R.qm) _, R.fb.set_other (a := ⟨q, a * 5 + b, none⟩) (Ne.symm R.qf) _, R.gp, R.gq, R.gm, R.gf, R.pq, R.pm, R.pf, R.qm, R.qf, R.mf⟩
theorem RepG.setM (R : RepG w g p q m f C H M F r) (a b : Nat) (ha : a < 5) (hb : b < 5) (v : Bool) : RepG (w.setCell ⟨m, a * 5 + b, none⟩ (.bool v)) g p q m f C H (upd M a (upd (M a) b v)) F r := by
  have h := R.mb.set (a * 5 + b) (.bool v)
  rw [grid_set Value.bool M a b ha hb v] at h
  exact ⟨R.blk.set_other (a := ⟨m, a * 5 + b, none⟩) R.gm _, R.cb.set_other (a := ⟨m, a * 5 + b, none⟩) R.pm _, R.hb.set_other (a := ⟨m, a * 5 + b, none⟩) R.qm _, h, R.fb.set_other (a := ⟨m, a * 5 + b, none⟩) (Ne.symm R.mf) _, R.gp, R.gq, R.gm, R.gf, R.pq, R.pm, R.pf, R.qm, R.qf, R.mf⟩
theorem RepG.setF (R : RepG w g p q m f C H M F r) (a b : Nat) (ha : a < 5) (hb : b < 5) (v : Bool) : RepG (w.setCell ⟨f, a * 5 + b, none⟩ (.bool v)) g p q m f C H M (upd F a (upd (F a) b v)) r := by
  have h := R.fb.set (a * 5 + b) (.bool v)
  rw [grid_set Value.bool F a b ha hb v] at h
  exact ⟨R.blk.set_other (a := ⟨f, a * 5 + b, none⟩) R.gf _, R.cb.set_other (a := ⟨f, a * 5 + b, none⟩) R.pf _, R.hb.set_other (a := ⟨f, a * 5 + b, none⟩) R.qf _, R.mb.set_other (a := ⟨f, a * 5 + b, none⟩) R.mf _, h, R.gp, R.gq, R.gm, R.gf, R.pq, R.pm, R.pf, R.qm, R.qf, R.mf⟩
theorem chgG (V : World) (k o : Nat) (v : Value) (h : ownG g p q m f k) : Chg (ownG g p q m f) V (V.setCell ⟨k, o, none⟩ v) := Chg.setCell (S := ownG g p q m f) (p := ⟨k, o, none⟩) (Chg.refl _ V) (.inl h) v
end

theorem cell_drw {w : World} {a : Addr} {v : Value} (h : w.cell? a = some v) : w.drew.cell? a = some v := h

theorem lk_lk {α : Type} (C : Nat → Nat → α) (a b : Nat) (u v : α) : lk (lk C a b u) a b v = lk C a b v := by
  funext i j
  unfold lk
  split
  · rfl
  · rfl

theorem two_lkB (F : Nat → Nat → Bool) (a b : Nat) (v : Bool) (hab : a ≠ b) : upd (upd F a (upd (F a) b v)) b (upd ((upd F a (upd (F a) b v)) b) a v) = lk F a b v := by
  funext i j
  unfold upd lk
  by_cases h1 : i = b
  · subst h1
    rw [if_pos rfl]
    by_cases h2 : j = a
    · rw [if_pos h2, if_pos (.inr ⟨rfl, h2⟩)]
    · rw [if_neg h2, if_neg (fun e => hab e.symm), if_neg (by omega)]
  · rw [if_neg h1]
    by_cases h3 : i = a
    · subst h3
      rw [if_pos rfl]
      by_cases h2 : j = b
      · rw [if_pos h2, if_pos (.inl ⟨rfl, h2⟩)]
      · rw [if_neg h2, if_neg (by omega)]
    · rw [if_neg h3, if_neg (by omega)]

/-- What Turn leaves. -/
def TPost (w : World) (g p q m f : Nat) (C : Nat → Nat → Int) (H : Nat → Nat → Nat → Int) (M F : Nat → Nat → Bool) (r : Nat) (e : Ending) (w' : World) : Prop := e = .returned (.tuple #[]) ∧ Chg (ownG g p q m f) w w' ∧ RepG w' g p q m f C H M F r
end Go.Proofs.Qxb6500364a
