/-
  THE MODEL TURTLE: Forward, Mirror, Reset. (gen6mod2.py)
-/
import Derived.Test.Qxb6500366aMod
import Derived.Deep.DeepCutAuto
namespace Go.Proofs.Qxb6500366a
open Go.RowKit Go.Qx
set_option linter.unusedVariables false
set_option linter.unusedSimpArgs false

def FwdR (w : World) (p d : Pt) (a b : Value) (wr : World) : Prop := ∃ pb db, a = .pointer (some ⟨pb, 0, none⟩) ∧ b = .pointer (some ⟨db, 0, none⟩) ∧ Quiet w wr ∧ Blk wr pb 75 [.int .i64 p.1, .int .i64 p.2] ∧ Blk wr db 75 [.int .i64 d.1, .int .i64 d.2] ∧ w.heap.size ≤ pb ∧ w.heap.size ≤ db

theorem blk_two (w : World) (t : TypeId) (o : Obj) (cs : List Value) : Blk ((w.alloc o).alloc (.cells cs.toArray t)) (w.heap.size + 1) t cs := by
  have h := Blk.new (w.alloc o) t cs
  rw [show (w.alloc o).heap.size = w.heap.size + 1 by simp] at h
  exact h
theorem fw1 {w w2 : World} {p d : Pt} (q : Quiet w w2) : FwdR w p d (.pointer (some ⟨w2.heap.size, 0, none⟩)) (.pointer (some ⟨(w2.heap.size + 1), 0, none⟩)) ((w2.alloc (.cells #[.int .i64 p.1, .int .i64 p.2] 75)).alloc (.cells #[.int .i64 d.1, .int .i64 d.2] 75)) := by
  have := q.size
  exact ⟨w2.heap.size, (w2.heap.size + 1), rfl, rfl, Chg.alloc (Chg.alloc q _) _, Blk.alloc (Blk.new w2 75 [.int .i64 p.1, .int .i64 p.2]) _, blk_two w2 75 _ [.int .i64 d.1, .int .i64 d.2], by omega, by omega⟩
theorem fw2 {w w2 : World} {p d : Pt} (q : Quiet w w2) : FwdR w p d (.pointer (some ⟨(w2.heap.size + 1), 0, none⟩)) (.pointer (some ⟨w2.heap.size, 0, none⟩)) ((w2.alloc (.cells #[.int .i64 d.1, .int .i64 d.2] 75)).alloc (.cells #[.int .i64 p.1, .int .i64 p.2] 75)) := by
  have := q.size
  exact ⟨(w2.heap.size + 1), w2.heap.size, rfl, rfl, Chg.alloc (Chg.alloc q _) _, blk_two w2 75 _ [.int .i64 p.1, .int .i64 p.2], Blk.alloc (Blk.new w2 75 [.int .i64 d.1, .int .i64 d.2]) _, by omega, by omega⟩
theorem fw3 {w w2 : World} {p d : Pt} (h : Quiet (w.alloc (.cells #[.int .i64 0, .int .i64 0] 75)).drew w2) : FwdR w p d (.pointer (some ⟨w.heap.size, 0, none⟩)) (.pointer (some ⟨w2.heap.size, 0, none⟩)) (((((w2.alloc (.cells #[.int .i64 0, .int .i64 0] 75)).setCell ⟨w.heap.size, 0, none⟩ (.int .i64 p.1)).setCell ⟨w.heap.size, 1, none⟩ (.int .i64 p.2)).setCell ⟨w2.heap.size, 0, none⟩ (.int .i64 d.1)).setCell ⟨w2.heap.size, 1, none⟩ (.int .i64 d.2)) := by
  have b := Quiet.blk h (Blk.drew (Blk.new w 75 [.int .i64 0, .int .i64 0]))
  have l := b.lt
  have q : Quiet w w2 := Quiet.trans (Chg.drew (Chg.alloc (Chg.refl (fun _ => False) w) (.cells #[.int .i64 0, .int .i64 0] 75))) h
  have b1 := (((((b.alloc (.cells #[.int .i64 0, .int .i64 0] 75)).set 0 (.int .i64 p.1)).set 1 (.int .i64 p.2)).set_other (a := ⟨w2.heap.size, 0, none⟩) (show w.heap.size ≠ _ by simp; omega) (.int .i64 d.1)).set_other (a := ⟨w2.heap.size, 1, none⟩) (show w.heap.size ≠ _ by simp; omega) (.int .i64 d.2))
  have b2 := (((((Blk.new w2 75 [.int .i64 0, .int .i64 0]).set_other (a := ⟨w.heap.size, 0, none⟩) (show w2.heap.size ≠ _ by simp; omega) (.int .i64 p.1)).set_other (a := ⟨w.heap.size, 1, none⟩) (show w2.heap.size ≠ _ by simp; omega) (.int .i64 p.2)).set 0 (.int .i64 d.1)).set 1 (.int .i64 d.2))
  refine ⟨w.heap.size, w2.heap.size, rfl, rfl, ?_, b1, b2, Nat.le_refl _, q.size⟩
  exact ((((Chg.alloc q _).setCell (p := ⟨w.heap.size, 0, none⟩) (.inr (Nat.le_refl _)) _).setCell (p := ⟨w.heap.size, 1, none⟩) (.inr (Nat.le_refl _)) _).setCell (p := ⟨w2.heap.size, 0, none⟩) (.inr q.size) _).setCell (p := ⟨w2.heap.size, 1, none⟩) (.inr q.size) _
theorem fw5 {w w2 : World} {p d : Pt} (h : Quiet (w.alloc (.cells #[.int .i64 0, .int .i64 0] 75)).drew w2) : FwdR w p d (.pointer (some ⟨w2.heap.size, 0, none⟩)) (.pointer (some ⟨w.heap.size, 0, none⟩)) (((w2.alloc (.cells #[.int .i64 p.1, .int .i64 p.2] 75)).setCell ⟨w.heap.size, 0, none⟩ (.int .i64 d.1)).setCell ⟨w.heap.size, 1, none⟩ (.int .i64 d.2)) := by
  have b := Quiet.blk h (Blk.drew (Blk.new w 75 [.int .i64 0, .int .i64 0]))
  have l := b.lt
  have q : Quiet w w2 := Quiet.trans (Chg.drew (Chg.alloc (Chg.refl (fun _ => False) w) (.cells #[.int .i64 0, .int .i64 0] 75))) h
  have b1 := ((b.alloc (.cells #[.int .i64 p.1, .int .i64 p.2] 75)).set 0 (.int .i64 d.1)).set 1 (.int .i64 d.2)
  have b2 := ((Blk.new w2 75 [.int .i64 p.1, .int .i64 p.2]).set_other (a := ⟨w.heap.size, 0, none⟩) (show w2.heap.size ≠ _ by simp; omega) (.int .i64 d.1)).set_other (a := ⟨w.heap.size, 1, none⟩) (show w2.heap.size ≠ _ by simp; omega) (.int .i64 d.2)
  refine ⟨w2.heap.size, w.heap.size, rfl, rfl, ?_, b2, b1, q.size, Nat.le_refl _⟩
  exact ((Chg.alloc q _).setCell (p := ⟨w.heap.size, 0, none⟩) (.inr (Nat.le_refl _)) _).setCell (p := ⟨w.heap.size, 1, none⟩) (.inr (Nat.le_refl _)) _
theorem fw46 {w w2 : World} (h : Quiet ((w.alloc (.cells #[.int .i64 0, .int .i64 0] 75)).alloc (.cells #[.int .i64 0, .int .i64 0] 75)).drew w2) : Quiet w w2 ∧ Blk w2 w.heap.size 75 [.int .i64 0, .int .i64 0] ∧ Blk w2 (w.heap.size + 1) 75 [.int .i64 0, .int .i64 0] := by
  exact ⟨Quiet.trans (Chg.drew (Chg.alloc (Chg.alloc (Chg.refl (fun _ => False) w) (.cells #[.int .i64 0, .int .i64 0] 75)) (.cells #[.int .i64 0, .int .i64 0] 75))) h, Quiet.blk h (Blk.drew (Blk.alloc (Blk.new w 75 [.int .i64 0, .int .i64 0]) (.cells #[.int .i64 0, .int .i64 0] 75))), Quiet.blk h (Blk.drew (blk_two w 75 _ [.int .i64 0, .int .i64 0]))⟩
theorem fw4 {w w2 : World} {p d : Pt} (h : Quiet ((w.alloc (.cells #[.int .i64 0, .int .i64 0] 75)).alloc (.cells #[.int .i64 0, .int .i64 0] 75)).drew w2) : FwdR w p d (.pointer (some ⟨w.heap.size, 0, none⟩)) (.pointer (some ⟨(w.heap.size + 1), 0, none⟩)) ((((w2.setCell ⟨w.heap.size, 0, none⟩ (.int .i64 p.1)).setCell ⟨w.heap.size, 1, none⟩ (.int .i64 p.2)).setCell ⟨(w.heap.size + 1), 0, none⟩ (.int .i64 d.1)).setCell ⟨(w.heap.size + 1), 1, none⟩ (.int .i64 d.2)) := by
  obtain ⟨q, b, b'⟩ := fw46 h
  have b1 := ((((b.set 0 (.int .i64 p.1)).set 1 (.int .i64 p.2)).set_other (a := ⟨(w.heap.size + 1), 0, none⟩) (by simp) (.int .i64 d.1)).set_other (a := ⟨(w.heap.size + 1), 1, none⟩) (by simp) (.int .i64 d.2))
  have b2 := ((((b'.set_other (a := ⟨w.heap.size, 0, none⟩) (by simp) (.int .i64 p.1)).set_other (a := ⟨w.heap.size, 1, none⟩) (by simp) (.int .i64 p.2)).set 0 (.int .i64 d.1)).set 1 (.int .i64 d.2))
  refine ⟨w.heap.size, (w.heap.size + 1), rfl, rfl, ?_, b1, b2, Nat.le_refl _, Nat.le_succ _⟩
  exact (((q.setCell (p := ⟨w.heap.size, 0, none⟩) (.inr (Nat.le_refl _)) _).setCell (p := ⟨w.heap.size, 1, none⟩) (.inr (Nat.le_refl _)) _).setCell (p := ⟨(w.heap.size + 1), 0, none⟩) (.inr (Nat.le_succ _)) _).setCell (p := ⟨(w.heap.size + 1), 1, none⟩) (.inr (Nat.le_succ _)) _
theorem fw6 {w w2 : World} {p d : Pt} (h : Quiet ((w.alloc (.cells #[.int .i64 0, .int .i64 0] 75)).alloc (.cells #[.int .i64 0, .int .i64 0] 75)).drew w2) : FwdR w p d (.pointer (some ⟨(w.heap.size + 1), 0, none⟩)) (.pointer (some ⟨w.heap.size, 0, none⟩)) ((((w2.setCell ⟨(w.heap.size + 1), 0, none⟩ (.int .i64 p.1)).setCell ⟨(w.heap.size + 1), 1, none⟩ (.int .i64 p.2)).setCell ⟨w.heap.size, 0, none⟩ (.int .i64 d.1)).setCell ⟨w.heap.size, 1, none⟩ (.int .i64 d.2)) := by
  obtain ⟨q, b, b'⟩ := fw46 h
  have b1 := ((((b.set_other (a := ⟨(w.heap.size + 1), 0, none⟩) (by simp) (.int .i64 p.1)).set_other (a := ⟨(w.heap.size + 1), 1, none⟩) (by simp) (.int .i64 p.2)).set 0 (.int .i64 d.1)).set 1 (.int .i64 d.2))
  have b2 := ((((b'.set 0 (.int .i64 p.1)).set 1 (.int .i64 p.2)).set_other (a := ⟨w.heap.size, 0, none⟩) (by simp) (.int .i64 d.1)).set_other (a := ⟨w.heap.size, 1, none⟩) (by simp) (.int .i64 d.2))
  refine ⟨(w.heap.size + 1), w.heap.size, rfl, rfl, ?_, b2, b1, Nat.le_succ _, Nat.le_refl _⟩
  exact (((q.setCell (p := ⟨(w.heap.size + 1), 0, none⟩) (.inr (Nat.le_succ _)) _).setCell (p := ⟨(w.heap.size + 1), 1, none⟩) (.inr (Nat.le_succ _)) _).setCell (p := ⟨w.heap.size, 0, none⟩) (.inr (Nat.le_refl _)) _).setCell (p := ⟨w.heap.size, 1, none⟩) (.inr (Nat.le_refl _)) _

theorem goalP_eq (q : Pt) (n : Int) (d : Pt) : goalP q n d = (q.1 + n * d.1, q.2 + n * d.2) := by simp [goalP]

theorem append73 (W : World) (rb n g : Nat) (a b : Int) (cs : List Value) (ty : TypeId) (hn : n < 24) (B : Blk W rb 75 cs) (hcs : cs.length = 48) (hg : Blk W g 75 [.int .i64 a, .int .i64 b]) :
    (Builtin.append_ #[73, 73] ty #[.slice (some ⟨rb, 0, none⟩) n 24, .slice (some ⟨g, 0, none⟩) 1 1]).run Try.prog W = .ok (.slice (some ⟨rb, 0, none⟩) (n + 1) 24) (W.setCells rb (n * 2) [.int .i64 a, .int .i64 b]) := by
  obtain ⟨i, hi, hz0, hs, hz2⟩ := info_parts info75
  have h := run_append_room_cells (P := Try.prog) W 73 ty 75 i und73 hi rb 0 n 24 ⟨g, 0, none⟩ 1 1 [.int .i64 a, .int .i64 b] (by rw [hs]; rfl) (fun j u hu => by
      have e : Addr.add ⟨g, 0, none⟩ j = ⟨g, j, none⟩ := by unfold Addr.add; split <;> simp_all
      rw [e, hg.cell j]; exact hu) (by intro u hu; simp at hu; rcases hu with rfl | rfl <;> rfl) (by omega)
    (fun j hj => by
      simp at hj
      rw [hs, B.cell]; simp; omega)
    (fun j hj => B.frozen _)
  rw [hs, Nat.zero_add] at h
  exact h

set_option maxRecDepth 100000 in
set_option maxHeartbeats 4000000 in
theorem forwardM_any (w : World) (m rb : Nat) (tr : List Pt) (d : Pt) (R : RepM w m rb tr d) (I : Inv tr d) (n : Int) : Calls Try.prog 49 #[ptr m, .int .i64 n] w (errPostM w m rb (fwT tr (runOf tr) d n) d (fwE tr (runOf tr) d n)) := by
  have h0 := I.one
  have hps := I.bd.pos
  have hdd := I.dir
  have hl : Hid (∀ V, Quiet w V → Calls Try.prog 62 #[ptr m] V fun e w' => e = .returned (ptv tr[tr.length - 1]) ∧ Quiet V w') := fun V hV => last_any V m rb tr d (R.quiet hV) h0
  rw [← runOf_pos tr h0] at hl
  generalize runOf tr = r at *
  obtain ⟨p, hp⟩ : ∃ p, r.pos = p := ⟨_, rfl⟩
  rw [hp] at hl hps
  have hpH := hide hp
  clear hp
  have l1 := unhide hl _ ((Chg.refl _ w).drew)
  have l2 := unhide hl _ (((Chg.refl _ w).alloc (.cells #[.int .i64 0, .int .i64 0] 75)).drew)
  have l3 := unhide hl _ ((((Chg.refl _ w).alloc (.cells #[.int .i64 0, .int .i64 0] 75)).alloc (.cells #[.int .i64 0, .int .i64 0] 75)).drew)
  have c1 := R.own.cell 1
  have c2 := R.own.cell 2
  simp at c1 c2
  have RH := hide R
  unfold ptv ptr at l1 l2 l3
  clear R I h0 hl
  have nm1 : w.heap.size ≠ m := by have := (unhide RH).own.lt; omega
  have nm2 : w.heap.size + 1 ≠ m := by have := (unhide RH).own.lt; omega
  have t1 : Hid (∀ w2, Quiet w.drew w2 → Quiet w w2 ∧ w2.cell? ⟨m, 1, none⟩ = some (.int .i64 d.1) ∧ w2.cell? ⟨m, 2, none⟩ = some (.int .i64 d.2)) := fun w2 h => ⟨Quiet.trans (Chg.drew (Chg.refl (fun _ => False) w)) h, Quiet.cell (Quiet.trans (Chg.drew (Chg.refl (fun _ => False) w)) h) c1, Quiet.cell (Quiet.trans (Chg.drew (Chg.refl (fun _ => False) w)) h) c2⟩
  have t2 : Hid (∀ w2, Quiet (w.alloc (.cells #[.int .i64 0, .int .i64 0] 75)).drew w2 → Quiet w w2 ∧ w2.cell? ⟨m, 1, none⟩ = some (.int .i64 d.1) ∧ w2.cell? ⟨m, 2, none⟩ = some (.int .i64 d.2) ∧ w2.cell? ⟨w.heap.size, 0, none⟩ = some (.int .i64 0) ∧ w2.cell? ⟨w.heap.size, 1, none⟩ = some (.int .i64 0) ∧ w2.frozen? ⟨w.heap.size, 0, none⟩ = false ∧ w2.frozen? ⟨w.heap.size, 1, none⟩ = false ∧ (w2.alloc (.cells #[.int .i64 0, .int .i64 0] 75)).cell? ⟨w.heap.size, 0, none⟩ = some (.int .i64 0) ∧ (w2.alloc (.cells #[.int .i64 0, .int .i64 0] 75)).cell? ⟨w.heap.size, 1, none⟩ = some (.int .i64 0) ∧ (w2.alloc (.cells #[.int .i64 0, .int .i64 0] 75)).frozen? ⟨w.heap.size, 0, none⟩ = false ∧ (w2.alloc (.cells #[.int .i64 0, .int .i64 0] 75)).frozen? ⟨w.heap.size, 1, none⟩ = false ∧ w.heap.size ≠ w2.heap.size ∧ w2.heap.size ≠ w.heap.size ∧ w2.heap.size ≠ m ∧ (w2.alloc (.cells #[.int .i64 0, .int .i64 0] 75)).cell? ⟨m, 1, none⟩ = some (.int .i64 d.1) ∧ (w2.alloc (.cells #[.int .i64 0, .int .i64 0] 75)).cell? ⟨m, 2, none⟩ = some (.int .i64 d.2) ∧ (w2.alloc (.cells #[.int .i64 p.1, .int .i64 p.2] 75)).cell? ⟨w.heap.size, 0, none⟩ = some (.int .i64 0) ∧ (w2.alloc (.cells #[.int .i64 p.1, .int .i64 p.2] 75)).cell? ⟨w.heap.size, 1, none⟩ = some (.int .i64 0) ∧ (w2.alloc (.cells #[.int .i64 p.1, .int .i64 p.2] 75)).frozen? ⟨w.heap.size, 0, none⟩ = false ∧ (w2.alloc (.cells #[.int .i64 p.1, .int .i64 p.2] 75)).frozen? ⟨w.heap.size, 1, none⟩ = false ∧ (w2.alloc (.cells #[.int .i64 p.1, .int .i64 p.2] 75)).cell? ⟨m, 1, none⟩ = some (.int .i64 d.1) ∧ (w2.alloc (.cells #[.int .i64 p.1, .int .i64 p.2] 75)).cell? ⟨m, 2, none⟩ = some (.int .i64 d.2)) := fun w2 h => by
    have b := Quiet.blk h (Blk.drew (Blk.new w 75 [.int .i64 0, .int .i64 0]))
    have b' := b.alloc (.cells #[.int .i64 0, .int .i64 0] 75)
    have q : Quiet w w2 := Quiet.trans (Chg.drew (Chg.alloc (Chg.refl (fun _ => False) w) (.cells #[.int .i64 0, .int .i64 0] 75))) h
    have q' : Quiet w (w2.alloc (.cells #[.int .i64 0, .int .i64 0] 75)) := Chg.alloc q _
    have b'' := b.alloc (.cells #[.int .i64 p.1, .int .i64 p.2] 75)
    have q'' : Quiet w (w2.alloc (.cells #[.int .i64 p.1, .int .i64 p.2] 75)) := Chg.alloc q _
    have l1 := b.lt
    have l2 := (unhide RH).own.lt
    exact ⟨q, q.cell c1, q.cell c2, b.cell 0, b.cell 1, b.frozen 0, b.frozen 1, b'.cell 0, b'.cell 1, b'.frozen 0, b'.frozen 1, by omega, by omega, by omega, q'.cell c1, q'.cell c2, b''.cell 0, b''.cell 1, b''.frozen 0, b''.frozen 1, q''.cell c1, q''.cell c2⟩
  have t3 : Hid (∀ w2, Quiet ((w.alloc (.cells #[.int .i64 0, .int .i64 0] 75)).alloc (.cells #[.int .i64 0, .int .i64 0] 75)).drew w2 → Quiet w w2 ∧ w2.cell? ⟨m, 1, none⟩ = some (.int .i64 d.1) ∧ w2.cell? ⟨m, 2, none⟩ = some (.int .i64 d.2) ∧ w2.cell? ⟨w.heap.size, 0, none⟩ = some (.int .i64 0) ∧ w2.cell? ⟨w.heap.size, 1, none⟩ = some (.int .i64 0) ∧ w2.frozen? ⟨w.heap.size, 0, none⟩ = false ∧ w2.frozen? ⟨w.heap.size, 1, none⟩ = false ∧ w2.cell? ⟨(w.heap.size + 1), 0, none⟩ = some (.int .i64 0) ∧ w2.cell? ⟨(w.heap.size + 1), 1, none⟩ = some (.int .i64 0) ∧ w2.frozen? ⟨(w.heap.size + 1), 0, none⟩ = false ∧ w2.frozen? ⟨(w.heap.size + 1), 1, none⟩ = false) := fun w2 h => by
    obtain ⟨q, b, b'⟩ := fw46 h
    exact ⟨q, q.cell c1, q.cell c2, b.cell 0, b.cell 1, b.frozen 0, b.frozen 1, b'.cell 0, b'.cell 1, b'.frozen 0, b'.frozen 1⟩
  unfold ptr
  go_enter Try.func49, Try.ntmps49
  go_wp2
  go_cut [5, 6] (fun a b wx => FwdR w p d a b wx)
  case first =>
    go_region_held3 (fun w' => w'.cell? ⟨m, 1, none⟩ = some (.int .i64 d.1) ∧ w'.cell? ⟨m, 2, none⟩ = some (.int .i64 d.2)) (first | with_reducible exact ⟨c1, c2⟩ | with_reducible exact ⟨d1, d2⟩ | with_reducible exact ⟨da1, da2⟩ | with_reducible exact ⟨dp1, dp2⟩ | with_reducible exact ⟨cell_set2_ne d1 (.inl nm1) (.inl nm1), cell_set2_ne d2 (.inl nm1) (.inl nm1)⟩ | with_reducible exact ⟨cell_set2_ne da1 (.inl nm1) (.inl nm1), cell_set2_ne da2 (.inl nm1) (.inl nm1)⟩ | with_reducible exact ⟨cell_set2_ne dp1 (.inl nm1) (.inl nm1), cell_set2_ne dp2 (.inl nm1) (.inl nm1)⟩ | with_reducible exact ⟨cell_set2_ne d1 (.inl nm2) (.inl nm2), cell_set2_ne d2 (.inl nm2) (.inl nm2)⟩ | with_reducible exact ⟨cell_set2_ne da1 (.inl nm2) (.inl nm2), cell_set2_ne da2 (.inl nm2) (.inl nm2)⟩ | with_reducible exact ⟨cell_set2_ne dp1 (.inl nm2) (.inl nm2), cell_set2_ne dp2 (.inl nm2) (.inl nm2)⟩ | with_reducible exact ⟨cell_set2_ne d1 (.inl nm3) (.inl nm3), cell_set2_ne d2 (.inl nm3) (.inl nm3)⟩ | with_reducible exact ⟨cell_set2_ne da1 (.inl nm3) (.inl nm3), cell_set2_ne da2 (.inl nm3) (.inl nm3)⟩ | with_reducible exact ⟨cell_set2_ne dp1 (.inl nm3) (.inl nm3), cell_set2_ne dp2 (.inl nm3) (.inl nm3)⟩ | with_reducible exact ⟨cell_set2_ne (cell_set2_ne d1 (.inl nm1) (.inl nm1)) (.inl nm2) (.inl nm2), cell_set2_ne (cell_set2_ne d2 (.inl nm1) (.inl nm1)) (.inl nm2) (.inl nm2)⟩ | with_reducible exact ⟨cell_set2_ne (cell_set2_ne da1 (.inl nm1) (.inl nm1)) (.inl nm2) (.inl nm2), cell_set2_ne (cell_set2_ne da2 (.inl nm1) (.inl nm1)) (.inl nm2) (.inl nm2)⟩ | with_reducible exact ⟨cell_set2_ne (cell_set2_ne d1 (.inl nm1) (.inl nm1)) (.inl nm3) (.inl nm3), cell_set2_ne (cell_set2_ne d2 (.inl nm1) (.inl nm1)) (.inl nm3) (.inl nm3)⟩ | with_reducible exact ⟨cell_set2_ne (cell_set2_ne da1 (.inl nm1) (.inl nm1)) (.inl nm3) (.inl nm3), cell_set2_ne (cell_set2_ne da2 (.inl nm1) (.inl nm1)) (.inl nm3) (.inl nm3)⟩ | with_reducible exact ⟨cell_set2_ne (cell_set2_ne d1 (.inl nm2) (.inl nm2)) (.inl nm1) (.inl nm1), cell_set2_ne (cell_set2_ne d2 (.inl nm2) (.inl nm2)) (.inl nm1) (.inl nm1)⟩ | with_reducible exact ⟨cell_set2_ne (cell_set2_ne da1 (.inl nm2) (.inl nm2)) (.inl nm1) (.inl nm1), cell_set2_ne (cell_set2_ne da2 (.inl nm2) (.inl nm2)) (.inl nm1) (.inl nm1)⟩ | with_reducible exact ⟨cell_set2_ne (cell_set2_ne d1 (.inl nm2) (.inl nm2)) (.inl nm3) (.inl nm3), cell_set2_ne (cell_set2_ne d2 (.inl nm2) (.inl nm2)) (.inl nm3) (.inl nm3)⟩ | with_reducible exact ⟨cell_set2_ne (cell_set2_ne da1 (.inl nm2) (.inl nm2)) (.inl nm3) (.inl nm3), cell_set2_ne (cell_set2_ne da2 (.inl nm2) (.inl nm2)) (.inl nm3) (.inl nm3)⟩ | with_reducible exact ⟨cell_set2_ne (cell_set2_ne d1 (.inl nm3) (.inl nm3)) (.inl nm1) (.inl nm1), cell_set2_ne (cell_set2_ne d2 (.inl nm3) (.inl nm3)) (.inl nm1) (.inl nm1)⟩ | with_reducible exact ⟨cell_set2_ne (cell_set2_ne da1 (.inl nm3) (.inl nm3)) (.inl nm1) (.inl nm1), cell_set2_ne (cell_set2_ne da2 (.inl nm3) (.inl nm3)) (.inl nm1) (.inl nm1)⟩ | with_reducible exact ⟨cell_set2_ne (cell_set2_ne d1 (.inl nm3) (.inl nm3)) (.inl nm2) (.inl nm2), cell_set2_ne (cell_set2_ne d2 (.inl nm3) (.inl nm3)) (.inl nm2) (.inl nm2)⟩ | with_reducible exact ⟨cell_set2_ne (cell_set2_ne da1 (.inl nm3) (.inl nm3)) (.inl nm2) (.inl nm2), cell_set2_ne (cell_set2_ne da2 (.inl nm3) (.inl nm3)) (.inl nm2) (.inl nm2)⟩ | go_keep)
      (first
        | (go_at_call 62; with_reducible refine l1.mono ?_; rintro e w2 ⟨rfl, q2⟩; obtain ⟨qq, d1, d2⟩ := unhide t1 w2 q2)
        | (go_at_call 62; with_reducible refine l2.mono ?_; rintro e w2 ⟨rfl, q2⟩; obtain ⟨qq, d1, d2, bz0, bz1, bz2, bz3, ba0, ba1, ba2, ba3, ne1, ne2, nm3, da1, da2, bp0, bp1, bp2, bp3, dp1, dp2⟩ := unhide t2 w2 q2)
        | (go_at_call 62; with_reducible refine l3.mono ?_; rintro e w2 ⟨rfl, q2⟩; obtain ⟨qq, d1, d2, bz0, bz1, bz2, bz3, by0, by1, by2, by3⟩ := unhide t3 w2 q2))
    all_goals
      go_wp2
      go_meet
      case rel => first | with_reducible exact fw1 qq | with_reducible exact fw2 qq | with_reducible exact fw3 q2 | with_reducible exact fw4 q2 | with_reducible exact fw5 q2 | with_reducible exact fw6 q2
  case rest =>
    obtain ⟨pb, db, rfl, rfl, Q, BP, BD, lp, ld⟩ := hcut
    have R2 := (unhide RH).quiet Q
    have few := R2.few
    obtain ⟨p1, p2, p3, p4⟩ := hps
    have x0 := BP.cell 0
    have x1 := BP.cell 1
    have y0 := BD.cell 0
    have y1 := BD.cell 1
    have z0 := R2.own.cell 0
    have z1 := R2.own.frozen 0
    simp at x0 x1 y0 y1 z0
    have QH := hide Q
    have R2H := hide R2
    have BPH := hide BP
    have BDH := hide BD
    have eG : Hid (goalP r.pos n d = (p.1 + n * d.1, p.2 + n * d.2)) := by show _ = _; rw [unhide hpH]; exact goalP_eq p n d
    have neH : Hid (pb ≠ m ∧ pb ≠ rb ∧ db ≠ m ∧ db ≠ rb) := by
      have e1 := (unhide RH).own.lt
      obtain ⟨cs, B2, _, _⟩ := (unhide RH).row
      have e2 := B2.lt
      exact ⟨by omega, by omega, by omega, by omega⟩
    clear l1 l2 l3 c1 c2 t1 t2 t3 nm1 nm2 Q R2 BP BD lp ld RH
    have stay : Hid (∀ E, fwE tr r d n = E → ¬ E = 0 → errPostM w m rb (fwT tr r d n) d (fwE tr r d n) (.returned (.int .i64 E)) wc) := fun E hE h0 => by
      unfold errPostM
      rw [show fwT tr r d n = tr by unfold fwT; rw [hE, if_neg h0], hE]
      exact ⟨rfl, Quiet.chg (unhide QH) _, unhide R2H⟩
    by_cases hn1 : n < -2097152
    · have e1 := hide (unhide stay 1 (by simp [fwE, hn1]) (by decide))
      clear eG p1 p2 p3 p4 hdd few
      go_wp2
      go_ret
      exact unhide e1
    by_cases hn2 : 2097152 < n
    · have e1 := hide (unhide stay 1 (by simp [fwE, hn2]) (by decide))
      clear eG p1 p2 p3 p4 hdd few
      go_wp2
      go_ret
      exact unhide e1
    have bA : -2097152 ≤ n * d.1 ∧ n * d.1 ≤ 2097152 := by rcases hdd with rfl | rfl | rfl | rfl <;> simp <;> omega
    have bB : -2097152 ≤ n * d.2 ∧ n * d.2 ≤ 2097152 := by rcases hdd with rfl | rfl | rfl | rfl <;> simp <;> omega
    obtain ⟨A, hA⟩ : ∃ A, n * d.1 = A := ⟨_, rfl⟩
    obtain ⟨B, hB⟩ : ∃ B, n * d.2 = B := ⟨_, rfl⟩
    rw [hA] at bA
    rw [hB] at bB
    rw [hA, hB] at eG
    obtain ⟨G1, hG1⟩ : ∃ G, p.1 + A = G := ⟨_, rfl⟩
    obtain ⟨G2, hG2⟩ : ∃ G, p.2 + B = G := ⟨_, rfl⟩
    rw [hG1, hG2] at eG
    have w1 : wrap64 (n * d.1) = A := by rw [hA]; unfold wrap64; omega
    have w2 : wrap64 (n * d.2) = B := by rw [hB]; unfold wrap64; omega
    have w3 : wrap64 (p.1 + A) = G1 := by rw [hG1]; unfold wrap64; omega
    have w4 : wrap64 (p.2 + B) = G2 := by rw [hG2]; unfold wrap64; omega
    have u1 : IntKind.i64.wrap (n * d.1) = A := by rw [IntKind.wrap_i64, hA]; omega
    have u2 : IntKind.i64.wrap (n * d.2) = B := by rw [IntKind.wrap_i64, hB]; omega
    have u3 : IntKind.i64.wrap (p.1 + A) = G1 := by rw [IntKind.wrap_i64, hG1]; omega
    have u4 : IntKind.i64.wrap (p.2 + B) = G2 := by rw [IntKind.wrap_i64, hG2]; omega
    have hfi := hide (fits_any wc G1 G2)
    have fewH := hide few
    clear hA hB hG1 hG2 bA bB p1 p2 p3 p4 hdd few
    cases hi : inP (G1, G2) with
    | false =>
      have e1 := hide (unhide stay 1 (by simp [fwE, hn1, hn2]; rw [unhide eG, hi]; try simp) (by decide))
      rw [hi] at hfi
      clear hi eG
      go_wp2_with fail
      refine (unhide hfi).mono ?_
      rintro e w' ⟨rfl, hw'⟩
      subst hw'
      go_wp2
      go_ret
      exact unhide e1
    | true =>
      rw [hi] at hfi
      by_cases hl : 24 ≤ tr.length
      · have e1 := hide (unhide stay 2 (by simp [fwE, hn1, hn2, hl]; rw [unhide eG, hi]; try simp) (by decide))
        have g24 : (24 : Int) ≤ (tr.length : Int) := by omega
        clear hi eG hl
        go_wp2_with fail
        refine (unhide hfi).mono ?_
        rintro e w' ⟨rfl, hw'⟩
        subst hw'
        go_wp2
        go_ret
        exact unhide e1
      · have e0 : fwE tr r d n = 0 := by simp [fwE, hn1, hn2, hl]; rw [unhide eG, hi]; try simp
        have eT : fwT tr r d n = tr ++ [(G1, G2)] := by unfold fwT; rw [e0, if_pos rfl, unhide eG]
        have g24 : ¬ (24 : Int) ≤ (tr.length : Int) := by omega
        have hlen : tr.length < 24 := by omega
        have lenH := hide hlen
        have eTH := hide (⟨e0, eT⟩ : _ ∧ _)
        clear hi eG hl hlen e0 eT
        go_wp2_with fail
        refine (unhide hfi).mono ?_
        rintro e w' ⟨rfl, hw'⟩
        subst hw'
        clear hfi
        go_wp2
        have R6 := unhide R2H
        obtain ⟨cs, BT, hcs, hrow⟩ := R6.row
        have hne := R6.ne
        have hln := unhide lenH
        have BT1 := BT.alloc (.cells #[.int .i64 G1, .int .i64 G2] 75)
        have BM1 := R6.own.alloc (.cells #[.int .i64 G1, .int .i64 G2] 75)
        have e0 := BT1.cell (tr.length * 2)
        have e1 := BT1.cell (tr.length * 2 + 1)
        have fe0 := BT1.frozen (tr.length * 2)
        have fe1 := BT1.frozen (tr.length * 2 + 1)
        obtain ⟨u0, hu0⟩ : ∃ u, cs[tr.length * 2]? = some u := ⟨_, List.getElem?_eq_getElem (by omega)⟩
        obtain ⟨u1, hu1⟩ : ∃ u, cs[tr.length * 2 + 1]? = some u := ⟨_, List.getElem?_eq_getElem (by omega)⟩
        rw [hu0] at e0
        rw [hu1] at e1
        have z0a := BM1.cell 0
        have z1a := BM1.frozen 0
        simp at z0a
        obtain ⟨i0, hi0, hz0, hz1, hz2⟩ := info_parts info75
        have hxa := Ne.symm hne
        have room : tr.length + 1 ≤ 24 := by omega
        have FIN : Hid (∀ W, W = (((w'.alloc (.cells #[.int .i64 G1, .int .i64 G2] 75)).setCell ⟨rb, tr.length * 2, none⟩ (.int .i64 G1)).setCell ⟨rb, tr.length * 2 + 1, none⟩ (.int .i64 G2)).setCell ⟨m, 0, none⟩ (.slice (some ⟨rb, 0, none⟩) (tr.length + 1) 24) → errPostM w m rb (fwT tr r d n) d (fwE tr r d n) (.returned (.int .i64 0)) W.drew) := by
          rintro W rfl
          unfold errPostM
          rw [(unhide eTH).2, (unhide eTH).1]
          refine ⟨rfl, ?_, ?_, ⟨(cs.set (tr.length * 2) (.int .i64 G1)).set (tr.length * 2 + 1) (.int .i64 G2), ?_, by simp [hcs], ?_⟩, by simp; omega, hne⟩
          · exact ((((Chg.alloc (Quiet.chg (unhide QH) (ownM m rb)) _).setCell (p := ⟨rb, tr.length * 2, none⟩) (.inl (.inr rfl)) _).setCell (p := ⟨rb, tr.length * 2 + 1, none⟩) (.inl (.inr rfl)) _).setCell (p := ⟨m, 0, none⟩) (.inl (.inl rfl)) _).drew
          · have h := (((BM1.set_other (a := ⟨rb, tr.length * 2, none⟩) hne (.int .i64 G1)).set_other (a := ⟨rb, tr.length * 2 + 1, none⟩) hne (.int .i64 G2)).set 0 (.slice (some ⟨rb, 0, none⟩) (tr.length + 1) 24)).drew
            simpa using h
          · exact (((BT1.set (tr.length * 2) (.int .i64 G1)).set (tr.length * 2 + 1) (.int .i64 G2)).set_other (a := ⟨m, 0, none⟩) (Ne.symm hne) _).drew
          · intro i hi
            by_cases hlt : i < tr.length
            · obtain ⟨k1, k2⟩ := hrow i hlt
              rw [List.getElem?_set_ne (by omega), List.getElem?_set_ne (by omega), List.getElem?_set_ne (by omega), List.getElem?_set_ne (by omega), List.getElem_append_left hlt]
              exact ⟨k1, k2⟩
            · have hi2 : i = tr.length := by simp at hi; omega
              subst hi2
              rw [List.getElem?_set_ne (by omega), List.getElem?_set_self (by omega), List.getElem?_set_self (by simp; omega), List.getElem_append_right (Nat.le_refl _)]
              simp
        clear R6 BT BT1 BM1 hcs hrow hu0 hu1 hln
        generalize tr.length = N at *
        go_region
        go_wp2
        go_ret
        exact unhide FIN _ rfl
end Go.Proofs.Qxb6500366a
