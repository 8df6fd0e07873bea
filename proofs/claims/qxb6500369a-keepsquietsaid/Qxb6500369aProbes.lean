/-
  The abstract ring: probes; its cells.
-/
import Derived.Test.Qxb6500369aStep
namespace Go.Proofs.Qxb6500369a
open Go.RowKit Go.Qx
set_option linter.unusedSimpArgs false
set_option linter.unusedVariables false

/-- The abstract ring with its row's block named. -/
structure RepG (w : World) (x g cap : Nat) (sp : List Value) (mode : Int) (ns : List N5) : Prop where
  blk : Blk w x 87 [.int .i64 mode, .slice (some ⟨g, 0, none⟩) ns.length cap]
  gb : Blk w g 28 (flat mc ns ++ sp)
  xg : g ≠ x
  nc : ns.length ≤ cap
  cm : cap ≤ maxLen
  cl : (flat mc ns ++ sp).length = cap * 5

theorem RepM.g {w : World} {x : Nat} {v : Value} {mode : Int} {ns : List N5} (r : RepM w x v mode ns) (h : 0 < ns.length) : ∃ g cap sp, v = .slice (some ⟨g, 0, none⟩) ns.length cap ∧ RepG w x g cap sp mode ns := by
  rcases r.row.form with ⟨_, hn, _⟩ | ⟨g, cap, sp, hv, hb, h1, h2, h3⟩
  · omega
  · subst hv
    refine ⟨g, cap, sp, rfl, r.blk, hb, ?_, h1, h2, h3⟩
    intro e
    exact r.xv (by rw [e]; rfl)

theorem RepG.m {w : World} {x g cap : Nat} {sp : List Value} {mode : Int} {ns : List N5} (r : RepG w x g cap sp mode ns) : RepM w x (.slice (some ⟨g, 0, none⟩) ns.length cap) mode ns :=
  ⟨r.blk, Row.of_blk r.gb (flat_length mc_length ns) r.nc r.cm r.cl, by simp [Value.ownBlock]; exact r.xg⟩

def ownG (x g k : Nat) : Prop := k = x ∨ k = g

theorem RepG.of_chg {S : Nat → Prop} {w w' : World} {x g cap : Nat} {sp : List Value} {mode : Int} {ns : List N5} (h : RepG w x g cap sp mode ns) (c : Chg S w w') (hS : ∀ k, S k → ¬ ownG x g k) : RepG w' x g cap sp mode ns :=
  { h with blk := c.blk h.blk (fun k => hS _ k (.inl rfl)), gb := c.blk h.gb (fun k => hS _ k (.inr rfl)) }

theorem RepG.quiet {w w' : World} {x g cap : Nat} {sp : List Value} {mode : Int} {ns : List N5} (h : RepG w x g cap sp mode ns) (c : Quiet w w') : RepG w' x g cap sp mode ns := h.of_chg c (fun _ f => f.elim)

theorem RepG.cells {w : World} {x g cap : Nat} {sp : List Value} {mode : Int} {ns : List N5} (h : RepG w x g cap sp mode ns) {i : Nat} {c : N5} (hi : ns[i]? = some c) :
    w.cell? ⟨g, i * 5, none⟩ = some (.int .i64 c.id) ∧ w.cell? ⟨g, i * 5 + 1, none⟩ = some (.int .i64 c.st) ∧ w.cell? ⟨g, i * 5 + 2, none⟩ = some (.int .i64 c.lead) ∧ w.cell? ⟨g, i * 5 + 3, none⟩ = some (.int .i64 c.reach) ∧ w.cell? ⟨g, i * 5 + 4, none⟩ = some (.int .i64 c.got) := by
  refine ⟨?_, ?_, ?_, ?_, ?_⟩
  · have := flat_get mc_length ns i 0 c sp hi (by omega)
    rw [Nat.add_zero] at this
    rw [h.gb.cell, this]; rfl
  · rw [h.gb.cell, flat_get mc_length ns i 1 c sp hi (by omega)]; rfl
  · rw [h.gb.cell, flat_get mc_length ns i 2 c sp hi (by omega)]; rfl
  · rw [h.gb.cell, flat_get mc_length ns i 3 c sp hi (by omega)]; rfl
  · rw [h.gb.cell, flat_get mc_length ns i 4 c sp hi (by omega)]; rfl

theorem RepG.set {w : World} {x g cap : Nat} {sp : List Value} {mode : Int} {ns : List N5} (h : RepG w x g cap sp mode ns) {i : Nat} {c : N5} (hi : ns[i]? = some c) (j : Nat) (hj : j < 5) (v : Value) (c' : N5) (e : (mc c).set j v = mc c') :
    RepG (w.setCell ⟨g, i * 5 + j, none⟩ v) x g cap sp mode (ns.set i c') ∧ (ns.set i c')[i]? = some c' ∧ Chg (ownG x g) w (w.setCell ⟨g, i * 5 + j, none⟩ v) := by
  have hl : (ns.set i c').length = ns.length := by simp
  refine ⟨⟨?_, ?_, h.xg, ?_, h.cm, ?_⟩, ?_, (Chg.refl _ w).setCell (.inl (.inr rfl)) v⟩
  · rw [hl]; exact h.blk.set_other (Ne.symm h.xg) _
  · have := h.gb.set (i * 5 + j) v
    rw [flat_set mc_length ns i j c c' v sp hi hj e] at this
    exact this
  · rw [hl]; exact h.nc
  · have := h.cl
    rw [List.length_append, flat_length mc_length] at this ⊢
    rw [hl]; exact this
  · have := (List.getElem?_eq_some_iff.1 hi).1
    simp [this]

set_option maxRecDepth 100000 in
set_option maxHeartbeats 2000000 in
theorem probes_any (w : World) (x g cap : Nat) (sp : List Value) (mode : Int) (ns : List N5) (r : RepG w x g cap sp mode ns) (i : Nat) (c : N5) (hi : ns[i]? = some c) :
    Calls Try.prog 53 #[ptr x, .int .i64 i] w fun e w' => e = .returned (ouV (probesP mode c)) ∧ Quiet w w' := by
  have hil := (List.getElem?_eq_some_iff.1 hi).1
  have hxl := r.blk.lt
  have hgl := r.gb.lt
  have i1 : (0 : Int) ≤ (i : Int) := by omega
  have i2 : (i : Int) < (ns.length : Int) := by omega
  unfold ptr
  go_enter Try.func53, Try.ntmps53
  go_wp2
  have bR := Blk.new w 57 [.int .i64 0, .int .i64 0, .int .i64 0, .int .i64 0, .int .i64 0, .int .i64 0]
  have rV := r.quiet ((Chg.refl _ w).alloc (.cells #[.int .i64 0, .int .i64 0, .int .i64 0, .int .i64 0, .int .i64 0, .int .i64 0] 57))
  have qV : Quiet w (w.alloc (.cells #[.int .i64 0, .int .i64 0, .int .i64 0, .int .i64 0, .int .i64 0, .int .i64 0] 57)) := (Chg.refl _ _).alloc _
  generalize w.alloc (.cells #[.int .i64 0, .int .i64 0, .int .i64 0, .int .i64 0, .int .i64 0, .int .i64 0] 57) = V at *
  obtain ⟨a0, a1, a2, a3, a4⟩ := rV.cells hi
  have x0 := rV.blk.cell 0
  have x1 := rV.blk.cell 1
  simp at x0 x1
  have hgV := rV.gb.lt
  have hxV := rV.blk.lt
  have hRV := bR.lt
  go_region_held3 (fun w' => w'.cell? ⟨x, 1, none⟩ = some (.slice (some ⟨g, 0, none⟩) ns.length cap) ∧ w'.cell? ⟨g, i * 5, none⟩ = some (.int .i64 c.id) ∧ w'.cell? ⟨g, i * 5 + 3, none⟩ = some (.int .i64 c.reach)) (go_keep) (fail)
  all_goals
    rename_i hHeld
    clear hHeld
    have bn := (Blk.new V 55 [.int .i64 1, .int .i64 c.id, .int .i64 c.reach]).drew
    have bR2 := (bR.alloc (.cells #[.int .i64 1, .int .i64 c.id, .int .i64 c.reach] 55)).drew
    have rW := rV.quiet (((Chg.refl _ V).alloc (.cells #[.int .i64 1, .int .i64 c.id, .int .i64 c.reach] 55)).drew)
    have qW : Quiet w (V.alloc (.cells #[.int .i64 1, .int .i64 c.id, .int .i64 c.reach] 55)).drew := (Chg.alloc qV _).drew
    clear a0 a1 a2 a3 a4 x0 x1 rV bR qV
    generalize (V.alloc (.cells #[.int .i64 1, .int .i64 c.id, .int .i64 c.reach] 55)).drew = W at *
    have x0 := rW.blk.cell 0
    have n0 := bn.cell 0
    have n1 := bn.cell 1
    have n2 := bn.cell 2
    have r0 := bR2.cell 0
    have r1 := bR2.cell 1
    have r2 := bR2.cell 2
    have r3 := bR2.cell 3
    have r4 := bR2.cell 4
    have r5 := bR2.cell 5
    simp at n0 n1 n2 r0 r1 r2 r3 r4 r5 x0
    have g0 := bR2.frozen 0
    have g1 := bR2.frozen 1
    have g2 := bR2.frozen 2
    have g3 := bR2.frozen 3
    have g4 := bR2.frozen 4
    have g5 := bR2.frozen 5
    have fin : Hid (∀ o, Blk (six W w.heap.size o) w.heap.size 57 (ouC o) ∧ Quiet w (six W w.heap.size o)) := by
      intro o
      exact ⟨six_blk bR2 o, qW.trans' (six_chg W w.heap.size o) (fun k hk e => by omega)⟩
    by_cases hm : mode = 0
    · have e : Hid (probesP mode c = ⟨⟨1, c.id, c.reach⟩, m0⟩) := by show _ = _; simp [probesP, hm]
      have b1 : (mode == 0) = true := by simpa using hm
      clear hm
      go_wp2
      rw [unhide e]
      exact bodyPost_ret (v := ouV ⟨⟨1, c.id, c.reach⟩, m0⟩) (results_blk (u := 57) (cs := ouC ⟨⟨1, c.id, c.reach⟩, m0⟩) Try.results53 rfl Try.isAgg57 Try.sizeOf57 (unhide fin ⟨⟨1, c.id, c.reach⟩, m0⟩).1) rfl ⟨rfl, (unhide fin ⟨⟨1, c.id, c.reach⟩, m0⟩).2⟩
    · have e : Hid (probesP mode c = ⟨⟨1, c.id, c.reach⟩, ⟨1, c.id, c.reach⟩⟩) := by show _ = _; simp [probesP, hm]
      have b1 : (mode == 0) = false := by simpa using hm
      clear hm
      go_wp2
      rw [unhide e]
      exact bodyPost_ret (v := ouV ⟨⟨1, c.id, c.reach⟩, ⟨1, c.id, c.reach⟩⟩) (results_blk (u := 57) (cs := ouC ⟨⟨1, c.id, c.reach⟩, ⟨1, c.id, c.reach⟩⟩) Try.results53 rfl Try.isAgg57 Try.sizeOf57 (unhide fin ⟨⟨1, c.id, c.reach⟩, ⟨1, c.id, c.reach⟩⟩).1) rfl ⟨rfl, (unhide fin ⟨⟨1, c.id, c.reach⟩, ⟨1, c.id, c.reach⟩⟩).2⟩
end Go.Proofs.Qxb6500369a
