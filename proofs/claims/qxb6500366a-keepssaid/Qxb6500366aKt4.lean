/-
  KEEPS: step at Undo and at Reset. (gen6kt4.py)
-/
import Derived.Test.Qxb6500366aKt
import Derived.Deep.DeepCutAuto
namespace Go.Proofs.Qxb6500366a
open Go.RowKit Go.Qx
set_option linter.unusedVariables false
set_option linter.unusedSimpArgs false

theorem RepG.cut {w : World} {g gx gy : Nat} {tr : List Pt} {d : Pt} (h : RepG w g gx gy tr d) (tr' : List Pt) (b : Nat) (hb : tr'.length = b) (hle : b ≤ tr.length) (hp : ∀ i (h1 : i < tr'.length) (h2 : i < tr.length), tr'[i] = tr[i]) :
    RepG ((w.setCell ⟨g, 0, none⟩ (.slice (some ⟨gx, 0, none⟩) b 24)).setCell ⟨g, 1, none⟩ (.slice (some ⟨gy, 0, none⟩) b 24)) g gx gy tr' d := by
  have cS : Chg (fun k => k = g) w ((w.setCell ⟨g, 0, none⟩ (.slice (some ⟨gx, 0, none⟩) b 24)).setCell ⟨g, 1, none⟩ (.slice (some ⟨gy, 0, none⟩) b 24)) := ((Chg.refl (fun k => k = g) w).setCell (p := ⟨g, 0, none⟩) (.inl rfl) _).setCell (p := ⟨g, 1, none⟩) (.inl rfl) _
  obtain ⟨cs, B1, h1, h2⟩ := h.xs
  obtain ⟨ds, B2, h3, h4⟩ := h.ys
  have hf := h.few
  refine ⟨?_, ⟨cs, cS.blk B1 (fun e => h.nx e.symm), h1, fun i hi => ?_⟩, ⟨ds, cS.blk B2 (fun e => h.ny e.symm), h3, fun i hi => ?_⟩, by omega, h.nx, h.ny, h.xy⟩
  · rw [hb]; exact (h.own.set 0 _).set 1 _
  · rw [hp i hi (by omega)]; exact h2 i (by omega)
  · rw [hp i hi (by omega)]; exact h4 i (by omega)

set_option maxRecDepth 100000 in
set_option maxHeartbeats 8000000 in
theorem step_undo (w : World) (x tb mb g gx gy : Nat) (tr : List Pt) (d : Pt) (N M : Int) (R : ByteArray) (a b c : Int) (s t : ByteArray) (G : RepG w g gx gy tr d) (I : Inv tr d)  :
    Calls Try.prog 14 #[ptr x, ptr g, opv 4 a b c s t, ansv (unE tr) N M R] w (stepPost w g gx gy (unT tr) d) := by
  obtain ⟨E, hE⟩ : ∃ E, unE tr = E := ⟨_, rfl⟩
  rw [hE]
  have hq0 : Hid (Quiet w ((w.alloc (.cells #[.int .i64 4, .int .i64 a, .int .i64 b, .int .i64 c, .string s, .string t] 39)).alloc (.cells #[.int .i64 E, .int .i64 N, .int .i64 M, .string R] 36))) := Chg.alloc (Chg.alloc (Chg.refl (fun _ => False) w) _) _
  have bo : Hid (Blk ((w.alloc (.cells #[.int .i64 4, .int .i64 a, .int .i64 b, .int .i64 c, .string s, .string t] 39)).alloc (.cells #[.int .i64 E, .int .i64 N, .int .i64 M, .string R] 36)) w.heap.size 39 [.int .i64 4, .int .i64 a, .int .i64 b, .int .i64 c, .string s, .string t]) := (Blk.new w 39 [.int .i64 4, .int .i64 a, .int .i64 b, .int .i64 c, .string s, .string t]).alloc _
  have ba : Hid (Blk ((w.alloc (.cells #[.int .i64 4, .int .i64 a, .int .i64 b, .int .i64 c, .string s, .string t] 39)).alloc (.cells #[.int .i64 E, .int .i64 N, .int .i64 M, .string R] 36)) (w.heap.size + 1) 36 [.int .i64 E, .int .i64 N, .int .i64 M, .string R]) := by
    have h := Blk.new (w.alloc (.cells #[.int .i64 4, .int .i64 a, .int .i64 b, .int .i64 c, .string s, .string t] 39)) 36 [.int .i64 E, .int .i64 N, .int .i64 M, .string R]
    rw [show (w.alloc (.cells #[.int .i64 4, .int .i64 a, .int .i64 b, .int .i64 c, .string s, .string t] 39)).heap.size = w.heap.size + 1 by simp] at h
    exact h
  obtain ⟨W0, hW0⟩ : ∃ W, ((w.alloc (.cells #[.int .i64 4, .int .i64 a, .int .i64 b, .int .i64 c, .string s, .string t] 39)).alloc (.cells #[.int .i64 E, .int .i64 N, .int .i64 M, .string R] 36)) = W := ⟨_, rfl⟩
  rw [hW0] at hq0 bo ba
  have G0 := G.quiet (unhide hq0)
  obtain ⟨hm, hml⟩ := modP_spec a
  have hmb : -4 < a.tmod 4 ∧ a.tmod 4 < 4 := by
    have h1 := Int.lt_tmod_of_pos a (show (0 : Int) < 4 by decide)
    have h2 := Int.tmod_lt_of_pos a (show (0 : Int) < 4 by decide)
    omega
  have um1 : wrap64 (a.tmod 4 + 4) = a.tmod 4 + 4 := by unfold wrap64; omega
  have um2 : wrap64 (a.tmod 4) = a.tmod 4 := by unfold wrap64; omega
  have um3 : wrap64 ((modP a : Nat) : Int) = ((modP a : Nat) : Int) := wrap_small _ (by omega)
  have o0 := (unhide bo).cell 0
  have o1 := (unhide bo).cell 1
  have o2 := (unhide bo).cell 2
  have a0 := (unhide ba).cell 0
  have a1 := (unhide ba).cell 1
  simp at o0 o1 o2 a0 a1
  obtain ⟨g0, g1, g2, g3⟩ := G0.cells
  clear hmb
  have few := G0.few
  have one := I.one
  unfold unE at hE
  unfold unT
  have f0 := G0.own.frozen 0
  have f1 := G0.own.frozen 1
  by_cases h : tr.length < 2
  · rw [if_pos h] at hE ⊢
    have k1 : ((tr.length : Int) == 1) = true := by rw [beq_iff_eq]; omega
    have fin : Hid (stepPost w g gx gy tr d (.returned (.bool true)) W0) := ⟨rfl, Quiet.chg (unhide hq0) _, G0⟩
    subst hE
    generalize modP a = r at *
    clear G0 G I few one h hml
    unfold ptr opv ansv ansC
    go_enter Try.func14, Try.ntmps14
    go_wp2
    go_ret
    exact unhide fin
  · rw [if_neg h] at hE ⊢
    have k1 : ((tr.length : Int) == 1) = false := by rw [beq_eq_false_iff_ne]; omega
    obtain ⟨p, hp⟩ : ∃ p, tr.length - 1 = p := ⟨_, rfl⟩
    have v5 : wrap64 ((tr.length : Int) - 1) = (p : Int) := by unfold wrap64; omega
    have v6 : IntKind.i64.wrap ((tr.length : Int) - 1) = (p : Int) := by rw [IntKind.wrap_i64]; omega
    have k3 : (0 : Int) ≤ (p : Int) := by omega
    have k4 : (p : Int) ≤ 24 := by omega
    have k5 : p ≤ 24 := by omega
    have k6 : ¬ 24 = p := by omega
    have FIN : Hid (∀ W, W = ((W0.setCell ⟨g, 0, none⟩ (.slice (some ⟨gx, 0, none⟩) p 24)).setCell ⟨g, 1, none⟩ (.slice (some ⟨gy, 0, none⟩) p 24)) → stepPost w g gx gy tr.dropLast d (.returned (.bool true)) W.drew) := by
      rintro W rfl
      have hR := RepG.cut G0 tr.dropLast p (by rw [List.length_dropLast]; exact hp) (by omega) (fun i h1 h2 => by rw [List.getElem_dropLast])
      refine ⟨rfl, ?_, hR.quiet (Chg.drew (Chg.refl (fun _ => False) _))⟩
      exact (((Quiet.chg (unhide hq0) (ownG g gx gy)).setCell (p := ⟨g, 0, none⟩) (.inl (.inl rfl)) _).setCell (p := ⟨g, 1, none⟩) (.inl (.inl rfl)) _).drew
    have gl := G.own.lt
    have ba2H : Hid ((((W0.setCell ⟨g, 0, none⟩ (.slice (some ⟨gx, 0, none⟩) p 24)).setCell ⟨g, 1, none⟩ (.slice (some ⟨gy, 0, none⟩) p 24)).drew).cell? ⟨w.heap.size + 1, 0, none⟩ = some (.int .i64 E)) :=
      ((((unhide ba).set_other (a := ⟨g, 0, none⟩) (show w.heap.size + 1 ≠ g by omega) (.slice (some ⟨gx, 0, none⟩) p 24)).set_other (a := ⟨g, 1, none⟩) (show w.heap.size + 1 ≠ g by omega) (.slice (some ⟨gy, 0, none⟩) p 24)).drew).cell 0
    subst hE
    generalize modP a = r at *
    clear G0 G I few one h hml hp gl
    unfold ptr opv ansv ansC
    go_enter Try.func14, Try.ntmps14
    go_wp2
    go_region
    have fin := hide (unhide FIN _ rfl)
    have ba2 := unhide ba2H
    clear FIN a0 a1 o0 o1 o2 g0 g1 g2 g3 f0 f1 ba bo ba2H
    generalize ((W0.setCell ⟨g, 0, none⟩ (.slice (some ⟨gx, 0, none⟩) p 24)).setCell ⟨g, 1, none⟩ (.slice (some ⟨gy, 0, none⟩) p 24)).drew = W1 at *
    go_wp2
    go_ret
    exact unhide fin

set_option maxRecDepth 100000 in
set_option maxHeartbeats 8000000 in
theorem step_reset (w : World) (x tb mb g gx gy : Nat) (tr : List Pt) (d : Pt) (E N M : Int) (R : ByteArray) (a b c : Int) (s t : ByteArray) (G : RepG w g gx gy tr d) (I : Inv tr d)  :
    Calls Try.prog 14 #[ptr x, ptr g, opv 5 a b c s t, ansv E N M R] w (stepPost w g gx gy [tr.getD (tr.length - 1) (0, 0)] d) := by
  have hq0 : Hid (Quiet w ((w.alloc (.cells #[.int .i64 5, .int .i64 a, .int .i64 b, .int .i64 c, .string s, .string t] 39)).alloc (.cells #[.int .i64 E, .int .i64 N, .int .i64 M, .string R] 36))) := Chg.alloc (Chg.alloc (Chg.refl (fun _ => False) w) _) _
  have bo : Hid (Blk ((w.alloc (.cells #[.int .i64 5, .int .i64 a, .int .i64 b, .int .i64 c, .string s, .string t] 39)).alloc (.cells #[.int .i64 E, .int .i64 N, .int .i64 M, .string R] 36)) w.heap.size 39 [.int .i64 5, .int .i64 a, .int .i64 b, .int .i64 c, .string s, .string t]) := (Blk.new w 39 [.int .i64 5, .int .i64 a, .int .i64 b, .int .i64 c, .string s, .string t]).alloc _
  have ba : Hid (Blk ((w.alloc (.cells #[.int .i64 5, .int .i64 a, .int .i64 b, .int .i64 c, .string s, .string t] 39)).alloc (.cells #[.int .i64 E, .int .i64 N, .int .i64 M, .string R] 36)) (w.heap.size + 1) 36 [.int .i64 E, .int .i64 N, .int .i64 M, .string R]) := by
    have h := Blk.new (w.alloc (.cells #[.int .i64 5, .int .i64 a, .int .i64 b, .int .i64 c, .string s, .string t] 39)) 36 [.int .i64 E, .int .i64 N, .int .i64 M, .string R]
    rw [show (w.alloc (.cells #[.int .i64 5, .int .i64 a, .int .i64 b, .int .i64 c, .string s, .string t] 39)).heap.size = w.heap.size + 1 by simp] at h
    exact h
  obtain ⟨W0, hW0⟩ : ∃ W, ((w.alloc (.cells #[.int .i64 5, .int .i64 a, .int .i64 b, .int .i64 c, .string s, .string t] 39)).alloc (.cells #[.int .i64 E, .int .i64 N, .int .i64 M, .string R] 36)) = W := ⟨_, rfl⟩
  rw [hW0] at hq0 bo ba
  have G0 := G.quiet (unhide hq0)
  obtain ⟨hm, hml⟩ := modP_spec a
  have hmb : -4 < a.tmod 4 ∧ a.tmod 4 < 4 := by
    have h1 := Int.lt_tmod_of_pos a (show (0 : Int) < 4 by decide)
    have h2 := Int.tmod_lt_of_pos a (show (0 : Int) < 4 by decide)
    omega
  have um1 : wrap64 (a.tmod 4 + 4) = a.tmod 4 + 4 := by unfold wrap64; omega
  have um2 : wrap64 (a.tmod 4) = a.tmod 4 := by unfold wrap64; omega
  have um3 : wrap64 ((modP a : Nat) : Int) = ((modP a : Nat) : Int) := wrap_small _ (by omega)
  have o0 := (unhide bo).cell 0
  have o1 := (unhide bo).cell 1
  have o2 := (unhide bo).cell 2
  have a0 := (unhide ba).cell 0
  have a1 := (unhide ba).cell 1
  simp at o0 o1 o2 a0 a1
  obtain ⟨g0, g1, g2, g3⟩ := G0.cells
  clear hmb
  have few := G0.few
  have one := I.one
  rw [getD_get tr (tr.length - 1) (by omega)]
  obtain ⟨p, hp⟩ : ∃ p, tr.length - 1 = p := ⟨_, rfl⟩
  have v5 : wrap64 ((tr.length : Int) - 1) = (p : Int) := by unfold wrap64; omega
  have v6 : IntKind.i64.wrap ((tr.length : Int) - 1) = (p : Int) := by rw [IntKind.wrap_i64]; omega
  have k3 : (0 : Int) ≤ (p : Int) := by omega
  have k4 : (p : Int) < (tr.length : Int) := by omega
  have k5 : (0 : Int) < (tr.length : Int) := by omega
  obtain ⟨r0, r1⟩ := G0.at (tr.length - 1) (by omega)
  obtain ⟨z0, z1⟩ := G0.at 0 one
  generalize tr[tr.length - 1] = q at *
  rw [hp] at r0 r1
  obtain ⟨cs, B1, h1, h2⟩ := G0.xs
  obtain ⟨ds, B2, h3, h4⟩ := G0.ys
  have fx := B1.frozen 0
  have fy := B2.frozen 0
  have xyn : gx ≠ gy := G0.xy
  have yw : ∀ n, ((W0.drewN n).setCell ⟨gx, 0, none⟩ (.int .i64 q.1)).cell? ⟨gy, 0, none⟩ = some (.int .i64 tr[0].2) := fun n => cell_set_ne (by exact z1) (.inl xyn)
  have G1H : Hid (∀ n, RepG (((W0.drewN n).setCell ⟨gx, 0, none⟩ (.int .i64 q.1)).setCell ⟨gy, 0, none⟩ (.int .i64 q.2)) g gx gy (tr.set 0 q) d) := fun n => by
    have o := ((G0.own.drewN n).set_other (a := ⟨gx, 0, none⟩) G0.nx (.int .i64 q.1)).set_other (a := ⟨gy, 0, none⟩) G0.ny (.int .i64 q.2)
    refine ⟨by rw [List.length_set]; exact o, ⟨cs.set 0 (.int .i64 q.1), ((B1.drewN n).set 0 _).set_other (a := ⟨gy, 0, none⟩) xyn _, by simpa using h1, fun i hi => ?_⟩, ⟨ds.set 0 (.int .i64 q.2), ((B2.drewN n).set_other (a := ⟨gx, 0, none⟩) (Ne.symm xyn) _).set 0 _, by simpa using h3, fun i hi => ?_⟩, by rw [List.length_set]; exact few, G0.nx, G0.ny, G0.xy⟩
    · rw [List.length_set] at hi
      by_cases e : i = 0
      · subst e; rw [List.getElem?_set_self (by omega), List.getElem_set_self]
      · rw [List.getElem?_set_ne (by omega), List.getElem_set_ne (by omega)]; exact h2 i hi
    · rw [List.length_set] at hi
      by_cases e : i = 0
      · subst e; rw [List.getElem?_set_self (by omega), List.getElem_set_self]
      · rw [List.getElem?_set_ne (by omega), List.getElem_set_ne (by omega)]; exact h4 i hi
  have C1H : Hid (∀ n, Chg (ownG g gx gy) w (((W0.drewN n).setCell ⟨gx, 0, none⟩ (.int .i64 q.1)).setCell ⟨gy, 0, none⟩ (.int .i64 q.2))) := fun n =>
    ((Chg.drewN (Quiet.chg (unhide hq0) (ownG g gx gy)) n).setCell (p := ⟨gx, 0, none⟩) (.inl (.inr (.inl rfl))) _).setCell (p := ⟨gy, 0, none⟩) (.inl (.inr (.inr rfl))) _
  have oneH := hide one
  generalize modP a = r at *
  clear G0 G I few hml hp B1 B2 h1 h2 h3 h4
  unfold ptr opv ansv ansC
  go_enter Try.func14, Try.ntmps14
  go_wp2
  refine wp_region_noPanic ?_
  try simp only [List.append_eq, List.cons_append, List.nil_append]
  refine wp_region_mix [(0, true), (1, true), (2, true), (3, true), (4, true), (5, true), (6, true), (7, true), (8, true), (9, true), (10, true), (11, true), (12, true), (13, true), (14, true), (15, true), (16, true), (17, true), (18, true), (19, true), (20, true), (21, true), (22, true), (23, true), (24, true)] [25, 26, 27] (by kernel_rfl) (by kernel_rfl) (fun _ _ _ _ _ h => h) ?_
  simp only [pickM, pickO, List.getElem?_cons_zero, List.getElem?_cons_succ]
  repeat (first | (refine wpMix_read rfl (fun K hK => ?_)) | (refine wpMix_pure rfl (fun K hK => ?_))
          go_big_quiet_op
          first | (refine hK _ ?_; clear hK K))
  refine wpMix_nil ?_
  intro _ hw'
  obtain ⟨nq, hw''⟩ := hw'
  subst hw''
  have G1 := unhide G1H nq
  have C1 := unhide C1H nq
  have G1' := hide G1
  have C1' := hide C1
  clear G1 C1 G1H C1H
  have ywq := yw nq
  clear yw
  go_wp2
  refine NoPanic.normal ?_
  clear ywq fx fy z0 z1 r0 r1 v5 v6 k3 k4 g0 g1 g2 g3 o0 o1 o2 a0 a1 hm um1 um2 um3
  generalize ((W0.drewN nq).setCell ⟨gx, 0, none⟩ (.int .i64 q.1)).setCell ⟨gy, 0, none⟩ (.int .i64 q.2) = W1 at *
  obtain ⟨g0, g1, _, _⟩ := (unhide G1').cells
  rw [List.length_set] at g0 g1
  have f0 := (unhide G1').own.frozen 0
  have f1 := (unhide G1').own.frozen 1
  have FIN : Hid (∀ W, W = ((W1.setCell ⟨g, 0, none⟩ (.slice (some ⟨gx, 0, none⟩) 1 24)).setCell ⟨g, 1, none⟩ (.slice (some ⟨gy, 0, none⟩) 1 24)) → stepPost w g gx gy [q] d (.returned (.bool true)) W.drew) := by
    rintro W rfl
    have hR := RepG.cut (unhide G1') [q] 1 rfl (by rw [List.length_set]; exact unhide oneH) (fun i h1 h2 => by
      have e : i = 0 := by simp at h1; omega
      subst e
      rw [List.getElem_set_self]; rfl)
    refine ⟨rfl, ?_, hR.quiet (Chg.drew (Chg.refl (fun _ => False) _))⟩
    exact (((unhide C1').setCell (p := ⟨g, 0, none⟩) (.inl (.inl rfl)) _).setCell (p := ⟨g, 1, none⟩) (.inl (.inl rfl)) _).drew
  go_wp2
  go_region
  go_wp2
  go_ret
  exact unhide FIN _ rfl
end Go.Proofs.Qxb6500366a
