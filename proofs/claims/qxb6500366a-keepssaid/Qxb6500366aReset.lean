/-
  THE REAL TURTLE: Reset. (gen6reset.py)
-/
import Derived.Test.Qxb6500366aShow
namespace Go.Proofs.Qxb6500366a
open Go.RowKit Go.Qx
set_option linter.unusedVariables false
set_option linter.unusedSimpArgs false

def resetPost (w : World) (x : Nat) (pts : List Pt) (d : Pt) (e : Ending) (w' : World) : Prop :=
  ∃ tb mb, e = .returned (.tuple #[]) ∧ Chg (fun k => k = x) w w' ∧ w.heap.size ≤ tb ∧ w.heap.size ≤ mb ∧ RepR w' x tb mb (runOf pts) pts d

set_option maxRecDepth 100000 in
set_option maxHeartbeats 2000000 in
theorem reset_any (w : World) (x tb mb : Nat) (tr : List Pt) (d : Pt) (R : Rep w x tb mb tr d) (I : Inv tr d) : Calls Try.prog 28 #[ptr x] w (resetPost w x [tr.getD (tr.length - 1) (0, 0)] d) := by
  obtain ⟨vp, vd, vl, vh, vo, h1, h2, h3, h4, h5, B⟩ := R.own
  obtain ⟨cs, BT, hcs, hrow⟩ := R.row
  have h0 := I.one
  have few := I.few
  obtain ⟨u, hu, cu⟩ := hrow (tr.length - 1) (by omega)
  have hsm := I.small _ (List.getElem_mem (show tr.length - 1 < tr.length by omega))
  have hgd : tr.getD (tr.length - 1) (0, 0) = tr[tr.length - 1] := by rw [List.getD_eq_getElem?_getD, List.getElem?_eq_getElem (by omega)]; rfl
  have y2 := B.cell 2
  simp [turC] at y2
  have hag := hide (fun m => again_any (w.drewN m) x tb (tr.length - 1) (24 - (tr.length - 1)) vp vd _ _ _ vl vh vo [tr.getD (tr.length - 1) (0, 0)] d (B.drewN m) h2
    (fun i hi => by
      have e : i = 0 := by simp at hi; omega
      subst e
      refine ⟨u, ?_, by simp only [List.getElem_cons_zero]; rw [hgd]; exact cu⟩
      rw [Nat.add_zero]
      exact ((BT.drewN m).cell _).trans hu) (Ne.symm R.xt) (by simp) (by simp) (by intro p hp; simp only [List.mem_singleton] at hp; subst hp; rw [hgd]; exact hsm))
  unfold againPost at hag
  have hM : tr.length = (tr.length - 1) + 1 := by omega
  clear R B BT h1 h3 h4 h5 hrow hu cu hsm hgd I hcs h2
  simp only [List.length_singleton] at hag
  generalize hLL : tr.getD (tr.length - 1) (0, 0) = LL at *
  clear hLL
  generalize tr.length - 1 = M at *
  generalize tr.length = N at *
  have e1 : (N : Int) - 1 = (M : Int) := by omega
  have s1 : (0 : Int) ≤ (M : Int) := by omega
  have s2 : (M : Int) ≤ (N : Int) := by omega
  have s3 : N - M = 1 := by omega
  have m24 : ¬ 24 = M := by omega
  have m24b : (24 == M) = false := by simpa using m24
  have lt5 : M < 1073741824 := by omega
  have w1' : IntKind.i64.wrap (M : Int) = (M : Int) := by rw [IntKind.wrap_i64]; omega
  have w1 : wrap64 (M : Int) = (M : Int) := wrap_small _ lt5
  clear hM h0 few lt5
  unfold resetPost
  unfold ptr at *
  go_enter Try.func28, Try.ntmps28
  go_wp2
  refine wp_region_noPanic ?_
  try simp only [List.append_eq, List.cons_append, List.nil_append]
  refine wp_region_mix [(0, true), (1, true), (2, true), (3, true), (4, true), (5, true), (6, true), (7, true), (8, true), (9, true), (10, true), (11, true)] [12] (by kernel_rfl) (by kernel_rfl) (fun _ _ _ _ _ h => h) ?_
  simp only [pickM, pickO, List.getElem?_cons_zero, List.getElem?_cons_succ]
  repeat (first | (refine wpMix_read rfl (fun K hK => ?_)) | (refine wpMix_pure rfl (fun K hK => ?_))
          go_big_quiet_op
          first | (refine hK _ ?_; clear hK K))
  refine wpMix_nil ?_
  intro _ hw'
  obtain ⟨nq, hw''⟩ := hw'
  subst hw''
  go_wp2_with fail
  refine (unhide hag nq).mono ?_
  clear hag
  rintro e w1 ⟨tb', mb', rfl, ch, ht, hm, R1⟩
  have fin : Hid (Chg (fun k => k = x) w w1 ∧ w.heap.size ≤ tb' ∧ w.heap.size ≤ mb' ∧ RepR w1 x tb' mb' (runOf [LL]) [LL] d) := ⟨Chg.trans ((Chg.refl _ _).drewN nq) ch, ht, hm, R1⟩
  clear ch ht hm R1
  go_wp2
  refine NoPanic.normal ?_
  go_wp2
  go_end0
  exact ⟨tb', mb', rfl, (unhide fin).1, (unhide fin).2.1, (unhide fin).2.2.1, (unhide fin).2.2.2⟩
end Go.Proofs.Qxb6500366a
