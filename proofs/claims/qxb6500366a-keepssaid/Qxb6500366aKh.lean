/-
  KEEPS: holds; step at any op. (gen6kh.py)
-/
import Derived.Test.Qxb6500366aKb
import Derived.Test.Qxb6500366aKs
import Derived.Test.Qxb6500366aKt2
import Derived.Test.Qxb6500366aKt4
import Derived.Test.Qxb6500366aKt1
namespace Go.Proofs.Qxb6500366a
open Go.RowKit Go.Qx
set_option linter.unusedVariables false
set_option linter.unusedSimpArgs false

set_option maxHeartbeats 2000000 in
theorem holds_any (w : World) (x tb mb g gx gy : Nat) (tr : List Pt) (d : Pt) (R : Rep w x tb mb tr d) (G : RepG w g gx gy tr d) (I : Inv tr d) : Calls Try.prog 12 #[ptr x, ptr g] w (okPost w true) := by
  have h1 := hide (stands_any w x tb mb g gx gy tr d R G I)
  have h2 : Hid (∀ W, Quiet w W → Calls Try.prog 19 #[ptr x, ptr g] W (okPost W true)) := fun W q => tied_any W x tb mb g gx gy tr d (R.quiet q) (G.quiet q) I
  have h3 : Hid (∀ W, Quiet w W → Calls Try.prog 20 #[ptr x, ptr g] W (okPost W true)) := fun W q => boxed_any W x tb mb g gx gy tr d (R.quiet q) (G.quiet q) I
  have h4 : Hid (∀ W, Quiet w W → Calls Try.prog 21 #[ptr x] W fun e w' => e = .returned (.int .i64 (areaTo tr tr.length)) ∧ Quiet W w') := fun W q => by
    have h := area_any W x tb mb _ tr d (R.quiet q) I.bd.pos (I.bd.fits I.few).1 I.one (I.small _ (List.getElem_mem _))
    rw [area_all tr I.one] at h; exact h
  have h5 : Hid (∀ W, Quiet w W → Calls Try.prog 22 #[ptr g] W fun e w' => e = .returned (.int .i64 (areaTo tr tr.length)) ∧ Quiet W w') := fun W q => by
    have h := swept_any W g gx gy tr d (G.quiet q) I.small
    rw [swept_all tr I.one] at h; exact h
  have h6 : Hid (∀ W, Quiet w W → Calls Try.prog 23 #[ptr x] W (okPost W true)) := fun W q => check_any W x tb mb tr d (R.quiet q) I
  unfold okPost ptr at *
  generalize areaTo tr tr.length = A at *
  clear R G I
  go_enter Try.func12, Try.ntmps12
  go_wp2_with fail
  refine (unhide h1).mono ?_
  clear h1
  rintro e w1 ⟨rfl, q1⟩
  have q1H := hide q1
  clear q1
  go_wp2_with fail
  refine (unhide h2 _ (unhide q1H)).mono ?_
  clear h2
  rintro e w2 ⟨rfl, q2⟩
  have q2H := hide (Quiet.trans (unhide q1H) q2)
  clear q2 q1H
  go_wp2_with fail
  refine (unhide h3 _ (unhide q2H)).mono ?_
  clear h3
  rintro e w3 ⟨rfl, q3⟩
  have q3H := hide (Quiet.trans (unhide q2H) q3)
  clear q3 q2H
  go_wp2_with fail
  refine (unhide h4 _ (unhide q3H)).mono ?_
  clear h4
  rintro e w4 ⟨rfl, q4⟩
  have q4H := hide (Quiet.trans (unhide q3H) q4)
  clear q4 q3H
  go_wp2_with fail
  refine (unhide h5 _ (unhide q4H)).mono ?_
  clear h5
  rintro e w5 ⟨rfl, q5⟩
  have q5H := hide (Quiet.trans (unhide q4H) q5)
  clear q5 q4H
  go_wp2_with fail
  refine (unhide h6 _ (unhide q5H)).mono ?_
  clear h6
  rintro e w6 ⟨rfl, q6⟩
  have q6H := hide (Quiet.trans (unhide q5H) q6)
  clear q6 q5H
  go_wp2
  go_ret
  exact ⟨by first | rfl | simp, unhide q6H⟩

theorem step_any (w : World) (x tb mb g gx gy : Nat) (σ : St) (p : Opr) (G : RepG w g gx gy σ.tr σ.d) (I : σ.Ok) (RX : RepS w x tb mb (nextP σ p)) :
    Calls Try.prog 14 #[ptr x, ptr g, opv p.k p.a p.b p.c p.s p.t, ansv (ansP σ p).e (ansP σ p).n (ansP σ p).m (ansP σ p).s] w (stepPost w g gx gy (nextP σ p).tr (nextP σ p).d) := by
  obtain ⟨pk, pa, pb, pc, ps, pt⟩ := p
  have fin : ∀ {E N M S K}, (ansP σ ⟨pk, pa, pb, pc, ps, pt⟩ = ⟨E, N, M, S⟩) → nextP σ ⟨pk, pa, pb, pc, ps, pt⟩ = K → Calls Try.prog 14 #[ptr x, ptr g, opv pk pa pb pc ps pt, ansv E N M S] w (stepPost w g gx gy K.tr K.d) →
      Calls Try.prog 14 #[ptr x, ptr g, opv pk pa pb pc ps pt, ansv (ansP σ ⟨pk, pa, pb, pc, ps, pt⟩).e (ansP σ ⟨pk, pa, pb, pc, ps, pt⟩).n (ansP σ ⟨pk, pa, pb, pc, ps, pt⟩).m (ansP σ ⟨pk, pa, pb, pc, ps, pt⟩).s] w (stepPost w g gx gy (nextP σ ⟨pk, pa, pb, pc, ps, pt⟩).tr (nextP σ ⟨pk, pa, pb, pc, ps, pt⟩).d) := by
    intro E N M S K e1 e2 h
    rw [e1, e2]; exact h
  by_cases h1 : pk = 1
  · subst h1
    refine fin (E := fwE σ.tr (runOf σ.tr) σ.d pa) (N := 0) (M := 0) (S := ⟨#[]⟩) (K := ⟨fwT σ.tr (runOf σ.tr) σ.d pa, σ.d⟩) (by simp [ansP]) (by simp [nextP]) ?_
    by_cases hf : pa < -2097152 ∨ 2097152 < pa
    · exact step_far w x tb mb g gx gy σ.tr σ.d _ _ _ pa pb pc ps pt G I hf
    · by_cases h0 : fwE σ.tr (runOf σ.tr) σ.d pa = 0
      · exact step_go w x tb mb g gx gy σ.tr σ.d _ _ _ pa pb pc ps pt G I hf h0
      · exact step_near w x tb mb g gx gy σ.tr σ.d _ _ _ pa pb pc ps pt G I hf h0
  by_cases h2 : pk = 2
  · subst h2
    have e2 : nextP σ ⟨2, pa, pb, pc, ps, pt⟩ = ⟨σ.tr, quart σ.d (modP pa)⟩ := by simp [nextP]
    rw [e2] at RX
    exact fin (E := 0) (N := 0) (M := 0) (S := ⟨#[]⟩) (by simp [ansP]) e2 (step_turn w x tb mb g gx gy σ.tr σ.d _ _ _ _ pa pb pc ps pt G I RX)
  by_cases h3 : pk = 3
  · subst h3
    exact fin (E := 0) (N := 0) (M := 0) (S := ⟨#[]⟩) (K := ⟨σ.tr.map conjP, conjP σ.d⟩) (by simp [ansP]) (by simp [nextP]) (step_mirror w x tb mb g gx gy σ.tr σ.d _ _ _ _ pa pb pc ps pt G I)
  by_cases h4 : pk = 4
  · subst h4
    exact fin (E := unE σ.tr) (N := 0) (M := 0) (S := ⟨#[]⟩) (K := ⟨unT σ.tr, σ.d⟩) (by simp [ansP]) (by simp [nextP]) (step_undo w x tb mb g gx gy σ.tr σ.d _ _ _ pa pb pc ps pt G I)
  by_cases h5 : pk = 5
  · subst h5
    exact fin (E := 0) (N := 0) (M := 0) (S := ⟨#[]⟩) (K := ⟨[σ.tr.getD (σ.tr.length - 1) (0, 0)], σ.d⟩) (by simp [ansP]) (by simp [nextP]) (step_reset w x tb mb g gx gy σ.tr σ.d _ _ _ _ pa pb pc ps pt G I)
  have e2 : nextP σ ⟨pk, pa, pb, pc, ps, pt⟩ = σ := by simp [nextP, h1, h2, h3, h4, h5]
  rw [e2] at RX
  by_cases h8 : pk = 8
  · subst h8
    exact fin (E := 0) (N := amongP σ.tr (pa, pb) σ.tr.length) (M := 0) (S := ⟨#[]⟩) (by simp [ansP]) e2 (step_seen w x tb mb g gx gy σ.tr σ.d _ _ _ _ pa pb pc ps pt G I rfl)
  by_cases h10 : pk = 10
  · subst h10
    exact fin (E := 0) (N := bestTo σ.tr (quart (1, 0) (modP pa)) σ.tr.length) (M := 0) (S := ⟨#[]⟩) (by simp [ansP]) e2 (step_reach w x tb mb g gx gy σ.tr σ.d _ _ _ _ pa pb pc ps pt G I RX (reach_all σ.tr I.one I.small pa).symm)
  exact fin rfl e2 (step_none w x tb mb g gx gy σ.tr σ.d pk _ _ _ _ pa pb pc ps pt G I (by simpa using h1) (by simpa using h4) (by simpa using h5) (by simpa using h3) (by simpa using h2) (by simpa using h8) (by simpa using h10))
end Go.Proofs.Qxb6500366a
