/-
  The abstract ring's Step whole; the real ring's Step whole.
-/
import Derived.Test.Qxb6500369aMStepB
namespace Go.Proofs.Qxb6500369a
open Go.RowKit Go.Qx
set_option linter.unusedSimpArgs false
set_option linter.unusedVariables false

set_option maxRecDepth 100000 in
set_option maxHeartbeats 2000000 in
theorem mstep_bad (w : World) (x : Nat) (v : Value) (mode : Int) (ns : List N5) (r : RepM w x v mode ns) (i dir : Int) (m : Ms) (E : Int)
    (h : (mode = -1 ∧ E = 1) ∨ (mode ≠ -1 ∧ (i < 0 ∨ (ns.length : Int) ≤ i) ∧ E = 5) ∨ (mode ≠ -1 ∧ 0 ≤ i ∧ i < (ns.length : Int) ∧ (dir < 0 ∨ mode < dir) ∧ E = 6)) :
    Calls Try.prog 47 #[ptr x, .int .i64 i, .int .i64 dir, msV m] w fun e w' => e = .returned (.tuple #[ouV o0, .int .i64 E]) ∧ Quiet w w' := by
  have hbx := boxed w m
  obtain ⟨ao, cap, rfl⟩ := r.row.shape
  have hxl := r.blk.lt
  have c0 := r.blk.cell 0
  have c1 := r.blk.cell 1
  simp at c0 c1
  unfold ptr msV
  obtain ⟨mk, mi, mh⟩ := m
  simp only at hbx ⊢
  rcases h with ⟨rfl, rfl⟩ | ⟨h1, h2, rfl⟩ | ⟨h1, h2, h3, h4, rfl⟩
  · go_enter Try.func47, Try.ntmps47
    go_wp2
    refine bodyPost_ret (v := .tuple #[ouV o0, .int .i64 1]) (by simp [results, Try.results47, go_sem, ouV, o0, m0]) rfl ⟨rfl, ?_⟩
    exact hbx.q
  · have b1 : (mode == -1) = false := by simpa using h1
    have h2' : i < 0 ∨ (0 ≤ i ∧ (ns.length : Int) ≤ i) := by omega
    clear h1 h2
    rcases h2' with h | ⟨h, h3⟩
    all_goals
      go_enter Try.func47, Try.ntmps47
      go_wp2
      refine bodyPost_ret (v := .tuple #[ouV o0, .int .i64 5]) (by simp [results, Try.results47, go_sem, ouV, o0, m0]) rfl ⟨rfl, ?_⟩
      exact hbx.q
  · have b1 : (mode == -1) = false := by simpa using h1
    have h4' : dir < 0 ∨ (0 ≤ dir ∧ mode < dir) := by omega
    clear h1 h4
    rcases h4' with h | ⟨h, h5⟩
    all_goals
      go_enter Try.func47, Try.ntmps47
      go_wp2
      refine bodyPost_ret (v := .tuple #[ouV o0, .int .i64 6]) (by simp [results, Try.results47, go_sem, ouV, o0, m0]) rfl ⟨rfl, ?_⟩
      exact hbx.q

/-- The rules together. -/
theorem mrule_any (w : World) (x g cap : Nat) (sp : List Value) (mode : Int) (ns : List N5) (r : RepG w x g cap sp mode ns) (i : Nat) (c : N5) (hi : ns[i]? = some c) (hre : 0 ≤ c.reach) (dir : Int) (hm : mode = 0 ∨ mode = 1) (hd0 : 0 ≤ dir) (hd1 : dir ≤ mode) (m : Ms) (hhop : m.hop ≤ 9223372036854775807) :
    Calls Try.prog 47 #[ptr x, .int .i64 i, .int .i64 dir, msV m] w (mstepPost w x g cap sp mode (ns.set i (ruleP mode c dir m).1) (ruleP mode c dir m).2) := by
  obtain ⟨mk, mi, mh⟩ := m
  simp only at hhop
  have same : ∀ {o : Ou}, ruleP mode c dir ⟨mk, mi, mh⟩ = (c, o) → Calls Try.prog 47 #[ptr x, .int .i64 i, .int .i64 dir, msV ⟨mk, mi, mh⟩] w (mstepPost w x g cap sp mode ns o) → Calls Try.prog 47 #[ptr x, .int .i64 i, .int .i64 dir, msV ⟨mk, mi, mh⟩] w (mstepPost w x g cap sp mode (ns.set i (ruleP mode c dir ⟨mk, mi, mh⟩).1) (ruleP mode c dir ⟨mk, mi, mh⟩).2) := by
    intro o e h
    rw [e, set_same hi]; exact h
  by_cases e4 : mk = 4
  · subst e4
    by_cases er : c.reach = 0
    · rw [show ruleP mode c dir ⟨4, mi, mh⟩ = ({ c with reach := 1 }, probesP mode { c with reach := 1 }) by simp [ruleP, er]]
      exact mstep_r0 w x g cap sp mode ns r i c hi dir hm hd0 hd1 4 mi mh hhop (hide rfl) (hide er)
    · exact same (by simp [ruleP, er]) (mstep_s4 w x g cap sp mode ns r i c hi dir hm hd0 hd1 4 mi mh hhop (hide rfl) (hide er))
  by_cases e1 : mk = 1
  · subst e1
    rcases Int.lt_trichotomy mi c.id with hlt | heq | hgt
    · have a1 : ¬ mi = c.id := by omega
      have a2 : ¬ c.id < mi := by omega
      exact same (by simp [ruleP, a1, a2]) (mstep_s1b w x g cap sp mode ns r i c hi dir hm hd0 hd1 1 mi mh hhop (hide rfl) (hide hlt))
    · by_cases es : c.st = 2
      · exact same (by simp [ruleP, heq, es]) (mstep_s1a w x g cap sp mode ns r i c hi dir hm hd0 hd1 1 mi mh hhop (hide rfl) (hide heq) (hide es))
      · rw [show ruleP mode c dir ⟨1, mi, mh⟩ = ({ c with st := 2, lead := c.id }, ⟨⟨3, c.id, 0⟩, m0⟩) by simp [ruleP, heq, es]]
        exact mstep_r1 w x g cap sp mode ns r i c hi dir hm hd0 hd1 1 mi mh hhop (hide rfl) (hide heq) (hide es)
    · have a1 : ¬ mi = c.id := by omega
      rcases hm with h0 | h1
      · exact same (by simp [ruleP, a1, hgt, h0]) (mstep_r2 w x g cap sp mode ns r i c hi dir (.inl h0) hd0 hd1 1 mi mh hhop (hide rfl) (hide hgt) (hide h0))
      · by_cases hh : 1 < mh
        · exact same (by simp [ruleP, a1, hgt, h1, hh]) (mstep_r3 w x g cap sp mode ns r i c hi dir (.inr h1) hd0 hd1 1 mi mh hhop (hide rfl) (hide hgt) (hide h1) (hide hh))
        · exact same (by simp [ruleP, a1, hgt, h1, hh]) (mstep_r4 w x g cap sp mode ns r i c hi dir (.inr h1) hd0 hd1 1 mi mh hhop (hide rfl) (hide hgt) (hide h1) (hide hh))
  by_cases e2 : mk = 2
  · subst e2
    rcases hm with h0 | h1
    · exact same (by simp [ruleP, h0]) (mstep_s2a w x g cap sp mode ns r i c hi dir (.inl h0) hd0 hd1 2 mi mh hhop (hide rfl) (hide h0))
    · by_cases ei : mi = c.id
      · by_cases r1 : c.reach < 1
        · have a1 : ¬ 1 ≤ c.reach := by omega
          exact same (by simp [ruleP, h1, ei, a1]) (mstep_s2b w x g cap sp mode ns r i c hi dir (.inr h1) hd0 hd1 2 mi mh hhop (hide rfl) (hide ei) (hide h1) (hide r1))
        · by_cases r8 : 8 ≤ c.reach
          · have a1 : ¬ c.reach < 8 := by omega
            exact same (by simp [ruleP, h1, ei, a1]) (mstep_s2c w x g cap sp mode ns r i c hi dir (.inr h1) hd0 hd1 2 mi mh hhop (hide rfl) (hide ei) (hide h1) (hide r8))
          · have a1 : 1 ≤ c.reach := by omega
            have a2 : c.reach < 8 := by omega
            by_cases hg : c.got = 0
            · rw [show ruleP mode c dir ⟨2, mi, mh⟩ = ({ c with got := 1 }, o0) by simp [ruleP, h1, ei, a1, a2, hg]]
              exact mstep_r6 w x g cap sp mode ns r i c hi dir (.inr h1) hd0 hd1 2 mi mh hhop (hide rfl) (hide ei) (hide h1) (hide a1) (hide a2) (hide hg)
            · rw [show ruleP mode c dir ⟨2, mi, mh⟩ = ({ c with got := 0, reach := 2 * c.reach }, probesP mode { c with got := 0, reach := 2 * c.reach }) by simp [ruleP, h1, ei, a1, a2, hg]]
              exact mstep_r7 w x g cap sp mode ns r i c hi dir (.inr h1) hd0 hd1 2 mi mh hhop (hide rfl) (hide ei) (hide h1) (hide a1) (hide a2) (hide hg)
      · exact same (by simp [ruleP, h1, ei]) (mstep_r5 w x g cap sp mode ns r i c hi dir (.inr h1) hd0 hd1 2 mi mh hhop (hide rfl) (hide ei) (hide h1))
  by_cases e3 : mk = 3
  · subst e3
    by_cases ei : mi = c.id
    · exact same (by simp [ruleP, ei]) (mstep_s3 w x g cap sp mode ns r i c hi dir hm hd0 hd1 3 mi mh hhop (hide rfl) (hide ei))
    · rw [show ruleP mode c dir ⟨3, mi, mh⟩ = ({ c with st := 1, lead := mi }, ⟨⟨3, mi, mh⟩, m0⟩) by simp [ruleP, ei]]
      exact mstep_r8 w x g cap sp mode ns r i c hi dir hm hd0 hd1 3 mi mh hhop (hide rfl) (hide ei)
  · exact same (by simp [ruleP, e4, e1, e2, e3]) (mstep_s0 w x g cap sp mode ns r i c hi dir hm hd0 hd1 mk mi mh hhop (by simpa using e4) (by simpa using e1) (by simpa using e2) (by simpa using e3))

theorem mode_of {mode : Int} (h : mode = -1 ∨ mode = 0 ∨ mode = 1) (hn : ¬ mode = -1) : mode = 0 ∨ mode = 1 := by omega

theorem getD_of {ns : List N5} {j : Nat} (h : j < ns.length) : ns.getD j z5 = ns[j] := by
  rw [List.getD_eq_getElem?_getD, List.getElem?_eq_getElem h]; rfl

theorem mstep_any (w : World) (x : Nat) (v : Value) (mode : Int) (ns : List N5) (r : RepM w x v mode ns) (hmo : mode = -1 ∨ mode = 0 ∨ mode = 1) (hok : ∀ c ∈ ns, Ok5 mode c) (i dir : Int) (m : Ms) (hhop : m.hop ≤ 9223372036854775807) :
    Calls Try.prog 47 #[ptr x, .int .i64 i, .int .i64 dir, msV m] w fun e w' => e = .returned (.tuple #[ouV (stepP mode ns i dir m).1, .int .i64 (stepP mode ns i dir m).2.1]) ∧ Chg (ownM x v) w w' ∧ RepM w' x v mode (stepP mode ns i dir m).2.2 := by
  have bad : ∀ {E : Int}, stepP mode ns i dir m = (o0, E, ns) → (Calls Try.prog 47 #[ptr x, .int .i64 i, .int .i64 dir, msV m] w fun e w' => e = .returned (.tuple #[ouV o0, .int .i64 E]) ∧ Quiet w w') → Calls Try.prog 47 #[ptr x, .int .i64 i, .int .i64 dir, msV m] w fun e w' => e = .returned (.tuple #[ouV (stepP mode ns i dir m).1, .int .i64 (stepP mode ns i dir m).2.1]) ∧ Chg (ownM x v) w w' ∧ RepM w' x v mode (stepP mode ns i dir m).2.2 := by
    intro E e h
    rw [e]
    exact h.mono fun e w' ⟨h1, h2⟩ => ⟨h1, h2.chg _, r.quiet h2⟩
  by_cases h1 : mode = -1
  · exact bad (by simp [stepP, h1]) (mstep_bad w x v mode ns r i dir m 1 (.inl ⟨h1, rfl⟩))
  by_cases h2 : i < 0 ∨ (ns.length : Int) ≤ i
  · exact bad (by simp only [stepP, h1, h2, if_true, if_false]) (mstep_bad w x v mode ns r i dir m 5 (.inr (.inl ⟨h1, h2, rfl⟩)))
  by_cases h3 : dir < 0 ∨ mode < dir
  · exact bad (by simp only [stepP, h1, h2, h3, if_true, if_false]) (mstep_bad w x v mode ns r i dir m 6 (.inr (.inr ⟨h1, by omega, by omega, h3, rfl⟩)))
  obtain ⟨j, rfl⟩ : ∃ j : Nat, i = j := ⟨i.toNat, by omega⟩
  have hjl : j < ns.length := by omega
  have hm := mode_of hmo h1
  have hoc := hok ns[j] (List.getElem_mem hjl)
  have e : stepP mode ns j dir m = ((machP mode ns[j] dir m).2, 0, ns.set j (machP mode ns[j] dir m).1) := by
    simp only [stepP, h1, h2, h3, if_false, Int.toNat_natCast, getD_of hjl]
  rw [e]
  obtain ⟨g, cap, sp, hv, rG⟩ := r.g (by omega)
  subst hv
  have hr : 0 ≤ ns[j].reach := by have := hoc.reach; omega
  have := mrule_any w x g cap sp mode ns rG j ns[j] (List.getElem?_eq_getElem hjl) hr dir hm (by omega) (by omega) m hhop
  rw [rule_mach mode hm] at this
  refine this.mono fun e w' ⟨h1, h2, h3⟩ => ⟨h1, h2.mono ?_, ?_⟩
  · rintro k _ (h | h)
    · exact .inl h
    · exact .inr (by rw [h]; rfl)
  · have h4 := h3.m
    rw [List.length_set] at h4
    exact h4

theorem rstep_any (w : World) (x a b : Nat) (mode : Int) (ns : List N5) (ord : List Int) (r : Rep w x a b mode ns ord) (hmo : mode = -1 ∨ mode = 0 ∨ mode = 1) (hok : ∀ c ∈ ns, Ok5 mode c) (i dir : Int) (m : Ms) (hhop : m.hop ≤ 9223372036854775807) :
    Calls Try.prog 25 #[ptr x, .int .i64 i, .int .i64 dir, msV m] w (stepPost w x a b mode ord (stepP mode ns i dir m)) := by
  by_cases h1 : mode = -1
  · rw [show stepP mode ns i dir m = (o0, 1, ns) by simp [stepP, h1]]
    exact step_bad w x a b mode ns ord r i dir m 1 (.inl ⟨h1, rfl⟩)
  by_cases h2 : i < 0 ∨ (ns.length : Int) ≤ i
  · rw [show stepP mode ns i dir m = (o0, 5, ns) by simp only [stepP, h1, h2, if_true, if_false]]
    exact step_bad w x a b mode ns ord r i dir m 5 (.inr (.inl ⟨h1, h2, rfl⟩))
  by_cases h3 : dir < 0 ∨ mode < dir
  · rw [show stepP mode ns i dir m = (o0, 6, ns) by simp only [stepP, h1, h2, h3, if_true, if_false]]
    exact step_bad w x a b mode ns ord r i dir m 6 (.inr (.inr ⟨h1, by omega, by omega, h3, rfl⟩))
  obtain ⟨j, rfl⟩ : ∃ j : Nat, i = j := ⟨i.toNat, by omega⟩
  have hjl : j < ns.length := by omega
  have hm := mode_of hmo h1
  have hoc := hok ns[j] (List.getElem_mem hjl)
  have hf := flags_of hoc.st hoc.got
  have e : stepP mode ns j dir m = ((machP mode ns[j] dir m).2, 0, ns.set j (machP mode ns[j] dir m).1) := by
    simp only [stepP, h1, h2, h3, if_false, Int.toNat_natCast, getD_of hjl]
  rw [e]
  rcases hm with rfl | rfl
  · exact step_cr w x a b ns ord r j ns[j] (List.getElem?_eq_getElem hjl) hf hoc.got hoc.reach dir (by omega) m hhop
  · exact step_hs w x a b ns ord r j ns[j] (List.getElem?_eq_getElem hjl) hf hoc.got hoc.reach dir (by omega) m hhop
end Go.Proofs.Qxb6500369a
