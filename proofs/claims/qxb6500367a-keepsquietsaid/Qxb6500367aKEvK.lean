/-
  367 Keeps: Event over the law's world.
-/
import Derived.Test.Qxb6500367aKEv
namespace Go.Proofs.Qxb6500367a
open Go.RowKit Go.Qx
set_option linter.unusedSimpArgs false
set_option linter.unusedVariables false

/-- The law's world in memory. -/
def KX (B : Nat) (w : World) (g n : Nat) (S : Nat → Nd) (W : List M4) (C : Int) : Prop := ∃ vX vW vG P, KS B w g vX vW vG n P S S W ∧ LI n S W C
theorem KX.quiet {B : Nat} {w w' : World} {g n : Nat} {S : Nat → Nd} {W : List M4} {C : Int} (h : KX B w g n S W C) (q : Quiet w w') : KX B w' g n S W C := by
  obtain ⟨vX, vW, vG, P, K, L⟩ := h
  exact ⟨vX, vW, vG, P, K.quiet q, L⟩
theorem KX.mono {B : Nat} {w : World} {g n : Nat} {S : Nat → Nd} {W : List M4} {C C' : Int} (h : KX B w g n S W C) (hc : C ≤ C') : KX B w g n S W C' := by
  obtain ⟨vX, vW, vG, P, K, L⟩ := h
  exact ⟨vX, vW, vG, P, K, L.mono hc⟩

/-- What an event leaves. -/
def evR (B : Nat) (w : World) (g n : Nat) (C : Int) (m : Nat) (e : Ending) (w' : World) : Prop :=
  e = .returned (.bool true) ∧ (∃ S' W', KX B w' g n S' W' C ∧ ms W' ≤ m) ∧ Chg (fun k => B ≤ k) w w'
theorem evR_of {B : Nat} {w : World} {g : Nat} {vX vG : Value} {n : Nat} {P : Nat → Nat × Nat × Nat} {S' : Nat → Nd} {W' : List M4} {C : Int} {m : Nat} (L : LI n S' W' C) (hm : ms W' ≤ m) {e : Ending} {w' : World} (h : evPost B w g vX vG n P S' W' e w') : evR B w g n C m e w' := by
  obtain ⟨h1, ⟨vW', K⟩, h3⟩ := h
  exact ⟨h1, ⟨S', W', ⟨vX, vW', vG, P, K, L⟩, hm⟩, h3⟩

theorem ph_of {n : Nat} {S : Nat → Nd} {W : List M4} {C : Int} {i : Nat} {k f t CK MN PH AK : Int} {s' : Nd} (E : EvOk n S W C i k f t CK MN PH AK s') (hi : i < n) :
    s'.phase = PH ∨ (PH = 1 ∧ s'.phase = 2 ∧ s'.acks = (n : Int) - 1 ∧ firstTo (fun j => (upS S i s' j).mine) n = i ∧ insTo (fun j => (upS S i s' j).phase) n = 1) := by
  rcases E.ph with h | ⟨h1, h2, h3, h4, h5, h6⟩
  · exact .inl h
  · refine .inr ⟨h1, h2, h3, ?_, ?_⟩
    · refine firstTo_least _ hi (by simp only [upS_at]; exact h4) (fun k hk hne hm => ?_)
      simp only [upS_ne hne] at hm
      simp only [upS_at, upS_ne hne]
      exact h5 k hk hne hm
    · refine insTo_one _ i n hi (by simp only [upS_at]; exact h2) (fun j hj hne => ?_)
      simp only [upS_ne hne]
      exact h6 j hj hne

section
variable {B : Nat} {w : World} {g : Nat} {vX vW vG : Value} {n : Nat} {P : Nat → Nat × Nat × Nat} {S : Nat → Nd} {W : List M4} {C : Int}

theorem evk_ask (K : KS B w g vX vW vG n P S S W) (L : LI n S W C) (hC : C ≤ 1152921504606846000) {i : Nat} (hi : i < n) (h0 : (S i).phase = 0) (b c : Int) (s t : ByteArray) (qu : Bool) :
    Calls Try.prog 26 #[ptr g, .agg #[.int .i64 1, .int .i64 i, .int .i64 b, .int .i64 c, .string s, .string t], .bool qu, .bool false] w (evR B w g n (C + 2) 72) := by
  obtain ⟨s', E⟩ := L.ask hi hC h0 b c
  have hck := L.clk hi
  have L2 := E.li
  rw [← E.ck] at L2
  have h36 := L2.ai.len36 L.n4
  have hnd := L2.nd i hi
  rw [upS_at] at hnd
  have T : TakeOk n S i 1 b c s' 1 := by
    refine ⟨?_, .inl ⟨rfl, h0, rfl, E.ck, E.mn, E.ak, fun e => one_in hnd.1 (by rw [hnd.2.1, e])⟩, ph_of E hi⟩
    unfold owedP
    rw [if_neg (by omega), if_neg (by omega), if_neg (by omega), if_neg (by omega), if_neg (by omega)]
  refine (evn_take K hi L.inv ⟨hck.1, by omega⟩ 1 b c s t qu false s' 1 E.step T L2 (L.nd i hi).2.2 ?_ ?_).mono (fun e w' h => evR_of L2 (ms_le h36) h)
  · rw [if_pos (by omega), List.length_append, sendAll_len n i hi L.n4]
  · intro V' hr
    exact post_1 V' vW W hr n L.n4 i b c s t s'.clock h36

theorem evk_quit (K : KS B w g vX vW vG n P S S W) (L : LI n S W C) (hC : C ≤ 1152921504606846000) {i : Nat} (hi : i < n) (h0 : (S i).phase = 2) (b c : Int) (s t : ByteArray) (qu : Bool) :
    Calls Try.prog 26 #[ptr g, .agg #[.int .i64 2, .int .i64 i, .int .i64 b, .int .i64 c, .string s, .string t], .bool qu, .bool false] w (evR B w g n (C + 2) 72) := by
  obtain ⟨s', E⟩ := L.quit hi hC h0 b c
  have hck := L.clk hi
  have L2 := E.li
  rw [← E.ck] at L2
  have h36 := L2.ai.len36 L.n4
  have T : TakeOk n S i 2 b c s' 0 := by
    refine ⟨?_, .inr (.inl ⟨rfl, h0, rfl, E.ck, E.mn, E.ak⟩), ph_of E hi⟩
    unfold owedP
    rw [if_neg (by omega), if_neg (by omega), if_neg (by omega), if_neg (by omega), if_neg (by omega)]
  refine (evn_take K hi L.inv ⟨hck.1, by omega⟩ 2 b c s t qu false s' 0 E.step T L2 (L.nd i hi).2.2 ?_ ?_).mono (fun e w' h => evR_of L2 (ms_le h36) h)
  · rw [if_pos (by omega), List.length_append, sendAll_len n i hi L.n4]
  · intro V' hr
    exact post_2 V' vW W hr n L.n4 i b c s t s'.clock h36

/-- What the script may play by itself. -/
theorem evk_any (h : KX B w g n S W C) (hC : C ≤ 1152921504606846000) {i : Nat} (hi : i < n) (k b c : Int) (s t : ByteArray) (qu : Bool) (hk : k ≠ 6 ∧ k ≠ 7 ∧ k ≠ 8) (hf : 3 ≤ k → k ≤ 5 → owedP n i (S i) k b c ≠ 0) :
    Calls Try.prog 26 #[ptr g, .agg #[.int .i64 k, .int .i64 i, .int .i64 b, .int .i64 c, .string s, .string t], .bool qu, .bool false] w (evR B w g n (C + 2) 72) := by
  obtain ⟨vX, vW, vG, P, K, L⟩ := h
  have h36 := L.ai.len36 L.n4
  have L2 := L.mono (show C ≤ C + 2 by omega)
  by_cases h9 : k = 9
  · subst h9
    exact (evn_show K L hi b c s t qu).mono (fun e w' h => evR_of L2 (ms_le h36) h)
  by_cases h10 : k = 10
  · subst h10
    exact (evn_check K L hi b c s t qu).mono (fun e w' h => evR_of L2 (ms_le h36) h)
  by_cases hO : owedP n i (S i) k b c = 0
  · have hO' := hO
    unfold owedP at hO
    by_cases h1 : k < 1 ∨ 5 < k
    · rw [if_pos h1] at hO; omega
    by_cases h3 : 3 ≤ k
    · exact absurd hO' (hf h3 (by omega))
    rw [if_neg h1, if_neg (by omega), if_neg (by omega)] at hO
    by_cases hk1 : k = 1
    · subst hk1
      by_cases hp : (S i).phase = 0
      · exact evk_ask K L hC hi hp b c s t qu
      · rw [if_pos ⟨rfl, hp⟩] at hO; omega
    · have hk2 : k = 2 := by omega
      subst hk2
      by_cases hp : (S i).phase = 2
      · exact evk_quit K L hC hi hp b c s t qu
      · rw [if_neg (by omega), if_pos ⟨rfl, hp⟩] at hO; omega
  · exact (evn_err K L hC hi k b c s t qu (by omega) hO).mono (fun e w' h => evR_of L2 (ms_le h36) h)
end

/-- What a link brings. -/
theorem evk_del {B : Nat} {w : World} {g : Nat} {vX vW vG : Value} {n : Nat} {P : Nat → Nat × Nat × Nat} {S : Nat → Nd} {C : Int} {L1 L2 : List M4} {m : M4} (K : KS B w g vX vW vG n P S S (L1 ++ L2)) (L : LI n S (L1 ++ m :: L2) C) (hC : C ≤ 1152921504606846000) (hold : ∀ x, x ∈ L1 → ¬ (x.f = m.f ∧ x.t = m.t)) (s t : ByteArray) (qu : Bool) :
    Calls Try.prog 26 #[ptr g, .agg #[.int .i64 m.k, .int .i64 m.t, .int .i64 m.f, .int .i64 m.c, .string s, .string t], .bool qu, .bool true] w (evR B w g n (C + 2) (ms (L1 ++ m :: L2) - 1)) := by
  obtain ⟨hf, ht, hft, hc1, hcC, hk⟩ := L.ai.msg m (by simp)
  have hck := L.clk ht
  have hac := L.acks ht
  have how : ∀ k, k = 3 ∨ k = 4 ∨ k = 5 → owedP n m.t (S m.t) k m.f m.c = 0 := by
    intro k hk
    unfold owedP
    rw [if_neg (by omega), if_neg (by omega), if_neg (by omega), if_neg (by omega), if_neg (by omega)]
  have hmsx : ∀ k, m.k = k → k ≠ 3 → ms (L1 ++ L2) ≤ ms (L1 ++ m :: L2) - 1 := by
    intro k hk h3
    have : ¬ m.k = 3 := by omega
    simp only [ms, List.length_append, List.length_cons, List.countP_append, List.countP_cons]
    omega
  obtain ⟨mk, mf, mt, mc⟩ := m
  simp only at *
  rcases hk with rfl | rfl | rfl
  · obtain ⟨s', E⟩ := L.req hold hC rfl
    simp only at E
    have L2' := E.li
    rw [← E.ck] at L2'
    have hak : ackTo n mt mf s'.clock = [⟨4, mt, mf, s'.clock⟩] := by unfold ackTo; rw [if_pos hf]
    rw [← hak] at L2'
    have h36 := L2'.ai.len36 L.n4
    have T : TakeOk n S mt 3 mf mc s' (S mt).phase := ⟨how 3 (by omega), .inr (.inr ⟨⟨hc1, by omega⟩, hac, rfl, E.mn, .inl ⟨rfl, E.ck, E.ak⟩⟩), ph_of E ht⟩
    refine (evn_take K ht L.inv ⟨hck.1, by omega⟩ 3 mf mc s t qu true s' _ E.step T L2' (L.nd mt ht).2.2 ?_ ?_).mono (fun e w' h => evR_of L2' ?_ h)
    · rw [if_neg (by omega), if_pos rfl, List.length_append, hak]; rfl
    · intro V' hr
      exact post_3 V' vW (L1 ++ L2) hr n L.n4 mt mf hft hf mc s t s'.clock h36
    · rw [hak]
      simp only [ms, List.length_append, List.length_cons, List.countP_append, List.countP_cons]
      simp
      omega
  · obtain ⟨hp1, s', E⟩ := L.ack hold hC rfl
    simp only at E hp1
    have L2' := E.li
    have T : TakeOk n S mt 4 mf mc s' (S mt).phase := by
      have hph := ph_of E ht
      rw [← hp1] at hph
      exact ⟨how 4 (by omega), .inr (.inr ⟨⟨hc1, by omega⟩, hac, rfl, E.mn, .inr (.inl ⟨rfl, E.ck, E.ak⟩)⟩), by rw [hp1] at hph ⊢; exact hph⟩
    refine (evn_take K ht L.inv ⟨hck.1, by omega⟩ 4 mf mc s t qu true s' _ E.step T L2' (L.nd mt ht).2.2 ?_ ?_).mono (fun e w' h => evR_of L2' (hmsx 4 rfl (by omega)) h)
    · rw [if_neg (by omega), if_neg (by omega)]; rfl
    · intro V' hr
      exact post_4 V' vW (L1 ++ L2) hr n 4 mt mf mc (by omega) s t s'.clock
  · obtain ⟨s', E⟩ := L.rel hold hC rfl
    simp only at E
    have L2' := E.li
    have T : TakeOk n S mt 5 mf mc s' (S mt).phase := ⟨how 5 (by omega), .inr (.inr ⟨⟨hc1, by omega⟩, hac, rfl, E.mn, .inr (.inr ⟨rfl, E.ck, E.ak⟩)⟩), ph_of E ht⟩
    refine (evn_take K ht L.inv ⟨hck.1, by omega⟩ 5 mf mc s t qu true s' _ E.step T L2' (L.nd mt ht).2.2 ?_ ?_).mono (fun e w' h => evR_of L2' (hmsx 5 rfl (by omega)) h)
    · rw [if_neg (by omega), if_neg (by omega)]; rfl
    · intro V' hr
      exact post_4 V' vW (L1 ++ L2) hr n 5 mt mf mc (by omega) s t s'.clock
end Go.Proofs.Qxb6500367a
