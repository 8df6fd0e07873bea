/-
  367 Keeps: an answer and a release are delivered; the dry wire. Plainly.
-/
import Derived.Test.Qxb6500367aKLam2
namespace Go.Proofs.Qxb6500367a
set_option linter.unusedVariables false
set_option linter.unusedSimpArgs false

section
variable {n : Nat} {V : Nat → Vw} {W : List M4} {C : Int} {L1 L2 : List M4} {m : M4}

/-- AN ANSWER is taken. -/
theorem AI.ack (A : AI n V (L1 ++ m :: L2) C) (hold : ∀ x, x ∈ L1 → ¬ (x.f = m.f ∧ x.t = m.t)) (hk : m.k = 4) :
    ((V m.t).ph = 1 ∧ (V m.t).gt m.f = false ∧ (V m.t).mn < m.c) ∧ ∀ (v : Vw), v.ck = max (V m.t).ck m.c + 1 → v.mn = (V m.t).mn → v.hd = (V m.t).hd → v.ph = (V m.t).ph → (∀ j, j < n → v.gt j = if j = m.f then true else (V m.t).gt j) →
      AI n (upW V m.t v) (L1 ++ L2) (C + 2) := by
  have hmem : m ∈ L1 ++ m :: L2 := by simp
  obtain ⟨hf, ht, hft, hc1, hcC, _⟩ := A.msg m hmem
  have h4 : fl (L1 ++ m :: L2) 4 m.f m.t := ⟨m, hmem, hk, rfl, rfl⟩
  obtain ⟨hg0, hm0, hno3⟩ := A.g2 m.t m.f ht hf (fun e => hft e.symm) h4
  have Lt := A.loc m.t ht
  have hp1 : (V m.t).ph = 1 := by
    rcases Lt.ph with h | h | h
    · exact absurd (Lt.idle.1 h) hm0
    · exact h
    · have := Lt.ins h m.f hf hft
      rw [hg0] at this; cases this
  refine ⟨⟨hp1, hg0, A.akt m hmem hk⟩, ?_⟩
  intro v hck hmn hhd hph hgt
  have hgone := key_gone A.pr
  rw [hk] at hgone
  have hmnE : ∀ j, (upW V m.t v j).mn = (V j).mn := fun j => by
    by_cases e : j = m.t
    · rw [e, upW_at, hmn]
    · rw [upW_ne e]
  have hhdE : ∀ j, (upW V m.t v j).hd = (V j).hd := fun j => by
    by_cases e : j = m.t
    · rw [e, upW_at, hhd]
    · rw [upW_ne e]
  have hphE : ∀ j, (upW V m.t v j).ph = (V j).ph := fun j => by
    by_cases e : j = m.t
    · rw [e, upW_at, hph]
    · rw [upW_ne e]
  have hgtE : ∀ a b, b < n → ¬ (a = m.t ∧ b = m.f) → (upW V m.t v a).gt b = (V a).gt b := fun a b hb h => by
    by_cases e : a = m.t
    · rw [e, upW_at, hgt b hb, if_neg (fun e' => h ⟨e, e'⟩)]
    · rw [upW_ne e]
  have hup : ∀ k i j, fl (L1 ++ L2) k i j → fl (L1 ++ m :: L2) k i j := fun k i j h => fl_mid.2 (.inl h)
  have hdn : ∀ k i j, ¬ (k = 4 ∧ i = m.f ∧ j = m.t) → fl (L1 ++ m :: L2) k i j → fl (L1 ++ L2) k i j := fun k i j hne h => by
    rcases fl_mid.1 h with h | ⟨h1, h2, h4⟩
    · exact h
    · exact absurd ⟨by omega, h2.symm, h4.symm⟩ hne
  have hckm : (V m.t).ck ≤ v.ck ∧ v.ck ≤ C + 2 := by
    have := Int.le_max_left (V m.t).ck m.c
    have : max (V m.t).ck m.c ≤ C := Int.max_le.2 ⟨Lt.c1, hcC⟩
    omega
  refine ⟨?_, ?_, ?_, ?_, ?_, ?_, ?_, ?_, ?_, ?_, ?_, ?_, ?_⟩
  · intro j hj
    by_cases e : j = m.t
    · subst e; rw [upW_at]
      refine ⟨by rw [hph]; exact Lt.ph, by rw [hph, hmn]; exact Lt.idle, by rw [hhd, hmn]; exact Lt.own, by have := Lt.c0; omega, by omega, by rw [hhd]; exact Lt.h0, ?_, ?_, ?_⟩
      · intro k hk'; rw [hhd]; have := Lt.h1 k hk'; omega
      · intro h; rw [hph] at h; omega
      · intro h; rw [hph] at h; omega
    · rw [upW_ne e]
      have L := A.loc j hj
      exact { L with c1 := by have := L.c1; omega }
  · intro x hx
    obtain ⟨h1, h2, h4, h5, h6, h7⟩ := A.msg x (mem_mid hx)
    exact ⟨h1, h2, h4, h5, by omega, h7⟩
  · exact (mid_pr A.pr).imp (fun {a b} h => PR_same h (fun _ _ _ _ h' => by rw [hmnE, hmnE]; exact h'))
  · intro x hx h; rw [hmnE]; exact A.rqt x (mem_mid hx) h
  · intro x hx h; rw [hmnE]; exact A.akt x (mem_mid hx) h
  · intro a b ha hb hne h3' h5'
    rw [hmnE, hhdE]
    exact A.v1 a b ha hb hne (fun h => h3' (hdn _ _ _ (fun h => by omega) h)) (fun h => h5' (hdn _ _ _ (fun h => by omega) h))
  · intro a b ha hb hne h3'
    rw [hmnE, hhdE]
    obtain ⟨h1, h2⟩ := A.v2 a b ha hb hne (hup _ _ _ h3')
    refine ⟨h1, ?_⟩
    rcases h2 with h | h
    · exact .inl (hdn _ _ _ (fun h => by omega) h)
    · exact .inr h
  · intro a b ha hb hne h5'
    rw [hmnE, hhdE]
    obtain ⟨h1, h2⟩ := A.v3 a b ha hb hne (hup _ _ _ h5')
    refine ⟨h1, ?_⟩
    rcases h2 with h | h
    · exact .inl (hdn _ _ _ (fun h => by omega) h)
    · exact .inr h
  · intro a b ha hb hne hg
    rw [hmnE]
    by_cases e : a = m.t ∧ b = m.f
    · obtain ⟨rfl, rfl⟩ := e
      exact ⟨hm0, fun h => hno3 (hup _ _ _ h), hgone⟩
    · rw [hgtE a b hb e] at hg
      obtain ⟨h1, h2, h4⟩ := A.g1 a b ha hb hne hg
      exact ⟨h1, fun h => h2 (hup _ _ _ h), fun h => h4 (hup _ _ _ h)⟩
  · intro a b ha hb hne h4'
    have e : ¬ (a = m.t ∧ b = m.f) := fun e => by obtain ⟨rfl, rfl⟩ := e; exact hgone h4'
    rw [hmnE, hgtE a b hb e]
    obtain ⟨h1, h2, h5⟩ := A.g2 a b ha hb hne (hup _ _ _ h4')
    exact ⟨h1, h2, fun h => h5 (hup _ _ _ h)⟩
  · intro a b ha hb hne hm hg
    rw [hmnE] at hm
    by_cases e : a = m.t ∧ b = m.f
    · obtain ⟨rfl, rfl⟩ := e
      rw [upW_at, hgt m.f hf, if_pos rfl] at hg; cases hg
    · rw [hgtE a b hb e] at hg
      rcases A.g3 a b ha hb hne hm hg with h | h
      · exact .inl (hdn _ _ _ (fun h => by omega) h)
      · exact .inr (hdn _ _ _ (fun h => e ⟨h.2.2, h.2.1⟩) h)
  · intro a b ha hb hne hg h3'
    rw [hmnE, hmnE]
    by_cases e : a = m.t ∧ b = m.f
    · obtain ⟨rfl, rfl⟩ := e
      obtain ⟨x, _, h1, h2, h5, hpr⟩ := younger A.pr hold h3'
      exact hpr.2.2 hk h1 h2.symm h5.symm
    · rw [hgtE a b hb e] at hg
      exact A.i1 a b ha hb hne hg (hup _ _ _ h3')
  · intro a k ha hk' hne h2 hm
    rw [hphE] at h2
    rw [hmnE] at hm
    rw [hmnE, hmnE]
    exact A.ins a k ha hk' hne h2 hm

/-- A RELEASE is taken. -/
theorem AI.rel (A : AI n V (L1 ++ m :: L2) C) (hold : ∀ x, x ∈ L1 → ¬ (x.f = m.f ∧ x.t = m.t)) (hk : m.k = 5) :
    (V m.t).hd m.f ≠ 0 ∧ ∀ (v : Vw), v.ck = max (V m.t).ck m.c + 1 → v.mn = (V m.t).mn → v.gt = (V m.t).gt → v.ph = (V m.t).ph → (∀ j, j < n → v.hd j = if j = m.f then 0 else (V m.t).hd j) →
      AI n (upW V m.t v) (L1 ++ L2) (C + 2) := by
  have hmem : m ∈ L1 ++ m :: L2 := by simp
  obtain ⟨hf, ht, hft, hc1, hcC, _⟩ := A.msg m hmem
  have h5 : fl (L1 ++ m :: L2) 5 m.f m.t := ⟨m, hmem, hk, rfl, rfl⟩
  obtain ⟨hh0, hor⟩ := A.v3 m.f m.t hf ht hft h5
  refine ⟨hh0, ?_⟩
  intro v hck hmn hgt hph hhd
  have Lt := A.loc m.t ht
  have hgone := key_gone A.pr
  rw [hk] at hgone
  have hmnE : ∀ j, (upW V m.t v j).mn = (V j).mn := fun j => by
    by_cases e : j = m.t
    · rw [e, upW_at, hmn]
    · rw [upW_ne e]
  have hgtE : ∀ j, (upW V m.t v j).gt = (V j).gt := fun j => by
    by_cases e : j = m.t
    · rw [e, upW_at, hgt]
    · rw [upW_ne e]
  have hphE : ∀ j, (upW V m.t v j).ph = (V j).ph := fun j => by
    by_cases e : j = m.t
    · rw [e, upW_at, hph]
    · rw [upW_ne e]
  have hhdE : ∀ a b, a < n → ¬ (a = m.f ∧ b = m.t) → (upW V m.t v b).hd a = (V b).hd a := fun a b ha h => by
    by_cases e : b = m.t
    · rw [e, upW_at, hhd a ha, if_neg (fun e' => h ⟨e', e⟩)]
    · rw [upW_ne e]
  have hup : ∀ k i j, fl (L1 ++ L2) k i j → fl (L1 ++ m :: L2) k i j := fun k i j h => fl_mid.2 (.inl h)
  have hdn : ∀ k i j, ¬ (k = 5 ∧ i = m.f ∧ j = m.t) → fl (L1 ++ m :: L2) k i j → fl (L1 ++ L2) k i j := fun k i j hne h => by
    rcases fl_mid.1 h with h | ⟨h1, h2, h4⟩
    · exact h
    · exact absurd ⟨by omega, h2.symm, h4.symm⟩ hne
  have hckm : (V m.t).ck ≤ v.ck ∧ v.ck ≤ C + 2 ∧ 0 ≤ v.ck := by
    have := Int.le_max_left (V m.t).ck m.c
    have : max (V m.t).ck m.c ≤ C := Int.max_le.2 ⟨Lt.c1, hcC⟩
    have := Lt.c0
    omega
  refine ⟨?_, ?_, ?_, ?_, ?_, ?_, ?_, ?_, ?_, ?_, ?_, ?_, ?_⟩
  · intro j hj
    by_cases e : j = m.t
    · subst e; rw [upW_at]
      refine ⟨by rw [hph]; exact Lt.ph, by rw [hph, hmn]; exact Lt.idle, ?_, by omega, by omega, ?_, ?_, by rw [hph, hgt]; exact Lt.ins, by rw [hph, hgt]; exact Lt.g0⟩
      · rw [hhd m.t ht, if_neg (fun e => hft e.symm), hmn]; exact Lt.own
      · intro k hk'; rw [hhd k hk']; split
        · omega
        · exact Lt.h0 k hk'
      · intro k hk'; rw [hhd k hk']; split
        · omega
        · have := Lt.h1 k hk'; omega
    · rw [upW_ne e]
      have L := A.loc j hj
      exact { L with c1 := by have := L.c1; omega }
  · intro x hx
    obtain ⟨h1, h2, h4, h5, h6, h7⟩ := A.msg x (mem_mid hx)
    exact ⟨h1, h2, h4, h5, by omega, h7⟩
  · exact (mid_pr A.pr).imp (fun {a b} h => PR_same h (fun _ _ _ _ h' => by rw [hmnE, hmnE]; exact h'))
  · intro x hx h; rw [hmnE]; exact A.rqt x (mem_mid hx) h
  · intro x hx h; rw [hmnE]; exact A.akt x (mem_mid hx) h
  · intro a b ha hb hne h3' h5'
    rw [hmnE]
    by_cases e : a = m.f ∧ b = m.t
    · obtain ⟨rfl, rfl⟩ := e
      rw [upW_at, hhd m.f hf, if_pos rfl]
      rcases hor with h | h
      · exact absurd (hdn _ _ _ (fun h => by omega) h) h3'
      · exact h.symm
    · rw [hhdE a b ha e]
      exact A.v1 a b ha hb hne (fun h => h3' (hdn _ _ _ (fun h => by omega) h)) (fun h => h5' (hdn _ _ _ (fun h => e h.2) h))
  · intro a b ha hb hne h3'
    rw [hmnE]
    obtain ⟨h1, h2⟩ := A.v2 a b ha hb hne (hup _ _ _ h3')
    refine ⟨h1, ?_⟩
    by_cases e : a = m.f ∧ b = m.t
    · obtain ⟨rfl, rfl⟩ := e
      right; rw [upW_at, hhd m.f hf, if_pos rfl]
    · rw [hhdE a b ha e]
      rcases h2 with h | h
      · exact .inl (hdn _ _ _ (fun h => e h.2) h)
      · exact .inr h
  · intro a b ha hb hne h5'
    have e : ¬ (a = m.f ∧ b = m.t) := fun e => by obtain ⟨rfl, rfl⟩ := e; exact hgone h5'
    rw [hmnE, hhdE a b ha e]
    obtain ⟨h1, h2⟩ := A.v3 a b ha hb hne (hup _ _ _ h5')
    refine ⟨h1, ?_⟩
    rcases h2 with h | h
    · exact .inl (hdn _ _ _ (fun h => by omega) h)
    · exact .inr h
  · intro a b ha hb hne hg
    rw [hgtE] at hg
    rw [hmnE]
    obtain ⟨h1, h2, h4⟩ := A.g1 a b ha hb hne hg
    exact ⟨h1, fun h => h2 (hup _ _ _ h), fun h => h4 (hup _ _ _ h)⟩
  · intro a b ha hb hne h4'
    rw [hmnE, hgtE]
    obtain ⟨h1, h2, h5⟩ := A.g2 a b ha hb hne (hup _ _ _ h4')
    exact ⟨h1, h2, fun h => h5 (hup _ _ _ h)⟩
  · intro a b ha hb hne hm hg
    rw [hmnE] at hm
    rw [hgtE] at hg
    rcases A.g3 a b ha hb hne hm hg with h | h
    · exact .inl (hdn _ _ _ (fun h => by omega) h)
    · exact .inr (hdn _ _ _ (fun h => by omega) h)
  · intro a b ha hb hne hg h3'
    rw [hgtE] at hg
    rw [hmnE, hmnE]
    exact A.i1 a b ha hb hne hg (hup _ _ _ h3')
  · intro a k ha hk' hne h2 hm
    rw [hphE] at h2
    rw [hmnE] at hm
    rw [hmnE, hmnE]
    exact A.ins a k ha hk' hne h2 hm

/-! ### The dry wire -/
theorem AI.dry_got (A : AI n V [] C) {i : Nat} (hi : i < n) (hm : (V i).mn ≠ 0) : ∀ j, j < n → j ≠ i → (V i).gt j = true := by
  intro j hj hne
  cases h : (V i).gt j
  · exfalso
    rcases A.g3 i j hi hj (fun e => hne e.symm) hm h with h | h
    · obtain ⟨x, hx, _⟩ := h; simp at hx
    · obtain ⟨x, hx, _⟩ := h; simp at hx
  · rfl
theorem AI.dry_held (A : AI n V [] C) {i j : Nat} (hi : i < n) (hj : j < n) (hne : i ≠ j) : (V j).hd i = (V i).mn :=
  A.v1 i j hi hj hne (fun ⟨x, hx, _⟩ => by simp at hx) (fun ⟨x, hx, _⟩ => by simp at hx)
end
end Go.Proofs.Qxb6500367a
