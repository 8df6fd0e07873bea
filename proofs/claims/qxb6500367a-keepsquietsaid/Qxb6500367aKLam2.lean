/-
  367 Keeps: quitting, deliveries, entry. Plainly.
-/
import Derived.Test.Qxb6500367aKLam
namespace Go.Proofs.Qxb6500367a
set_option linter.unusedVariables false
set_option linter.unusedSimpArgs false

theorem lt2_asymm {a b : Int} {i j : Nat} (h : lt2 a i b j) (h' : lt2 b j a i) : False := by unfold lt2 at h h'; omega

section
variable {n : Nat} {V : Nat → Vw} {W : List M4} {C : Int}

/-- ENTRY. -/
theorem AI.least (A : AI n V W C) {i : Nat} (hi : i < n) (hall : ∀ j, j < n → j ≠ i → (V i).gt j = true) (hhead : ∀ j, j < n → j ≠ i → (V i).hd j ≠ 0 → lt2 (V i).mn i ((V i).hd j) j) :
    ∀ k, k < n → k ≠ i → (V k).mn ≠ 0 → lt2 (V i).mn i (V k).mn k := by
  intro k hk hne hm
  by_cases h3 : fl W 3 k i
  · exact .inl (A.i1 i k hi hk (fun e => hne e.symm) (hall k hk hne) h3)
  · have h5 : ¬ fl W 5 k i := fun h5 => by
      rcases (A.v3 k i hk hi hne h5).2 with h | h
      · exact h3 h
      · exact hm h
    have hv := A.v1 k i hk hi hne h3 h5
    have := hhead k hk hne (by rw [hv]; exact hm)
    rwa [hv] at this
theorem AI.alone (A : AI n V W C) {i : Nat} (hi : i < n) (hmi : (V i).mn ≠ 0) (hl : ∀ k, k < n → k ≠ i → (V k).mn ≠ 0 → lt2 (V i).mn i (V k).mn k) : ∀ k, k < n → k ≠ i → (V k).ph ≠ 2 := by
  intro k hk hne h2
  have hmk : (V k).mn ≠ 0 := fun e => by have := (A.loc k hk).idle.2 e; omega
  exact lt2_asymm (hl k hk hne hmk) (A.ins k i hk hi (fun e => hne e.symm) h2 hmi)
theorem AI.enter (A : AI n V W C) {i : Nat} (hi : i < n) (h1 : (V i).ph = 1) (hall : ∀ j, j < n → j ≠ i → (V i).gt j = true) (hhead : ∀ j, j < n → j ≠ i → (V i).hd j ≠ 0 → lt2 (V i).mn i ((V i).hd j) j) (v : Vw) (hv : v = { V i with ph := 2 }) :
    AI n (upW V i v) W C := by
  have Li := A.loc i hi
  have hl := A.least hi hall hhead
  have hmn : ∀ j, (upW V i v j).mn = (V j).mn := fun j => by
    by_cases e : j = i
    · rw [e, upW_at, hv]
    · rw [upW_ne e]
  have hgt : ∀ j, (upW V i v j).gt = (V j).gt := fun j => by
    by_cases e : j = i
    · rw [e, upW_at, hv]
    · rw [upW_ne e]
  have hhd : ∀ j, (upW V i v j).hd = (V j).hd := fun j => by
    by_cases e : j = i
    · rw [e, upW_at, hv]
    · rw [upW_ne e]
  refine ⟨?_, A.msg, ?_, ?_, ?_, ?_, ?_, ?_, ?_, ?_, ?_, ?_, ?_⟩
  · intro j hj
    by_cases e : j = i
    · rw [e, upW_at, hv]
      refine { Li with ph := .inr (.inr rfl), idle := ?_, ins := fun _ => hall, g0 := fun h => by simp at h }
      have := Li.idle
      simp only; omega
    · rw [upW_ne e]; exact A.loc j hj
  · exact A.pr.imp (fun {a b} h => PR_same h (fun _ _ _ _ h' => by rw [hmn, hmn]; exact h'))
  · intro m hm h3; rw [hmn]; exact A.rqt m hm h3
  · intro m hm h4; rw [hmn]; exact A.akt m hm h4
  · intro a b ha hb hne; rw [hmn, hhd]; exact A.v1 a b ha hb hne
  · intro a b ha hb hne; rw [hmn, hhd]; exact A.v2 a b ha hb hne
  · intro a b ha hb hne; rw [hmn, hhd]; exact A.v3 a b ha hb hne
  · intro a b ha hb hne; rw [hmn, hgt]; exact A.g1 a b ha hb hne
  · intro a b ha hb hne; rw [hmn, hgt]; exact A.g2 a b ha hb hne
  · intro a b ha hb hne; rw [hmn, hgt]; exact A.g3 a b ha hb hne
  · intro a b ha hb hne; rw [hmn, hmn, hgt]; exact A.i1 a b ha hb hne
  · intro a k ha hk hne h2 hm
    rw [hmn] at hm
    rw [hmn, hmn]
    by_cases e : a = i
    · subst e; exact hl k hk hne hm
    · rw [upW_ne e] at h2; exact A.ins a k ha hk hne h2 hm

/-- QUIT. -/
theorem AI.quit (A : AI n V W C) {i : Nat} (hi : i < n) (h2 : (V i).ph = 2) (v : Vw) (hck : v.ck = (V i).ck + 1) (hmn : v.mn = 0) (hgt : ∀ j, v.gt j = false) (hhd : ∀ j, j < n → v.hd j = if j = i then 0 else (V i).hd j) (hph : v.ph = 0) :
    AI n (upW V i v) (W ++ sendAll n i 5 v.ck) (C + 2) := by
  have Li := A.loc i hi
  have hm0 : (V i).mn ≠ 0 := fun e => by have := Li.idle.2 e; omega
  have hall := Li.ins h2
  have hg := fun j (hj : j < n) (hne : j ≠ i) => A.g1 i j hi hj (fun e => hne e.symm) (hall j hj hne)
  have hno3 : ∀ j, j < n → j ≠ i → ¬ fl W 3 i j := fun j hj hne => (hg j hj hne).2.1
  have hno4 : ∀ j, j < n → j ≠ i → ¬ fl W 4 j i := fun j hj hne => (hg j hj hne).2.2
  have hheld : ∀ j, j < n → j ≠ i → (V j).hd i = (V i).mn := fun j hj hne => A.held_got hi hj (fun e => hne e.symm) (hall j hj hne)
  have hno5 : ∀ j, j < n → j ≠ i → ¬ fl W 5 i j := fun j hj hne h => by
    rcases (A.v3 i j hi hj (fun e => hne e.symm) h).2 with h | h
    · exact hno3 j hj hne h
    · exact hm0 h
  have hC0 := Li.c0
  have hC1 := Li.c1
  have hmnE : ∀ j, j ≠ i → (upW V i v j).mn = (V j).mn := fun j h => by rw [upW_ne h]
  refine ⟨?_, ?_, ?_, ?_, ?_, ?_, ?_, ?_, ?_, ?_, ?_, ?_, ?_⟩
  · intro j hj
    by_cases e : j = i
    · subst e; rw [upW_at]
      refine ⟨by omega, by omega, ?_, by omega, by omega, ?_, ?_, fun h => by omega, fun _ k _ => hgt k⟩
      · rw [hhd j hj, if_pos rfl, hmn]
      · intro k hk; rw [hhd k hk]; split
        · omega
        · exact Li.h0 k hk
      · intro k hk; rw [hhd k hk]; split
        · omega
        · have := Li.h1 k hk; omega
    · rw [upW_ne e]
      have L := A.loc j hj
      exact { L with c1 := by have := L.c1; omega }
  · intro m hm
    rcases List.mem_append.1 hm with h | h
    · obtain ⟨h1, h2, h3, h4, h5, h6⟩ := A.msg m h
      exact ⟨h1, h2, h3, h4, by omega, h6⟩
    · obtain ⟨e1, e2, e3, e4, e5⟩ := mem_sendAll.1 h
      exact ⟨by omega, e4, by omega, by omega, by omega, .inr (.inr e1)⟩
  · refine pairwise_app ?_ (sendAll_pr (.inr rfl)) ?_
    · refine A.pr.imp_of_mem (fun {a b} ha hb h => PR_same h (fun e1 e2 e3 e4 h' => ?_))
      obtain ⟨a1, a2, a3, _⟩ := A.msg a ha
      have hfi : a.f ≠ i := fun e => hno3 b.t (by rw [← e4]; exact a2) (by rw [← e4]; exact fun h => a3 (by rw [e, h])) ⟨b, hb, e2, by rw [← e3]; exact e, rfl⟩
      have hti : a.t ≠ i := fun e => hno4 a.f a1 (by rw [← e]; exact a3) ⟨a, ha, e1, rfl, e⟩
      rw [hmnE _ hfi, hmnE _ hti]; exact h'
    · intro a ha b hb
      obtain ⟨e1, e2, e3, e4, e5⟩ := mem_sendAll.1 hb
      obtain ⟨a1, a2, a3, _⟩ := A.msg a ha
      refine ⟨?_, ?_, by omega⟩
      · rintro ⟨h1, h2, h3⟩
        exact hno5 a.t a2 (by omega) ⟨a, ha, by omega, by omega, rfl⟩
      · rintro ⟨h1, h2, h3, h4⟩
        exact hno3 a.t a2 (by omega) ⟨a, ha, h1, by omega, rfl⟩
  · intro m hm h3
    rcases List.mem_append.1 hm with h | h
    · have hfi : m.f ≠ i := fun e => by
        obtain ⟨h1, h2, h4, _⟩ := A.msg m h
        exact hno3 m.t h2 (by omega) ⟨m, h, h3, e, rfl⟩
      rw [hmnE _ hfi]; exact A.rqt m h h3
    · obtain ⟨e1, _⟩ := mem_sendAll.1 h
      omega
  · intro m hm h4
    rcases List.mem_append.1 hm with h | h
    · have hti : m.t ≠ i := fun e => by
        obtain ⟨h1, h2, h5, _⟩ := A.msg m h
        exact hno4 m.f h1 (by omega) ⟨m, h, h4, rfl, e⟩
      rw [hmnE _ hti]; exact A.akt m h h4
    · obtain ⟨e1, _⟩ := mem_sendAll.1 h
      omega
  · intro a b ha hb hne h3 h5
    rw [fl_app, fl_sendAll] at h3 h5
    have hai : a ≠ i := fun e => h5 (.inr ⟨rfl, e, hb, by omega⟩)
    rw [hmnE _ hai]
    have hv := A.v1 a b ha hb hne (fun h => h3 (.inl h)) (fun h => h5 (.inl h))
    by_cases e : b = i
    · subst e; rw [upW_at, hhd a ha, if_neg hne]; exact hv
    · rw [upW_ne e]; exact hv
  · intro a b ha hb hne h3
    rw [fl_app, fl_sendAll] at h3
    have h3' : fl W 3 a b := by
      rcases h3 with h | h
      · exact h
      · omega
    have hai : a ≠ i := fun e => by subst e; exact hno3 b hb (fun e => hne e.symm) h3'
    rw [hmnE _ hai, fl_app]
    obtain ⟨h1, h2⟩ := A.v2 a b ha hb hne h3'
    refine ⟨h1, ?_⟩
    rcases h2 with h | h
    · exact .inl (.inl h)
    · right
      by_cases e2 : b = i
      · subst e2; rw [upW_at, hhd a ha, if_neg hne]; exact h
      · rw [upW_ne e2]; exact h
  · intro a b ha hb hne h5
    rw [fl_app, fl_sendAll] at h5
    rw [fl_app]
    by_cases e : a = i
    · subst e
      rw [upW_at, upW_ne (fun e => hne e.symm)]
      exact ⟨by rw [hheld b hb (fun e => hne e.symm)]; exact hm0, .inr hmn⟩
    · have h5' : fl W 5 a b := by
        rcases h5 with h | h
        · exact h
        · exact absurd h.2.1 e
      obtain ⟨h1, h2⟩ := A.v3 a b ha hb hne h5'
      rw [upW_ne e]
      constructor
      · by_cases e2 : b = i
        · subst e2; rw [upW_at, hhd a ha, if_neg hne]; exact h1
        · rw [upW_ne e2]; exact h1
      · rcases h2 with h | h
        · exact .inl (.inl h)
        · exact .inr h
  · intro a b ha hb hne hg'
    by_cases e : a = i
    · subst e; rw [upW_at, hgt b] at hg'; cases hg'
    · rw [upW_ne e] at hg' ⊢
      obtain ⟨h1, h2, h3⟩ := A.g1 a b ha hb hne hg'
      refine ⟨h1, ?_, ?_⟩
      · rw [fl_app, fl_sendAll]; rintro (h | h)
        · exact h2 h
        · omega
      · rw [fl_app, fl_sendAll]; rintro (h | h)
        · exact h3 h
        · omega
  · intro a b ha hb hne h4
    rw [fl_app, fl_sendAll] at h4
    have h4' : fl W 4 b a := by
      rcases h4 with h | h
      · exact h
      · omega
    have hai : a ≠ i := fun e => by subst e; exact hno4 b hb (fun e => hne e.symm) h4'
    rw [upW_ne hai]
    obtain ⟨h1, h2, h3⟩ := A.g2 a b ha hb hne h4'
    refine ⟨h1, h2, ?_⟩
    rw [fl_app, fl_sendAll]; rintro (h | h)
    · exact h3 h
    · omega
  · intro a b ha hb hne hm hg'
    rw [fl_app, fl_app]
    by_cases e : a = i
    · subst e; rw [upW_at] at hm; exact absurd hmn hm
    · rw [upW_ne e] at hm hg'
      rcases A.g3 a b ha hb hne hm hg' with h | h
      · exact .inl (.inl h)
      · exact .inr (.inl h)
  · intro a b ha hb hne hg' h3
    rw [fl_app, fl_sendAll] at h3
    have h3' : fl W 3 b a := by
      rcases h3 with h | h
      · exact h
      · omega
    by_cases e : a = i
    · subst e; rw [upW_at, hgt b] at hg'; cases hg'
    · have e2 : b ≠ i := fun e2 => by subst e2; exact hno3 a ha e h3'
      rw [upW_ne e] at hg' ⊢
      rw [upW_ne e2]
      exact A.i1 a b ha hb hne hg' h3'
  · intro a k ha hk hne h2' hm
    by_cases e : a = i
    · subst e; rw [upW_at] at h2'; omega
    · rw [upW_ne e] at h2' ⊢
      by_cases e2 : k = i
      · subst e2; rw [upW_at] at hm; exact absurd hmn hm
      · rw [upW_ne e2] at hm ⊢; exact A.ins a k ha hk hne h2' hm

/-! ### Deliveries -/
theorem fl_mid {L1 L2 : List M4} {m : M4} {k : Int} {i j : Nat} : fl (L1 ++ m :: L2) k i j ↔ fl (L1 ++ L2) k i j ∨ (m.k = k ∧ m.f = i ∧ m.t = j) := by
  unfold fl
  constructor
  · rintro ⟨x, hx, h⟩
    rcases List.mem_append.1 hx with h1 | h1
    · exact .inl ⟨x, List.mem_append_left _ h1, h⟩
    · rcases List.mem_cons.1 h1 with h2 | h2
      · subst h2; exact .inr h
      · exact .inl ⟨x, List.mem_append_right _ h2, h⟩
  · rintro (⟨x, hx, h⟩ | h)
    · rcases List.mem_append.1 hx with h1 | h1
      · exact ⟨x, List.mem_append_left _ h1, h⟩
      · exact ⟨x, List.mem_append_right _ (List.mem_cons_of_mem _ h1), h⟩
    · exact ⟨m, by simp, h⟩
theorem mem_mid {L1 L2 : List M4} {m x : M4} (h : x ∈ L1 ++ L2) : x ∈ L1 ++ m :: L2 := by
  rcases List.mem_append.1 h with h1 | h1
  · exact List.mem_append_left _ h1
  · exact List.mem_append_right _ (List.mem_cons_of_mem _ h1)

variable {L1 L2 : List M4} {m : M4}

/-- The delivered message's key is gone. -/
theorem key_gone (hp : (L1 ++ m :: L2).Pairwise (PR V)) : ¬ fl (L1 ++ L2) m.k m.f m.t := by
  rintro ⟨x, hx, h1, h2, h3⟩
  rw [List.pairwise_append] at hp
  obtain ⟨_, hp2, hp3⟩ := hp
  rw [List.pairwise_cons] at hp2
  rcases List.mem_append.1 hx with h | h
  · exact (hp3 x h m (by simp)).1 ⟨h1, h2, h3⟩
  · exact (hp2.1 x h).1 ⟨h1.symm, h2.symm, h3.symm⟩
/-- What flies on the link of the oldest is younger. -/
theorem younger (hp : (L1 ++ m :: L2).Pairwise (PR V)) (hold : ∀ x, x ∈ L1 → ¬ (x.f = m.f ∧ x.t = m.t)) {k : Int} (h : fl (L1 ++ L2) k m.f m.t) : ∃ x, x ∈ L2 ∧ x.k = k ∧ x.f = m.f ∧ x.t = m.t ∧ PR V m x := by
  obtain ⟨x, hx, h1, h2, h3⟩ := h
  rcases List.mem_append.1 hx with h | h
  · exact absurd ⟨h2, h3⟩ (hold x h)
  · rw [List.pairwise_append] at hp
    obtain ⟨_, hp2, _⟩ := hp
    rw [List.pairwise_cons] at hp2
    exact ⟨x, h, h1, h2, h3, hp2.1 x h⟩
theorem mid_pr (hp : (L1 ++ m :: L2).Pairwise (PR V)) : (L1 ++ L2).Pairwise (PR V) :=
  hp.sublist (List.Sublist.append_left (List.sublist_cons_self _ _) _)

/-- A REQUEST is taken: it is held, and an answer flies. -/
theorem AI.req (A : AI n V (L1 ++ m :: L2) C) (hold : ∀ x, x ∈ L1 → ¬ (x.f = m.f ∧ x.t = m.t)) (hk : m.k = 3) :
    (V m.t).hd m.f = 0 ∧ ∀ (v : Vw), v.ck = max (V m.t).ck m.c + 1 + 1 → v.mn = (V m.t).mn → v.gt = (V m.t).gt → v.ph = (V m.t).ph → (∀ j, j < n → v.hd j = if j = m.f then m.c else (V m.t).hd j) →
      AI n (upW V m.t v) (L1 ++ L2 ++ [⟨4, m.t, m.f, v.ck⟩]) (C + 2) := by
  have hmem : m ∈ L1 ++ m :: L2 := by simp
  obtain ⟨hf, ht, hft, hc1, hcC, _⟩ := A.msg m hmem
  have hmc := A.rqt m hmem hk
  have h3 : fl (L1 ++ m :: L2) 3 m.f m.t := ⟨m, hmem, hk, rfl, rfl⟩
  have hno5 : ¬ fl (L1 ++ m :: L2) 5 m.f m.t := fun h5 => by
    rw [fl_mid] at h5
    rcases h5 with h5 | h5
    · obtain ⟨x, _, h1, h2, h4, hpr⟩ := younger A.pr hold h5
      exact hpr.2.1 ⟨hk, h1, h2.symm, h4.symm⟩
    · omega
  obtain ⟨hm0, hz⟩ := A.v2 m.f m.t hf ht hft h3
  have hz0 : (V m.t).hd m.f = 0 := by
    rcases hz with h | h
    · exact absurd h hno5
    · exact h
  refine ⟨hz0, ?_⟩
  intro v hck hmn hgt hph hhd
  have Lt := A.loc m.t ht
  have hgone := key_gone A.pr
  rw [hk] at hgone
  have hno4 : ¬ fl (L1 ++ m :: L2) 4 m.t m.f := fun h => (A.g2 m.f m.t hf ht hft h).2.2 h3
  have hgf : (V m.f).gt m.t = false := by
    cases h : (V m.f).gt m.t
    · rfl
    · exact absurd h3 (A.g1 m.f m.t hf ht hft h).2.1
  have hmnE : ∀ j, (upW V m.t v j).mn = (V j).mn := fun j => by
    by_cases e : j = m.t
    · rw [e, upW_at, hmn]
    · rw [upW_ne e]
  have hgtE : ∀ j, (upW V m.t v j).gt = (V j).gt := fun j => by
    by_cases e : j = m.t
    · rw [e, upW_at, hgt]
    · rw [upW_ne e]
  have hphE : ∀ j, (upW V m.t v j).ph = (V j).ph := fun j => by
    by_cases e : j = m.t
    · rw [e, upW_at, hph]
    · rw [upW_ne e]
  have hfl : ∀ k i j, fl (L1 ++ L2 ++ [⟨4, m.t, m.f, v.ck⟩]) k i j ↔ fl (L1 ++ L2) k i j ∨ (k = 4 ∧ i = m.t ∧ j = m.f) := fun k i j => by
    rw [fl_app]
    constructor
    · rintro (h | ⟨x, hx, h1, h2, h4⟩)
      · exact .inl h
      · simp at hx; subst hx; exact .inr ⟨h1.symm, h2.symm, h4.symm⟩
    · rintro (h | ⟨h1, h2, h4⟩)
      · exact .inl h
      · exact .inr ⟨⟨4, m.t, m.f, v.ck⟩, by simp, h1.symm, h2.symm, h4.symm⟩
  have hup : ∀ k i j, fl (L1 ++ L2) k i j → fl (L1 ++ m :: L2) k i j := fun k i j h => fl_mid.2 (.inl h)
  have hdn : ∀ k i j, ¬ (k = 3 ∧ i = m.f ∧ j = m.t) → fl (L1 ++ m :: L2) k i j → fl (L1 ++ L2) k i j := fun k i j hne h => by
    rcases fl_mid.1 h with h | ⟨h1, h2, h4⟩
    · exact h
    · exact absurd ⟨by omega, h2.symm, h4.symm⟩ hne
  have hckm : (V m.t).ck ≤ v.ck ∧ m.c < v.ck ∧ v.ck ≤ C + 2 := by
    have := Lt.c1
    have := Int.le_max_left (V m.t).ck m.c
    have := Int.le_max_right (V m.t).ck m.c
    have : max (V m.t).ck m.c ≤ C := Int.max_le.2 ⟨Lt.c1, hcC⟩
    omega
  refine ⟨?_, ?_, ?_, ?_, ?_, ?_, ?_, ?_, ?_, ?_, ?_, ?_, ?_⟩
  · intro j hj
    by_cases e : j = m.t
    · subst e; rw [upW_at]
      refine ⟨by rw [hph]; exact Lt.ph, by rw [hph, hmn]; exact Lt.idle, ?_, by have := Lt.c0; omega, by omega, ?_, ?_, by rw [hph, hgt]; exact Lt.ins, by rw [hph, hgt]; exact Lt.g0⟩
      · rw [hhd m.t ht, if_neg (fun e => hft e.symm), hmn]; exact Lt.own
      · intro k hk'; rw [hhd k hk']; split
        · omega
        · exact Lt.h0 k hk'
      · intro k hk'; rw [hhd k hk']; split
        · omega
        · have := Lt.h1 k hk'; omega
    · rw [upW_ne e]
      have L := A.loc j hj
      exact { L with c1 := by have := L.c1; omega }
  · intro x hx
    rcases List.mem_append.1 hx with h | h
    · obtain ⟨h1, h2, h4, h5, h6, h7⟩ := A.msg x (mem_mid h)
      exact ⟨h1, h2, h4, h5, by omega, h7⟩
    · simp at h; subst h
      exact ⟨ht, hf, fun e => hft e.symm, by simp only; omega, by simp only; omega, .inr (.inl rfl)⟩
  · refine pairwise_app ?_ (by simp) ?_
    · exact (mid_pr A.pr).imp (fun {a b} h => PR_same h (fun _ _ _ _ h' => by rw [hmnE, hmnE]; exact h'))
    · intro x hx y hy
      simp at hy; subst hy
      refine ⟨?_, fun h => by simp only at h; omega, fun h1 h2 => by simp only at h2; omega⟩
      rintro ⟨h1, h2, h4⟩
      exact hno4 (hup _ _ _ ⟨x, hx, h1, h2, h4⟩)
  · intro x hx h
    rcases List.mem_append.1 hx with h1 | h1
    · rw [hmnE]; exact A.rqt x (mem_mid h1) h
    · simp at h1; subst h1; simp only at h; omega
  · intro x hx h
    rcases List.mem_append.1 hx with h1 | h1
    · rw [hmnE]; exact A.akt x (mem_mid h1) h
    · simp at h1; subst h1; rw [hmnE]; simp only; omega
  · intro a b ha hb hne h3' h5'
    rw [hfl] at h3' h5'
    rw [hmnE]
    by_cases e : a = m.f ∧ b = m.t
    · obtain ⟨rfl, rfl⟩ := e
      rw [upW_at, hhd m.f hf, if_pos rfl, hmc]
    · have hv := A.v1 a b ha hb hne (fun h => h3' (.inl (hdn _ _ _ (fun h => e h.2) h))) (fun h => h5' (.inl (hdn _ _ _ (fun h => by omega) h)))
      by_cases e2 : b = m.t
      · subst e2; rw [upW_at, hhd a ha, if_neg (fun e' => e ⟨e', rfl⟩)]; exact hv
      · rw [upW_ne e2]; exact hv
  · intro a b ha hb hne h3'
    rw [hfl] at h3'
    rw [hfl, hmnE]
    have h3'' : fl (L1 ++ L2) 3 a b := by
      rcases h3' with h | h
      · exact h
      · omega
    have hab : ¬ (a = m.f ∧ b = m.t) := fun e => hgone (by rw [← e.1, ← e.2]; exact h3'')
    obtain ⟨h1, h2⟩ := A.v2 a b ha hb hne (hup _ _ _ h3'')
    refine ⟨h1, ?_⟩
    rcases h2 with h | h
    · exact .inl (.inl (hdn _ _ _ (fun h => by omega) h))
    · right
      by_cases e2 : b = m.t
      · subst e2; rw [upW_at, hhd a ha, if_neg (fun e' => hab ⟨e', rfl⟩)]; exact h
      · rw [upW_ne e2]; exact h
  · intro a b ha hb hne h5'
    rw [hfl] at h5'
    rw [hfl, hmnE]
    have h5'' : fl (L1 ++ L2) 5 a b := by
      rcases h5' with h | h
      · exact h
      · omega
    have hab : ¬ (a = m.f ∧ b = m.t) := fun e => hno5 (hup _ _ _ (by rw [← e.1, ← e.2]; exact h5''))
    obtain ⟨h1, h2⟩ := A.v3 a b ha hb hne (hup _ _ _ h5'')
    constructor
    · by_cases e2 : b = m.t
      · subst e2; rw [upW_at, hhd a ha, if_neg (fun e' => hab ⟨e', rfl⟩)]; exact h1
      · rw [upW_ne e2]; exact h1
    · rcases h2 with h | h
      · exact .inl (.inl (hdn _ _ _ (fun h => hab h.2) h))
      · exact .inr h
  · intro a b ha hb hne hg
    rw [hgtE] at hg
    rw [hmnE, hfl, hfl]
    obtain ⟨h1, h2, h4⟩ := A.g1 a b ha hb hne hg
    refine ⟨h1, ?_, ?_⟩
    · rintro (h | h)
      · exact h2 (hup _ _ _ h)
      · omega
    · rintro (h | ⟨_, e1, e2⟩)
      · exact h4 (hup _ _ _ h)
      · subst e1 e2; rw [hgf] at hg; cases hg
  · intro a b ha hb hne h4'
    rw [hfl] at h4'
    rw [hmnE, hgtE, hfl]
    rcases h4' with h | ⟨_, e1, e2⟩
    · obtain ⟨h1, h2, h5⟩ := A.g2 a b ha hb hne (hup _ _ _ h)
      refine ⟨h1, h2, ?_⟩
      rintro (h | h)
      · exact h5 (hup _ _ _ h)
      · omega
    · subst e1 e2
      refine ⟨hgf, hm0, ?_⟩
      rintro (h | h)
      · exact hgone h
      · omega
  · intro a b ha hb hne hm hg
    rw [hmnE] at hm
    rw [hgtE] at hg
    rw [hfl, hfl]
    by_cases e : a = m.f ∧ b = m.t
    · exact .inr (.inr ⟨rfl, e.2, e.1⟩)
    · rcases A.g3 a b ha hb hne hm hg with h | h
      · exact .inl (.inl (hdn _ _ _ (fun h => e h.2) h))
      · exact .inr (.inl (hdn _ _ _ (fun h => by omega) h))
  · intro a b ha hb hne hg h3'
    rw [hgtE] at hg
    rw [hfl] at h3'
    rw [hmnE, hmnE]
    rcases h3' with h | h
    · exact A.i1 a b ha hb hne hg (hup _ _ _ h)
    · omega
  · intro a k ha hk' hne h2 hm
    rw [hphE] at h2
    rw [hmnE] at hm
    rw [hmnE, hmnE]
    exact A.ins a k ha hk' hne h2 hm
end
end Go.Proofs.Qxb6500367a
