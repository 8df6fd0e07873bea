/-
  367 Keeps: LAMPORT'S MUTUAL EXCLUSION, PLAINLY: views of the nodes and the messages in flight.
-/
import Derived.Test.Qxb6500367aLaw
namespace Go.Proofs.Qxb6500367a
set_option linter.unusedVariables false
set_option linter.unusedSimpArgs false

/-- A message in flight: kind (3 Req, 4 Ack, 5 Rel), from, to, time. -/
structure M4 where
  k : Int
  f : Nat
  t : Nat
  c : Int

/-- What the law needs to know of a node: clock, phase, its own request's time, who has answered, whose request it holds. -/
structure Vw where
  ck : Int
  ph : Int
  mn : Int
  gt : Nat → Bool
  hd : Nat → Int

def upW (V : Nat → Vw) (i : Nat) (v : Vw) : Nat → Vw := fun j => if j = i then v else V j
theorem upW_at (V : Nat → Vw) (i : Nat) (v : Vw) : upW V i v i = v := by simp [upW]
theorem upW_ne {V : Nat → Vw} {i : Nat} {v : Vw} {j : Nat} (h : j ≠ i) : upW V i v j = V j := by simp [upW, h]

/-- A message of this kind flies on this link. -/
def fl (W : List M4) (k : Int) (i j : Nat) : Prop := ∃ m, m ∈ W ∧ m.k = k ∧ m.f = i ∧ m.t = j

/-- What holds of an elder and a younger message. -/
def PR (V : Nat → Vw) (a b : M4) : Prop :=
  ¬ (a.k = b.k ∧ a.f = b.f ∧ a.t = b.t) ∧ ¬ (a.k = 3 ∧ b.k = 5 ∧ a.f = b.f ∧ a.t = b.t) ∧ (a.k = 4 → b.k = 3 → a.f = b.f → a.t = b.t → (V a.t).mn < (V a.f).mn)

/-- One node by itself. -/
structure Loc (n i : Nat) (C : Int) (v : Vw) : Prop where
  ph : v.ph = 0 ∨ v.ph = 1 ∨ v.ph = 2
  idle : v.ph = 0 ↔ v.mn = 0
  own : v.hd i = v.mn
  c0 : 0 ≤ v.ck
  c1 : v.ck ≤ C
  h0 : ∀ j, j < n → 0 ≤ v.hd j
  h1 : ∀ j, j < n → v.hd j ≤ v.ck
  ins : v.ph = 2 → ∀ j, j < n → j ≠ i → v.gt j = true
  g0 : v.ph = 0 → ∀ j, j < n → v.gt j = false

/-- (time, id) goes before (time, id). -/
def lt2 (a : Int) (i : Nat) (b : Int) (j : Nat) : Prop := a < b ∨ (a = b ∧ i < j)

/-- The links and the nodes agree. -/
structure AI (n : Nat) (V : Nat → Vw) (W : List M4) (C : Int) : Prop where
  loc : ∀ i, i < n → Loc n i C (V i)
  msg : ∀ m, m ∈ W → m.f < n ∧ m.t < n ∧ m.f ≠ m.t ∧ 1 ≤ m.c ∧ m.c ≤ C ∧ (m.k = 3 ∨ m.k = 4 ∨ m.k = 5)
  pr : W.Pairwise (PR V)
  rqt : ∀ m, m ∈ W → m.k = 3 → m.c = (V m.f).mn
  akt : ∀ m, m ∈ W → m.k = 4 → (V m.t).mn < m.c
  v1 : ∀ i j, i < n → j < n → i ≠ j → ¬ fl W 3 i j → ¬ fl W 5 i j → (V j).hd i = (V i).mn
  v2 : ∀ i j, i < n → j < n → i ≠ j → fl W 3 i j → (V i).mn ≠ 0 ∧ (fl W 5 i j ∨ (V j).hd i = 0)
  v3 : ∀ i j, i < n → j < n → i ≠ j → fl W 5 i j → (V j).hd i ≠ 0 ∧ (fl W 3 i j ∨ (V i).mn = 0)
  g1 : ∀ i j, i < n → j < n → i ≠ j → (V i).gt j = true → (V i).mn ≠ 0 ∧ ¬ fl W 3 i j ∧ ¬ fl W 4 j i
  g2 : ∀ i j, i < n → j < n → i ≠ j → fl W 4 j i → (V i).gt j = false ∧ (V i).mn ≠ 0 ∧ ¬ fl W 3 i j
  g3 : ∀ i j, i < n → j < n → i ≠ j → (V i).mn ≠ 0 → (V i).gt j = false → fl W 3 i j ∨ fl W 4 j i
  i1 : ∀ i j, i < n → j < n → i ≠ j → (V i).gt j = true → fl W 3 j i → (V i).mn < (V j).mn
  ins : ∀ i k, i < n → k < n → k ≠ i → (V i).ph = 2 → (V k).mn ≠ 0 → lt2 (V i).mn i (V k).mn k

theorem fl_app {W X : List M4} {k : Int} {i j : Nat} : fl (W ++ X) k i j ↔ fl W k i j ∨ fl X k i j := by
  unfold fl
  constructor
  · rintro ⟨m, hm, h⟩
    rcases List.mem_append.1 hm with h1 | h1
    · exact .inl ⟨m, h1, h⟩
    · exact .inr ⟨m, h1, h⟩
  · rintro (⟨m, hm, h⟩ | ⟨m, hm, h⟩)
    · exact ⟨m, List.mem_append_left _ hm, h⟩
    · exact ⟨m, List.mem_append_right _ hm, h⟩

section
variable {n : Nat} {V : Nat → Vw} {W : List M4} {C : Int}

/-- Whoever has answered me holds my request. -/
theorem AI.held_got (A : AI n V W C) {i j : Nat} (hi : i < n) (hj : j < n) (hne : i ≠ j) (h : (V i).gt j = true) : (V j).hd i = (V i).mn := by
  obtain ⟨h1, h2, h3⟩ := A.g1 i j hi hj hne h
  refine A.v1 i j hi hj hne h2 (fun h5 => ?_)
  rcases (A.v3 i j hi hj hne h5).2 with h | h
  · exact h2 h
  · exact h1 h
theorem AI.held_ack (A : AI n V W C) {i j : Nat} (hi : i < n) (hj : j < n) (hne : i ≠ j) (h : fl W 4 j i) : (V j).hd i = (V i).mn := by
  obtain ⟨h0, h1, h2⟩ := A.g2 i j hi hj hne h
  refine A.v1 i j hi hj hne h2 (fun h5 => ?_)
  rcases (A.v3 i j hi hj hne h5).2 with h | h
  · exact h2 h
  · exact h1 h

theorem PR_same {V V' : Nat → Vw} {a b : M4} (h : PR V a b) (h' : a.k = 4 → b.k = 3 → a.f = b.f → a.t = b.t → (V a.t).mn < (V a.f).mn → (V' a.t).mn < (V' a.f).mn) : PR V' a b :=
  ⟨h.1, h.2.1, fun e1 e2 e3 e4 => h' e1 e2 e3 e4 (h.2.2 e1 e2 e3 e4)⟩

theorem pairwise_app {α : Type} {R : α → α → Prop} {L X : List α} (hL : L.Pairwise R) (hX : X.Pairwise R) (h : ∀ a, a ∈ L → ∀ b, b ∈ X → R a b) : (L ++ X).Pairwise R := by
  rw [List.pairwise_append]; exact ⟨hL, hX, h⟩

/-- What a client's asking sends. -/
def sendAll (n i : Nat) (k c : Int) : List M4 := ((List.range n).filter (fun j => j ≠ i)).map (fun j => ⟨k, i, j, c⟩)
theorem mem_sendAll {n i : Nat} {k c : Int} {m : M4} : m ∈ sendAll n i k c ↔ m.k = k ∧ m.f = i ∧ m.c = c ∧ m.t < n ∧ m.t ≠ i := by
  unfold sendAll
  rw [List.mem_map]
  constructor
  · rintro ⟨j, hj, rfl⟩
    simp at hj
    exact ⟨rfl, rfl, rfl, hj.1, hj.2⟩
  · rintro ⟨h1, h2, h3, h4, h5⟩
    refine ⟨m.t, by simp [h4, h5], ?_⟩
    cases m; simp_all
theorem sendAll_pr {n i : Nat} {k c : Int} {V : Nat → Vw} (hk : k = 3 ∨ k = 5) : (sendAll n i k c).Pairwise (PR V) := by
  unfold sendAll
  rw [List.pairwise_map]
  have : ((List.range n).filter (fun j => j ≠ i)).Pairwise (fun a b => a ≠ b) := (List.nodup_range).filter _
  refine this.imp (fun {a b} hab => ?_)
  refine ⟨fun h => hab h.2.2, fun h => by simp only at h; omega, fun h => by simp only at h; omega⟩
theorem fl_sendAll {n i : Nat} {k c k' : Int} {a b : Nat} : fl (sendAll n i k c) k' a b ↔ k' = k ∧ a = i ∧ b < n ∧ b ≠ i := by
  unfold fl
  constructor
  · rintro ⟨m, hm, h1, h2, h3⟩
    rw [mem_sendAll] at hm
    obtain ⟨e1, e2, e3, e4, e5⟩ := hm
    exact ⟨by rw [← h1, e1], by rw [← h2, e2], by rw [← h3]; exact e4, by rw [← h3]; exact e5⟩
  · rintro ⟨rfl, rfl, h1, h2⟩
    exact ⟨⟨k', a, b, c⟩, mem_sendAll.2 ⟨rfl, rfl, rfl, h1, h2⟩, rfl, rfl, rfl⟩

/-- ASK. -/
theorem AI.ask (A : AI n V W C) {i : Nat} (hi : i < n) (h0 : (V i).ph = 0) (v : Vw) (hck : v.ck = (V i).ck + 1) (hmn : v.mn = (V i).ck + 1) (hgt : v.gt = (V i).gt) (hhd : ∀ j, j < n → v.hd j = if j = i then (V i).ck + 1 else (V i).hd j)
    (hph : v.ph = 1 ∨ (v.ph = 2 ∧ n = 1)) : AI n (upW V i v) (W ++ sendAll n i 3 v.ck) (C + 2) := by
  have Li := A.loc i hi
  have hm0 : (V i).mn = 0 := Li.idle.1 h0
  have hno3 : ∀ j, j < n → j ≠ i → ¬ fl W 3 i j := fun j hj hne h => (A.v2 i j hi hj (fun e => hne e.symm) h).1 hm0
  have hno4 : ∀ j, j < n → j ≠ i → ¬ fl W 4 j i := fun j hj hne h => (A.g2 i j hi hj (fun e => hne e.symm) h).2.1 hm0
  have hgf : ∀ j, j < n → v.gt j = false := fun j hj => by rw [hgt]; exact Li.g0 h0 j hj
  have hC0 := Li.c0
  have hC1 := Li.c1
  have hmnE : ∀ j, j ≠ i → (upW V i v j).mn = (V j).mn := fun j h => by rw [upW_ne h]
  have hbelow : ∀ k, k < n → k ≠ i → (V i).hd k ≤ (V i).ck := fun k hk _ => Li.h1 k hk
  have hgotlt : ∀ k, k < n → k ≠ i → (V k).gt i = true → (V k).mn < v.mn := fun k hk hne h => by
    have := A.held_got hk hi hne h
    have := Li.h1 k hk
    omega
  refine ⟨?_, ?_, ?_, ?_, ?_, ?_, ?_, ?_, ?_, ?_, ?_, ?_, ?_⟩
  · intro j hj
    by_cases e : j = i
    · subst e; rw [upW_at]
      refine ⟨by omega, by omega, ?_, by omega, by omega, ?_, ?_, ?_, ?_⟩
      · rw [hhd j hj, if_pos rfl, hmn]
      · intro k hk; rw [hhd k hk]; split
        · omega
        · exact Li.h0 k hk
      · intro k hk; rw [hhd k hk]; split
        · omega
        · have := Li.h1 k hk; omega
      · intro h2 k hk hne; omega
      · intro h1; omega
    · rw [upW_ne e]
      have L := A.loc j hj
      exact { L with c1 := by have := L.c1; omega }
  · intro m hm
    rcases List.mem_append.1 hm with h | h
    · obtain ⟨h1, h2, h3, h4, h5, h6⟩ := A.msg m h
      exact ⟨h1, h2, h3, h4, by omega, h6⟩
    · obtain ⟨e1, e2, e3, e4, e5⟩ := mem_sendAll.1 h
      refine ⟨by omega, e4, by omega, by omega, by omega, .inl e1⟩
  · refine pairwise_app ?_ (sendAll_pr (.inl rfl)) ?_
    · refine A.pr.imp_of_mem (fun {a b} ha hb h => PR_same h (fun e1 e2 e3 e4 h' => ?_))
      obtain ⟨a1, a2, a3, _⟩ := A.msg a ha
      have hfi : a.f ≠ i := fun e => hno3 b.t (by rw [← e4]; exact a2) (by rw [← e4]; exact fun h => a3 (by rw [e, h])) ⟨b, hb, e2, by rw [← e3]; exact e, rfl⟩
      have hti : a.t ≠ i := fun e => hno4 a.f a1 (by rw [← e]; exact a3) ⟨a, ha, e1, rfl, e⟩
      rw [hmnE _ hfi, hmnE _ hti]; exact h'
    · intro a ha b hb
      obtain ⟨e1, e2, e3, e4, e5⟩ := mem_sendAll.1 hb
      obtain ⟨a1, a2, a3, _⟩ := A.msg a ha
      refine ⟨?_, by omega, ?_⟩
      · rintro ⟨h1, h2, h3⟩
        exact hno3 a.t a2 (by omega) ⟨a, ha, by omega, by omega, rfl⟩
      · intro h1 h2 h3 h4
        have hf : a.f = i := by omega
        have ht : a.t ≠ i := by omega
        rw [hf, upW_at, hmnE _ ht]
        have hk := A.held_ack a2 hi ht ⟨a, ha, h1, hf, rfl⟩
        have := Li.h1 a.t a2
        omega
  · intro m hm h3
    rcases List.mem_append.1 hm with h | h
    · have hfi : m.f ≠ i := fun e => by
        obtain ⟨h1, h2, h4, _⟩ := A.msg m h
        exact hno3 m.t h2 (by omega) ⟨m, h, h3, e, rfl⟩
      rw [hmnE _ hfi]; exact A.rqt m h h3
    · obtain ⟨e1, e2, e3, e4, e5⟩ := mem_sendAll.1 h
      rw [e2, upW_at]; omega
  · intro m hm h4
    rcases List.mem_append.1 hm with h | h
    · have hti : m.t ≠ i := fun e => by
        obtain ⟨h1, h2, h5, _⟩ := A.msg m h
        exact hno4 m.f h1 (by omega) ⟨m, h, h4, rfl, e⟩
      rw [hmnE _ hti]; exact A.akt m h h4
    · obtain ⟨e1, _⟩ := mem_sendAll.1 h
      omega
  · intro a b ha hb hne h3 h5
    rw [fl_app, fl_sendAll] at h3 h5
    have hai : a ≠ i := fun e => h3 (.inr ⟨rfl, e, hb, by omega⟩)
    rw [hmnE _ hai]
    have hv := A.v1 a b ha hb hne (fun h => h3 (.inl h)) (fun h => h5 (.inl h))
    by_cases e : b = i
    · subst e; rw [upW_at, hhd a ha, if_neg hne]; exact hv
    · rw [upW_ne e]; exact hv
  · intro a b ha hb hne h3
    rw [fl_app, fl_sendAll] at h3
    rw [fl_app]
    by_cases e : a = i
    · subst e
      rw [upW_at, upW_ne (fun e => hne e.symm)]
      refine ⟨by omega, ?_⟩
      by_cases h5 : fl W 5 a b
      · exact .inl (.inl h5)
      · right
        rw [A.v1 a b ha hb hne (hno3 b hb (fun e => hne e.symm)) h5, hm0]
    · rw [upW_ne e]
      have h3' : fl W 3 a b := by
        rcases h3 with h | h
        · exact h
        · exact absurd h.2.1 e
      obtain ⟨h1, h2⟩ := A.v2 a b ha hb hne h3'
      refine ⟨h1, ?_⟩
      rcases h2 with h | h
      · exact .inl (.inl h)
      · right
        by_cases e2 : b = i
        · subst e2; rw [upW_at, hhd a ha, if_neg hne]; exact h
        · rw [upW_ne e2]; exact h
  · intro a b ha hb hne h5
    rw [fl_app, fl_sendAll] at h5
    rw [fl_app, fl_sendAll]
    have h5' : fl W 5 a b := by
      rcases h5 with h | h
      · exact h
      · omega
    obtain ⟨h1, h2⟩ := A.v3 a b ha hb hne h5'
    constructor
    · by_cases e2 : b = i
      · subst e2; rw [upW_at, hhd a ha, if_neg hne]; exact h1
      · rw [upW_ne e2]; exact h1
    · by_cases e : a = i
      · exact .inl (.inr ⟨rfl, e, hb, by omega⟩)
      · rw [upW_ne e]
        rcases h2 with h | h
        · exact .inl (.inl h)
        · exact .inr h
  · intro a b ha hb hne hg
    by_cases e : a = i
    · subst e; rw [upW_at, hgf b hb] at hg; cases hg
    · rw [upW_ne e] at hg ⊢
      obtain ⟨h1, h2, h3⟩ := A.g1 a b ha hb hne hg
      refine ⟨h1, ?_, ?_⟩
      · rw [fl_app, fl_sendAll]; rintro (h | h)
        · exact h2 h
        · exact e h.2.1
      · rw [fl_app, fl_sendAll]; rintro (h | h)
        · exact h3 h
        · omega
  · intro a b ha hb hne h4
    rw [fl_app, fl_sendAll] at h4
    have h4' : fl W 4 b a := by
      rcases h4 with h | h
      · exact h
      · omega
    have hai : a ≠ i := fun e => by subst e; exact hno4 b hb (fun e => hne e.symm) h4'
    rw [upW_ne hai]
    obtain ⟨h1, h2, h3⟩ := A.g2 a b ha hb hne h4'
    refine ⟨h1, h2, ?_⟩
    rw [fl_app, fl_sendAll]; rintro (h | h)
    · exact h3 h
    · exact hai h.2.1
  · intro a b ha hb hne hm hg
    rw [fl_app, fl_app, fl_sendAll]
    by_cases e : a = i
    · exact .inl (.inr ⟨rfl, e, hb, by omega⟩)
    · rw [upW_ne e] at hm hg
      rcases A.g3 a b ha hb hne hm hg with h | h
      · exact .inl (.inl h)
      · exact .inr (.inl h)
  · intro a b ha hb hne hg h3
    rw [fl_app, fl_sendAll] at h3
    by_cases e : a = i
    · subst e; rw [upW_at, hgf b hb] at hg; cases hg
    · rw [upW_ne e] at hg ⊢
      by_cases e2 : b = i
      · subst e2; rw [upW_at]; exact hgotlt a ha e hg
      · rw [upW_ne e2]
        rcases h3 with h | h
        · exact A.i1 a b ha hb hne hg h
        · exact absurd h.2.1 e2
  · intro a k ha hk hne h2 hm
    by_cases e : a = i
    · subst e; rw [upW_at] at h2; omega
    · rw [upW_ne e] at h2 ⊢
      by_cases e2 : k = i
      · subst e2; rw [upW_at]
        exact .inl (hgotlt a ha e ((A.loc a ha).ins h2 k hk (fun e' => e e'.symm)))
      · rw [upW_ne e2] at hm ⊢; exact A.ins a k ha hk hne h2 hm
end
end Go.Proofs.Qxb6500367a
