/-
  367 Keeps: how many fly; First and Insiders, plainly; a world's beginning and its dry end.
-/
import Derived.Test.Qxb6500367aKView
namespace Go.Proofs.Qxb6500367a
set_option linter.unusedVariables false
set_option linter.unusedSimpArgs false

theorem nodupK_len : ∀ (m : Nat) (L : List Nat), L.Nodup → (∀ t, t ∈ L → t < m) → L.length ≤ m
  | 0, L, _, h => by
    cases L with
    | nil => simp
    | cons a r => exact absurd (h a (by simp)) (by omega)
  | m + 1, L, hn, h => by
    by_cases hm : m ∈ L
    · have h1 := nodupK_len m (L.erase m) (hn.erase m) (fun t ht => by
        have h2 := h t (List.mem_of_mem_erase ht)
        have h3 : t ≠ m := fun e => by subst e; exact (List.Nodup.not_mem_erase hn) ht
        omega)
      rw [List.length_erase_of_mem hm] at h1
      omega
    · have h1 := nodupK_len m L hn (fun t ht => by
        have h2 := h t ht
        have h3 : t ≠ m := fun e => hm (e ▸ ht)
        omega)
      omega

def lbl (m : M4) : Nat := (m.f * 3 + (if m.t < m.f then m.t else m.t - 1)) * 3 + (m.k - 3).toNat

section
variable {n : Nat} {V : Nat → Vw} {W : List M4} {C : Int}

theorem AI.len36 (A : AI n V W C) (h4 : n ≤ 4) : W.length ≤ 36 := by
  have h1 : (W.map lbl).Nodup := by
    rw [List.Nodup, List.pairwise_map]
    refine A.pr.imp_of_mem (fun {a b} ha hb h => ?_)
    obtain ⟨a1, a2, a3, _, _, a4⟩ := A.msg a ha
    obtain ⟨b1, b2, b3, _, _, b4⟩ := A.msg b hb
    intro e
    apply h.1
    unfold lbl at e
    have hk : (a.k - 3).toNat < 3 := by omega
    have hk' : (b.k - 3).toNat < 3 := by omega
    have hA : (if a.t < a.f then a.t else a.t - 1) < 3 := by split <;> omega
    have hB : (if b.t < b.f then b.t else b.t - 1) < 3 := by split <;> omega
    have e1 : (a.k - 3).toNat = (b.k - 3).toNat := by omega
    have e2 : a.f = b.f := by omega
    have e3 : (if a.t < a.f then a.t else a.t - 1) = (if b.t < b.f then b.t else b.t - 1) := by omega
    refine ⟨by omega, e2, ?_⟩
    revert e3
    rw [e2]
    split <;> split <;> omega
  have := nodupK_len 36 (W.map lbl) h1 (fun t ht => by
    obtain ⟨m, hm, rfl⟩ := List.mem_map.1 ht
    obtain ⟨a1, a2, a3, _, _, a4⟩ := A.msg m hm
    unfold lbl
    have hk : (m.k - 3).toNat < 3 := by omega
    have hA : (if m.t < m.f then m.t else m.t - 1) < 3 := by split <;> omega
    omega)
  simpa using this

/-- On one link. -/
def onLink (i j : Int) (m : M4) : Bool := decide ((m.f : Int) = i) && decide ((m.t : Int) = j)
theorem AI.slack (A : AI n V W C) (i j : Int) : W.countP (onLink i j) ≤ 3 := by
  rw [List.countP_eq_length_filter]
  have h1 : ((W.filter (onLink i j)).map (fun m => (m.k - 3).toNat)).Nodup := by
    rw [List.Nodup, List.pairwise_map]
    refine (A.pr.sublist List.filter_sublist).imp_of_mem (fun {a b} ha hb h => ?_)
    obtain ⟨ha1, ha2⟩ := List.mem_filter.1 ha
    obtain ⟨hb1, hb2⟩ := List.mem_filter.1 hb
    obtain ⟨_, _, _, _, _, a4⟩ := A.msg a ha1
    obtain ⟨_, _, _, _, _, b4⟩ := A.msg b hb1
    simp [onLink] at ha2 hb2
    intro e
    exact h.1 ⟨by omega, by omega, by omega⟩
  have := nodupK_len 3 _ h1 (fun t ht => by
    obtain ⟨m, hm, rfl⟩ := List.mem_map.1 ht
    obtain ⟨_, _, _, _, _, a4⟩ := A.msg m (List.mem_filter.1 hm).1
    omega)
  simpa using this
end

/-- Settle's count: each delivery takes one. -/
def ms (W : List M4) : Nat := W.length + W.countP (fun m => decide (m.k = 3))
theorem ms_le {W : List M4} (h : W.length ≤ 36) : ms W ≤ 72 := by
  have := List.countP_le_length (p := fun m : M4 => decide (m.k = 3)) (l := W)
  unfold ms; omega

/-- The owner of the least standing request among the first k, or -1. -/
def firstTo (tm : Nat → Int) : Nat → Int
  | 0 => -1
  | k + 1 => if tm k = 0 then firstTo tm k else if firstTo tm k < 0 then k else if beforeP (tm k, (k : Int)) (tm (firstTo tm k).toNat, firstTo tm k) then k else firstTo tm k

theorem firstTo_char (tm : Nat → Int) : ∀ k, (firstTo tm k = -1 ∧ ∀ j, j < k → tm j = 0) ∨ ∃ b : Nat, b < k ∧ firstTo tm k = b ∧ tm b ≠ 0 ∧ ∀ j, j < k → j ≠ b → tm j ≠ 0 → lt2 (tm b) b (tm j) j
  | 0 => .inl ⟨rfl, fun j hj => by omega⟩
  | k + 1 => by
    unfold firstTo
    rcases firstTo_char tm k with ⟨h1, h2⟩ | ⟨b, hb, h1, h2, h3⟩
    · by_cases h0 : tm k = 0
      · rw [if_pos h0]
        refine .inl ⟨h1, fun j hj => ?_⟩
        by_cases e : j = k
        · rw [e]; exact h0
        · exact h2 j (by omega)
      · rw [if_neg h0, if_pos (by omega)]
        refine .inr ⟨k, by omega, rfl, h0, fun j hj hne hm => ?_⟩
        exact absurd (h2 j (by omega)) hm
    · by_cases h0 : tm k = 0
      · rw [if_pos h0]
        refine .inr ⟨b, by omega, h1, h2, fun j hj hne hm => ?_⟩
        by_cases e : j = k
        · rw [e] at hm; exact absurd h0 hm
        · exact h3 j (by omega) hne hm
      · rw [if_neg h0, h1, if_neg (by omega)]
        rw [show ((b : Nat) : Int).toNat = b by omega]
        cases hbf : beforeP (tm k, (k : Int)) (tm b, (b : Int)) with
        | true =>
          rw [if_pos rfl]
          rw [beforeP_iff] at hbf
          simp only at hbf
          refine .inr ⟨k, by omega, rfl, h0, fun j hj hne hm => ?_⟩
          by_cases e : j = b
          · subst e; unfold lt2; omega
          · have := h3 j (by omega) e hm
            unfold lt2 at this ⊢; omega
        | false =>
          rw [if_neg (by simp)]
          have hbt := beforeP_total hbf (by simp only; omega)
          rw [beforeP_iff] at hbt
          simp only at hbt
          refine .inr ⟨b, by omega, rfl, h2, fun j hj hne hm => ?_⟩
          by_cases e : j = k
          · subst e; unfold lt2; omega
          · exact h3 j (by omega) hne hm

theorem firstTo_least (tm : Nat → Int) {n b : Nat} (hb : b < n) (h0 : tm b ≠ 0) (hl : ∀ k, k < n → k ≠ b → tm k ≠ 0 → lt2 (tm b) b (tm k) k) : firstTo tm n = b := by
  rcases firstTo_char tm n with ⟨h1, h2⟩ | ⟨c, hc, h1, h2, h3⟩
  · exact absurd (h2 b hb) h0
  · by_cases e : b = c
    · rw [h1, e]
    · exact absurd (hl c hc (fun e' => e e'.symm) h2) (fun h => lt2_asymm h (h3 b hb e h0))

/-- How many of the first k are inside. -/
def insTo (ph : Nat → Int) : Nat → Int
  | 0 => 0
  | k + 1 => insTo ph k + (if ph k = 2 then 1 else 0)
theorem insTo_none (ph : Nat → Int) : ∀ k, (∀ j, j < k → ph j ≠ 2) → insTo ph k = 0
  | 0, _ => rfl
  | k + 1, h => by rw [insTo, insTo_none ph k (fun j hj => h j (by omega)), if_neg (h k (by omega))]; rfl
theorem insTo_one (ph : Nat → Int) (i : Nat) : ∀ k, i < k → ph i = 2 → (∀ j, j < k → j ≠ i → ph j ≠ 2) → insTo ph k = 1
  | 0, h, _, _ => by omega
  | k + 1, h, h2, hn => by
    rw [insTo]
    by_cases e : i = k
    · subst e; rw [insTo_none ph i (fun j hj => hn j (by omega) (by omega)), if_pos h2]; rfl
    · rw [insTo_one ph i k (by omega) h2 (fun j hj hne => hn j (by omega) hne), if_neg (hn k (by omega) (fun e' => e e'.symm))]; rfl

/-- A fresh world. -/
theorem LI.new (n : Nat) (h1 : 1 ≤ n) (h4 : n ≤ 4) (C : Int) (hC : 0 ≤ C) : LI n (fun i => newP n i) [] C := by
  have hfl : ∀ k i j, ¬ fl ([] : List M4) k i j := fun k i j ⟨x, hx, _⟩ => by simp at hx
  refine ⟨h1, h4, fun i hi => ⟨inv_new n i h1 h4 hi, rfl, rfl⟩, ?_⟩
  refine ⟨fun i hi => loc_of (inv_new n i h1 h4 hi).toInvW rfl rfl hC, by simp, by simp, by simp, by simp, ?_, ?_, ?_, ?_, ?_, ?_, ?_, ?_⟩
  · intro i j _ _ _ _ _; rfl
  · intro i j _ _ _ h; exact absurd h (hfl _ _ _)
  · intro i j _ _ _ h; exact absurd h (hfl _ _ _)
  · intro i j _ _ _ h
    have : (newP n i).got.getD j false = true := h
    rw [show (newP n i).got = List.replicate n false from rfl, getD_rep] at this
    cases this
  · intro i j _ _ _ h; exact absurd h (hfl _ _ _)
  · intro i j _ _ _ h; exact absurd rfl h
  · intro i j _ _ _ _ h; exact absurd h (hfl _ _ _)
  · intro i k _ _ _ h
    have : (0 : Int) = 2 := h
    omega

/-- THE DRY WIRE: the owner of the least is inside. -/
theorem LI.dry {n : Nat} {S : Nat → Nd} {C : Int} (L : LI n S [] C) {b : Nat} (hb : b < n) (hm : (S b).mine ≠ 0) (hl : ∀ k, k < n → k ≠ b → (S k).mine ≠ 0 → lt2 (S b).mine b (S k).mine k) : (S b).phase = 2 := by
  obtain ⟨hI, hn, hid⟩ := L.nd b hb
  have hw := hI.toInvW
  have hgot := L.ai.dry_got hb hm
  rcases hw.ph with h | h | h
  · exact absurd (hw.idle.1 h) hm
  · exfalso
    have hak : (S b).acks = ((S b).n : Int) - 1 := by
      rw [hw.cnt, ← hw.gl]
      refine (got_all (S b).got (by rw [hw.gl]; exact hw.n4) (S b).id (by rw [hw.gl]; exact hw.il) hw.gid).2 (fun j hj hne => ?_)
      exact hgot j (by rw [hw.gl, hn] at hj; exact hj) (by rw [hid] at hne; exact hne)
    have hwt := hI.wait h hak
    have hm' := hm
    rw [hw.mine] at hm'
    have hhas : hasP (S b).q ((S b).id : Int) = true := by
      cases hh : hasP (S b).q ((S b).id : Int) with
      | true => rfl
      | false => exact absurd (heldP_none _ _ hh) hm'
    have hmem := heldP_mem _ _ hhas
    cases hq : (S b).q with
    | nil => rw [hq] at hmem; simp at hmem
    | cons u r =>
      have hs := hw.sorted
      have hr := hw.rng u (by rw [hq]; simp)
      have hids := hw.ids
      have hheld : heldP (S b).q u.2 = u.1 := heldP_of_mem hw.ids (by rw [hq]; simp)
      rw [hq] at hwt hmem
      simp only [headP] at hwt
      rw [hq, List.pairwise_cons] at hs
      obtain ⟨j, hj⟩ : ∃ j : Nat, u.2 = j := ⟨u.2.toNat, by omega⟩
      have hjn : j < n := by rw [hn] at hr; omega
      have hjb : j ≠ b := fun e => hwt (by rw [hj, e, hid])
      have hv : heldP (S b).q (j : Int) = (S j).mine := L.ai.dry_held hjn hb hjb
      rw [← hj, hheld] at hv
      have hmj : (S j).mine ≠ 0 := by omega
      have h1 := hl j hjn hjb hmj
      rcases List.mem_cons.1 hmem with e | e
      · have : ((S b).id : Int) = u.2 := by rw [← e]
        exact hwt this.symm
      · have hbf := hs.1 _ e
        rw [beforeP_iff] at hbf
        simp only at hbf
        have hmb : heldP (u :: r) ((S b).id : Int) = (S b).mine := by rw [← hq]; exact hw.mine.symm
        rw [hmb, hid, hj] at hbf
        unfold lt2 at h1
        omega
  · exact h
end Go.Proofs.Qxb6500367a
