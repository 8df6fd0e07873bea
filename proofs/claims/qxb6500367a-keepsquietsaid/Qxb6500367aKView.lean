/-
  367 Keeps: the nodes behind the views: each event that the law plays.
-/
import Derived.Test.Qxb6500367aKLam3
namespace Go.Proofs.Qxb6500367a
set_option linter.unusedVariables false
set_option linter.unusedSimpArgs false

def vw (s : Nd) : Vw := ⟨s.clock, s.phase, s.mine, fun j => s.got.getD j false, fun j => heldP s.q j⟩
def upS (S : Nat → Nd) (i : Nat) (s : Nd) : Nat → Nd := fun j => if j = i then s else S j
theorem upS_at (S : Nat → Nd) (i : Nat) (s : Nd) : upS S i s i = s := by simp [upS]
theorem upS_ne {S : Nat → Nd} {i : Nat} {s : Nd} {j : Nat} (h : j ≠ i) : upS S i s j = S j := by simp [upS, h]
theorem vw_up (S : Nat → Nd) (i : Nat) (s : Nd) : (fun j => vw (upS S i s j)) = upW (fun j => vw (S j)) i (vw s) := by
  funext j
  by_cases h : j = i
  · subst h; rw [upW_at, upS_at]
  · rw [upW_ne h, upS_ne h]

/-- The law's world. -/
structure LI (n : Nat) (S : Nat → Nd) (W : List M4) (C : Int) : Prop where
  n1 : 1 ≤ n
  n4 : n ≤ 4
  nd : ∀ i, i < n → Inv (S i) ∧ (S i).n = n ∧ (S i).id = i
  ai : AI n (fun i => vw (S i)) W C

theorem got_all : ∀ (g : List Bool), g.length ≤ 4 → ∀ i, i < g.length → g.getD i false = false → (cntP g = (g.length : Int) - 1 ↔ ∀ j, j < g.length → j ≠ i → g.getD j false = true) := by
  intro g hg i hi hf
  rcases g with _ | ⟨a, _ | ⟨b, _ | ⟨c, _ | ⟨d, _ | ⟨e, r⟩⟩⟩⟩⟩
  · simp at hi
  · have : i = 0 := by simp at hi; omega
    subst this
    simp at hf; subst hf
    simp [cntP]
  · have hi' : i = 0 ∨ i = 1 := by simp at hi; omega
    constructor
    · intro h j hj hne
      have hj' : j = 0 ∨ j = 1 := by simp at hj; omega
      rcases hi' with rfl | rfl <;> rcases hj' with rfl | rfl <;> simp at hf hne ⊢ <;> revert h <;> cases a <;> cases b <;> simp_all [cntP]
    · intro h
      have h0 := h 0 (by simp)
      have h1 := h 1 (by simp)
      rcases hi' with rfl | rfl <;> simp at hf h0 h1 <;> subst_vars <;> simp [cntP]
  · have hi' : i = 0 ∨ i = 1 ∨ i = 2 := by simp at hi; omega
    constructor
    · intro h j hj hne
      have hj' : j = 0 ∨ j = 1 ∨ j = 2 := by simp at hj; omega
      rcases hi' with rfl | rfl | rfl <;> rcases hj' with rfl | rfl | rfl <;> simp at hf hne ⊢ <;> revert h <;> cases a <;> cases b <;> cases c <;> simp_all [cntP]
    · intro h
      have h0 := h 0 (by simp)
      have h1 := h 1 (by simp)
      have h2 := h 2 (by simp)
      rcases hi' with rfl | rfl | rfl <;> simp at hf h0 h1 h2 <;> subst_vars <;> simp [cntP]
  · have hi' : i = 0 ∨ i = 1 ∨ i = 2 ∨ i = 3 := by simp at hi; omega
    constructor
    · intro h j hj hne
      have hj' : j = 0 ∨ j = 1 ∨ j = 2 ∨ j = 3 := by simp at hj; omega
      rcases hi' with rfl | rfl | rfl | rfl <;> rcases hj' with rfl | rfl | rfl | rfl <;> simp at hf hne ⊢ <;> revert h <;> cases a <;> cases b <;> cases c <;> cases d <;> simp_all [cntP]
    · intro h
      have h0 := h 0 (by simp)
      have h1 := h 1 (by simp)
      have h2 := h 2 (by simp)
      have h3 := h 3 (by simp)
      rcases hi' with rfl | rfl | rfl | rfl <;> simp at hf h0 h1 h2 h3 <;> subst_vars <;> simp [cntP]
  · simp at hg

theorem got_none (g : List Bool) (h : cntP g = 0) (j : Nat) : g.getD j false = false := by
  unfold cntP at h
  have h0 : g.countP (fun b => b) = 0 := by omega
  rw [List.countP_eq_zero] at h0
  rw [List.getD_eq_getElem?_getD]
  cases hj : g[j]? with
  | none => rfl
  | some b =>
    have := h0 b (List.mem_of_getElem? hj)
    cases b
    · rfl
    · simp at this

theorem held_rng {s : Nd} (h : InvW s) (j : Int) : 0 ≤ heldP s.q j ∧ heldP s.q j ≤ s.clock := by
  cases hh : hasP s.q j with
  | true =>
    have := h.rng _ (heldP_mem s.q j hh)
    simp only at this
    omega
  | false => rw [heldP_none s.q j hh]; exact ⟨Int.le_refl _, h.c0⟩

theorem loc_of {s : Nd} (h : InvW s) {n i : Nat} (hn : s.n = n) (hi : s.id = i) {C : Int} (hC : s.clock ≤ C) : Loc n i C (vw s) := by
  subst hn hi
  refine ⟨h.ph, h.idle, ?_, h.c0, hC, fun j _ => (held_rng h j).1, fun j _ => (held_rng h j).2, ?_, ?_⟩
  · exact h.mine.symm
  · intro h2 j hj hne
    have hc := h.cnt
    rw [h.ins h2, ← h.gl] at hc
    exact (got_all s.got (by rw [h.gl]; exact h.n4) s.id (by rw [h.gl]; exact h.il) h.gid).1 hc.symm j (by rw [h.gl]; exact hj) hne
  · intro h0 j _
    exact got_none s.got (by rw [← h.cnt]; exact h.idle0 h0) j

/-- A world of one: whoever asks is in. -/
theorem one_in {s : Nd} (h : Inv s) (hn : s.n = 1) : s.phase ≠ 1 := by
  intro h1
  have hid : s.id = 0 := by have := h.il; omega
  have hc : s.acks = 0 := by
    rw [h.cnt]
    have hg := h.gid
    have hl := h.gl
    rw [hn] at hl
    rw [hid] at hg
    match hgot : s.got, hl with
    | [b], _ =>
      rw [hgot] at hg
      simp at hg; subst hg; rfl
  have hm : s.mine ≠ 0 := fun e => by have := h.idle.2 e; omega
  have hw := h.wait h1 (by rw [hc, hn]; rfl)
  rw [h.mine] at hm
  have hhas : hasP s.q s.id = true := by
    cases hh : hasP s.q s.id with
    | true => rfl
    | false => exact absurd (heldP_none _ _ hh) hm
  cases hq : s.q with
  | nil => rw [hq] at hhas; simp [hasP] at hhas
  | cons u r =>
    rw [hq] at hw
    have := h.rng u (by rw [hq]; simp)
    simp only [headP] at hw
    omega

/-- What an event leaves: the node s' in its place. -/
structure EvOk (n : Nat) (S : Nat → Nd) (W : List M4) (C : Int) (i : Nat) (k f t CK MN PH AK : Int) (s' : Nd) : Prop where
  step : stepP (S i) k f t = ((s'.clock, s'.phase, 0), s')
  ck : s'.clock = CK
  mn : s'.mine = MN
  ak : s'.acks = AK
  li : LI n (upS S i s') W (C + 2)
  ph : s'.phase = PH ∨ (PH = 1 ∧ s'.phase = 2 ∧ s'.acks = (n : Int) - 1 ∧ s'.mine ≠ 0 ∧ (∀ k, k < n → k ≠ i → (S k).mine ≠ 0 → lt2 s'.mine i (S k).mine k) ∧ ∀ k, k < n → k ≠ i → (S k).phase ≠ 2)

/-- Entry behind an event that is taken. -/
theorem ev_done {n : Nat} {S : Nat → Nd} {W W' : List M4} {C : Int} (L : LI n S W C) {i : Nat} (hi : i < n) {k f t : Int} (hE : errP (S i) k f t = 0) (e : Nd) (hev : evP (S i) k f t = (0, e)) (hw : InvW e) (hn : e.n = n) (hid : e.id = i)
    (A : AI n (upW (fun j => vw (S j)) i (vw e)) W' (C + 2)) : EvOk n S W' C i k f t e.clock e.mine e.phase e.acks (enterP e) := by
  have hI := hw.enter.1
  have hck : (enterP e).clock = e.clock := by unfold enterP; split <;> rfl
  have hmn : (enterP e).mine = e.mine := by unfold enterP; split <;> rfl
  have hak : (enterP e).acks = e.acks := by unfold enterP; split <;> rfl
  have hnn : (enterP e).n = n := by rw [← hn]; unfold enterP; split <;> rfl
  have hii : (enterP e).id = i := by rw [← hid]; unfold enterP; split <;> rfl
  have hst : stepP (S i) k f t = (((enterP e).clock, (enterP e).phase, 0), enterP e) := by
    unfold stepP
    rw [if_neg (by omega), hev]
    simp
  have hother : ∀ j, j ≠ i → vw (S j) = upW (fun j => vw (S j)) i (vw e) j := fun j h => by rw [upW_ne h]
  have hnodes : ∀ j, j < n → Inv (upS S i (enterP e) j) ∧ (upS S i (enterP e) j).n = n ∧ (upS S i (enterP e) j).id = j := fun j hj => by
    by_cases h : j = i
    · subst h; rw [upS_at]; exact ⟨hI, hnn, hii⟩
    · rw [upS_ne h]; exact L.nd j hj
  by_cases c : e.phase = 1 ∧ e.acks = (e.n : Int) - 1 ∧ e.q.head? = some (e.mine, (e.id : Int))
  · have hp2 : (enterP e).phase = 2 := by unfold enterP; rw [if_pos c]
    have hvw : vw (enterP e) = { vw e with ph := 2 } := by unfold enterP; rw [if_pos c]; rfl
    have hall : ∀ j, j < n → j ≠ i → (vw e).gt j = true := fun j hj hne => by
      have hc := hw.cnt
      rw [c.2.1, ← hw.gl] at hc
      exact (got_all e.got (by rw [hw.gl]; exact hw.n4) e.id (by rw [hw.gl]; exact hw.il) hw.gid).1 hc.symm j (by rw [hw.gl, hn]; exact hj) (by rw [hid]; exact hne)
    have hhead : ∀ j, j < n → j ≠ i → (vw e).hd j ≠ 0 → lt2 (vw e).mn i ((vw e).hd j) j := fun j hj hne h0 => by
      have hhas : hasP e.q j = true := by
        cases hh : hasP e.q j with
        | true => rfl
        | false => exact absurd (heldP_none _ _ hh) h0
      have hmem := heldP_mem e.q j hhas
      cases hq : e.q with
      | nil => rw [hq] at hmem; simp at hmem
      | cons u r =>
        have hu := c.2.2
        rw [hq] at hu hmem
        simp at hu
        have hs := hw.sorted
        rw [hq, List.pairwise_cons] at hs
        rcases List.mem_cons.1 hmem with h | h
        · exfalso
          have h2 : (j : Int) = u.2 := by rw [← h]
          rw [hu] at h2
          simp only at h2
          rw [hid] at h2
          omega
        · have hb := hs.1 _ h
          rw [hu, beforeP_iff] at hb
          simp only at hb
          have hd : (vw e).hd j = heldP (u :: r) j := by show heldP e.q j = _; rw [hq]
          rw [hu, hid] at hd
          rw [hd]
          unfold lt2
          have : (vw e).mn = e.mine := rfl
          rw [this]
          rw [hid] at hb
          omega
    have A0 : (upW (fun j => vw (S j)) i (vw e)) i = vw e := upW_at _ _ _
    have hm0 : (vw e).mn ≠ 0 := fun h => by
      have := hw.idle.2 h
      omega
    have hl := A.least hi (by rw [A0]; exact hall) (by rw [A0]; exact hhead)
    have ha := A.alone hi (by rw [A0]; exact hm0) hl
    have A' := A.enter hi (by rw [A0]; exact c.1) (by rw [A0]; exact hall) (by rw [A0]; exact hhead) (vw (enterP e)) (by rw [A0, hvw])
    have hup : upW (upW (fun j => vw (S j)) i (vw e)) i (vw (enterP e)) = upW (fun j => vw (S j)) i (vw (enterP e)) := by
      funext j
      by_cases h : j = i
      · subst h; rw [upW_at, upW_at]
      · rw [upW_ne h, upW_ne h, upW_ne h]
    rw [hup] at A'
    refine ⟨hst, hck, hmn, hak, ⟨L.n1, L.n4, hnodes, by rw [vw_up]; exact A'⟩, .inr ⟨c.1, hp2, by rw [hak, c.2.1, hn], by rw [hmn]; exact hm0, ?_, ?_⟩⟩
    · intro k' hk' hne hm
      have := hl k' hk' hne (by rw [upW_ne hne]; exact hm)
      rw [A0, upW_ne hne] at this
      rw [hmn]; exact this
    · intro k' hk' hne
      have := ha k' hk' hne
      rw [upW_ne hne] at this
      exact this
  · have he : enterP e = e := by unfold enterP; rw [if_neg c]
    refine ⟨hst, hck, hmn, hak, ⟨L.n1, L.n4, hnodes, by rw [vw_up, he]; exact A⟩, .inl (by rw [he])⟩

theorem no_has {s : Nd} (h : InvW s) {j : Int} (h0 : heldP s.q j = 0) : hasP s.q j = false := (heldP_zero s.q j h.times).1 h0

section
variable {n : Nat} {S : Nat → Nd} {W : List M4} {C : Int}

theorem LI.ask (L : LI n S W C) {i : Nat} (hi : i < n) (hC : C ≤ 1152921504606846000) (h0 : (S i).phase = 0) (f t : Int) :
    ∃ s', EvOk n S (W ++ sendAll n i 3 ((S i).clock + 1)) C i 1 f t ((S i).clock + 1) ((S i).clock + 1) 1 (S i).acks s' := by
  obtain ⟨hI, hn, hid⟩ := L.nd i hi
  have hw := hI.toInvW
  have hck : (S i).clock ≤ C := (L.ai.loc i hi).c1
  have hE : errP (S i) 1 f t = 0 := by unfold errP; rw [if_neg (by omega), if_neg (by omega), if_neg (by omega), if_neg (by omega)]
  have hm0 : (S i).mine = 0 := hw.idle.1 h0
  have hno : hasP (S i).q ((S i).id : Int) = false := no_has hw (by rw [← hw.mine]; exact hm0)
  have tk := (taken_ask hw (by omega) f t h0).1
  have hev : evP (S i) 1 f t = (0, { S i with clock := (S i).clock + 1, mine := (S i).clock + 1, q := insP (S i).q ((S i).clock + 1, (S i).id), phase := 1 }) := by
    simp [evP, askP, h0]
  rw [hev] at tk
  have A := L.ai.ask hi h0 (vw { S i with clock := (S i).clock + 1, mine := (S i).clock + 1, q := insP (S i).q ((S i).clock + 1, (S i).id), phase := 1 }) rfl rfl rfl (fun j hj => by
    show heldP (insP (S i).q ((S i).clock + 1, ((S i).id : Int))) j = _
    rw [heldP_insP hno]
    by_cases e : j = i
    · rw [if_pos e, if_pos (by simp only; rw [hid]; omega)]; rfl
    · rw [if_neg e, if_neg (by simp only; rw [hid]; omega)]; rfl) (.inl rfl)
  exact ⟨_, ev_done L hi hE _ hev tk hn hid A⟩

theorem LI.quit (L : LI n S W C) {i : Nat} (hi : i < n) (hC : C ≤ 1152921504606846000) (h2 : (S i).phase = 2) (f t : Int) :
    ∃ s', EvOk n S (W ++ sendAll n i 5 ((S i).clock + 1)) C i 2 f t ((S i).clock + 1) 0 0 0 s' := by
  obtain ⟨hI, hn, hid⟩ := L.nd i hi
  have hw := hI.toInvW
  have hck : (S i).clock ≤ C := (L.ai.loc i hi).c1
  have hE : errP (S i) 2 f t = 0 := by unfold errP; rw [if_neg (by omega), if_neg (by omega), if_neg (by omega), if_neg (by omega)]
  have tk := (taken_quit hw (by omega) f t h2).1
  have hev : evP (S i) 2 f t = (0, { S i with clock := (S i).clock + 1, q := dropP (S i).q (S i).id, got := List.replicate (S i).n false, acks := 0, mine := 0, phase := 0 }) := by
    simp [evP, quitP, h2]
  rw [hev] at tk
  have A := L.ai.quit hi h2 (vw { S i with clock := (S i).clock + 1, q := dropP (S i).q (S i).id, got := List.replicate (S i).n false, acks := 0, mine := 0, phase := 0 }) rfl rfl (fun j => getD_rep _ _) (fun j hj => by
    show heldP (dropP (S i).q ((S i).id : Int)) j = _
    rw [heldP_dropP hw.ids]
    by_cases e : j = i
    · rw [if_pos e, if_pos (by rw [hid]; omega)]
    · rw [if_neg e, if_neg (by rw [hid]; omega)]; rfl) rfl
  exact ⟨_, ev_done L hi hE _ hev tk hn hid A⟩
end

section
variable {n : Nat} {S : Nat → Nd} {C : Int} {L1 L2 : List M4} {m : M4}

theorem LI.req (L : LI n S (L1 ++ m :: L2) C) (hold : ∀ x, x ∈ L1 → ¬ (x.f = m.f ∧ x.t = m.t)) (hC : C ≤ 1152921504606846000) (hk : m.k = 3) :
    ∃ s', EvOk n S (L1 ++ L2 ++ [⟨4, m.t, m.f, max (S m.t).clock m.c + 1 + 1⟩]) C m.t 3 m.f m.c (max (S m.t).clock m.c + 1 + 1) (S m.t).mine (S m.t).phase (S m.t).acks s' := by
  obtain ⟨hf, ht, hft, hc1, hcC, _⟩ := L.ai.msg m (by simp)
  obtain ⟨hI, hn, hid⟩ := L.nd m.t ht
  have hw := hI.toInvW
  have hck : (S m.t).clock ≤ C := (L.ai.loc m.t ht).c1
  have hE : errP (S m.t) 3 m.f m.c = 0 := by unfold errP; rw [if_neg (by omega), if_neg (by omega), if_neg (by omega), if_neg (by omega)]
  obtain ⟨hz, hA⟩ := L.ai.req hold hk
  have hz' : heldP (S m.t).q (m.f : Int) = 0 := hz
  have tk := (taken_req hw (by omega) m.f m.c (by omega) (by omega) hc1 (by omega) hz').1
  have hev : evP (S m.t) 3 m.f m.c = (0, { S m.t with clock := max (S m.t).clock m.c + 1 + 1, q := insP (S m.t).q (m.c, m.f) }) := by
    simp [evP, reqP, hz']
  rw [hev] at tk
  have A := hA (vw { S m.t with clock := max (S m.t).clock m.c + 1 + 1, q := insP (S m.t).q (m.c, m.f) }) rfl rfl rfl rfl (fun j hj => by
    show heldP (insP (S m.t).q (m.c, (m.f : Int))) j = _
    rw [heldP_insP (no_has hw hz')]
    by_cases e : j = m.f
    · rw [if_pos e, if_pos (by simp only; omega)]
    · rw [if_neg e, if_neg (by simp only; omega)]; rfl)
  exact ⟨_, ev_done L ht hE _ hev tk hn hid A⟩

theorem LI.ack (L : LI n S (L1 ++ m :: L2) C) (hold : ∀ x, x ∈ L1 → ¬ (x.f = m.f ∧ x.t = m.t)) (hC : C ≤ 1152921504606846000) (hk : m.k = 4) :
    (S m.t).phase = 1 ∧ ∃ s', EvOk n S (L1 ++ L2) C m.t 4 m.f m.c (max (S m.t).clock m.c + 1) (S m.t).mine 1 ((S m.t).acks + 1) s' := by
  obtain ⟨hf, ht, hft, hc1, hcC, _⟩ := L.ai.msg m (by simp)
  obtain ⟨hI, hn, hid⟩ := L.nd m.t ht
  have hw := hI.toInvW
  have hck : (S m.t).clock ≤ C := (L.ai.loc m.t ht).c1
  have hE : errP (S m.t) 4 m.f m.c = 0 := by unfold errP; rw [if_neg (by omega), if_neg (by omega), if_neg (by omega), if_neg (by omega)]
  obtain ⟨⟨hp1, hg, hmc⟩, hA⟩ := L.ai.ack hold hk
  have hp1' : (S m.t).phase = 1 := hp1
  have hg' : (S m.t).got.getD m.f false = false := hg
  have hmc' : ¬ m.c ≤ (S m.t).mine := by have : (S m.t).mine < m.c := hmc; omega
  have tk := (taken_ack hw (by omega) m.f m.c (by omega) (by omega) hc1 (by omega) hp1' hg' hmc').1
  have hev : evP (S m.t) 4 m.f m.c = (0, { S m.t with clock := max (S m.t).clock m.c + 1, got := (S m.t).got.set m.f true, acks := (S m.t).acks + 1 }) := by
    simp only [evP, ackP, Int.toNat_natCast]
    rw [if_neg (by omega), if_neg (by omega), if_neg (by omega), if_pos trivial, if_pos hp1', hg', if_neg (by simp), if_neg hmc']
  rw [hev] at tk
  have A := hA (vw { S m.t with clock := max (S m.t).clock m.c + 1, got := (S m.t).got.set m.f true, acks := (S m.t).acks + 1 }) rfl rfl rfl rfl (fun j hj => by
    show ((S m.t).got.set m.f true).getD j false = if j = m.f then true else (S m.t).got.getD j false
    rw [List.getD_eq_getElem?_getD, List.getElem?_set]
    by_cases e : j = m.f
    · rw [if_pos e, if_pos e.symm, if_pos (by rw [hw.gl, hn]; exact hf)]; rfl
    · rw [if_neg e, if_neg (fun h => e h.symm), List.getD_eq_getElem?_getD])
  refine ⟨hp1', ?_⟩
  have E := ev_done L ht hE _ hev tk hn hid A
  rw [show ({ S m.t with clock := max (S m.t).clock m.c + 1, got := (S m.t).got.set m.f true, acks := (S m.t).acks + 1 } : Nd).phase = 1 from hp1'] at E
  exact ⟨_, E⟩

theorem LI.rel (L : LI n S (L1 ++ m :: L2) C) (hold : ∀ x, x ∈ L1 → ¬ (x.f = m.f ∧ x.t = m.t)) (hC : C ≤ 1152921504606846000) (hk : m.k = 5) :
    ∃ s', EvOk n S (L1 ++ L2) C m.t 5 m.f m.c (max (S m.t).clock m.c + 1) (S m.t).mine (S m.t).phase (S m.t).acks s' := by
  obtain ⟨hf, ht, hft, hc1, hcC, _⟩ := L.ai.msg m (by simp)
  obtain ⟨hI, hn, hid⟩ := L.nd m.t ht
  have hw := hI.toInvW
  have hck : (S m.t).clock ≤ C := (L.ai.loc m.t ht).c1
  have hE : errP (S m.t) 5 m.f m.c = 0 := by unfold errP; rw [if_neg (by omega), if_neg (by omega), if_neg (by omega), if_neg (by omega)]
  obtain ⟨hz, hA⟩ := L.ai.rel hold hk
  have hz' : heldP (S m.t).q (m.f : Int) ≠ 0 := hz
  have hhas : hasP (S m.t).q (m.f : Int) = true := by
    cases hh : hasP (S m.t).q (m.f : Int) with
    | true => rfl
    | false => exact absurd (heldP_none _ _ hh) hz'
  have tk := (taken_rel hw (by omega) m.f m.c (by omega) (by omega) hc1 (by omega) hhas).1
  have hev : evP (S m.t) 5 m.f m.c = (0, { S m.t with clock := max (S m.t).clock m.c + 1, q := dropP (S m.t).q m.f }) := by
    simp [evP, relP, hhas]
  rw [hev] at tk
  have A := hA (vw { S m.t with clock := max (S m.t).clock m.c + 1, q := dropP (S m.t).q m.f }) rfl rfl rfl rfl (fun j hj => by
    show heldP (dropP (S m.t).q (m.f : Int)) j = _
    rw [heldP_dropP hw.ids]
    by_cases e : j = m.f
    · rw [if_pos e, if_pos (by omega)]
    · rw [if_neg e, if_neg (by omega)]; rfl)
  exact ⟨_, ev_done L ht hE _ hev tk hn hid A⟩
end
end Go.Proofs.Qxb6500367a
