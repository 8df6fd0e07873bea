/-
  367 Keeps: the law's state in memory: the ghost and the nodes.
-/
import Derived.Test.Qxb6500367aKPost
import Derived.Test.Qxb6500367aPlay
namespace Go.Proofs.Qxb6500367a
open Go.RowKit Go.Qx
set_option linter.unusedSimpArgs false
set_option linter.unusedVariables false

def ownP (P : Nat → Nat × Nat × Nat) (i k : Nat) : Prop := own (P i).1 (P i).2.1 (P i).2.2 k
def xsP (P : Nat → Nat × Nat × Nat) (n : Nat) : List Value := (List.range n).map fun i => ptr (P i).1
theorem xsP_length (P : Nat → Nat × Nat × Nat) (n : Nat) : (xsP P n).length = n := by simp [xsP]
theorem xsP_get (P : Nat → Nat × Nat × Nat) (n : Nat) (sp : List Value) (i : Nat) (h : i < n) : (xsP P n ++ sp)[i]? = some (ptr (P i).1) := by
  rw [List.getElem?_append_left (by rw [xsP_length]; exact h)]
  simp [xsP, List.getElem?_range h]
theorem xsP_succ (P : Nat → Nat × Nat × Nat) (n : Nat) : xsP P (n + 1) = xsP P n ++ [ptr (P n).1] := by
  simp [xsP, List.range_succ]
theorem xsP_congr {P P' : Nat → Nat × Nat × Nat} {n : Nat} (h : ∀ i, i < n → P i = P' i) : xsP P n = xsP P' n := by
  unfold xsP
  apply List.map_congr_left
  intro i hi
  rw [List.mem_range] at hi
  rw [h i hi]
theorem gcells_congr {S S' : Nat → Nd} : ∀ n, (∀ i, i < n → S i = S' i) → gcells S n = gcells S' n
  | 0, _ => rfl
  | n + 1, h => by rw [gcells, gcells, gcells_congr n (fun i hi => h i (by omega)), h n (by omega)]

/-- The law's state: the ghost's minds G, the nodes S, the wire W; nothing shared; all at B and above. -/
structure KS (B : Nat) (w : World) (g : Nat) (vX vW vG : Value) (n : Nat) (P : Nat → Nat × Nat × Nat) (G S : Nat → Nd) (W : List M4) : Prop where
  gr : GR w g vX vW vG n (xsP P n) W G
  rep : ∀ i, i < n → Rep w (P i).1 (P i).2.1 (P i).2.2 (S i)
  dis : ∀ i j, i < n → j < n → i ≠ j → ∀ k, ownP P i k → ¬ ownP P j k
  dg : ∀ i, i < n → ∀ k, ownP P i k → ¬ ownR g vX vW vG k
  lo : ∀ k, ownR g vX vW vG k → B ≤ k
  ln : ∀ i, i < n → ∀ k, ownP P i k → B ≤ k

section
variable {B : Nat} {w w' : World} {g : Nat} {vX vW vG : Value} {n : Nat} {P : Nat → Nat × Nat × Nat} {G S : Nat → Nd} {W : List M4}

theorem GR.lts {X : List Value} (h : GR w g vX vW vG n X W G) {k : Nat} (hk : ownR g vX vW vG k) : k < w.heap.size := by
  rcases hk with rfl | hk | hk | hk
  · exact h.blk.lt
  · exact h.rX.lt hk
  · exact h.rW.lt hk
  · exact h.rG.lt hk
theorem KS.quiet (h : KS B w g vX vW vG n P G S W) (q : Quiet w w') : KS B w' g vX vW vG n P G S W :=
  { h with gr := h.gr.quiet q, rep := fun i hi => (h.rep i hi).quiet q }

/-- Node i has turned. -/
theorem KS.node (h : KS B w g vX vW vG n P G S W) {i : Nat} (hi : i < n) (c : Chg (ownP P i) w w') {s' : Nd} (r : Rep w' (P i).1 (P i).2.1 (P i).2.2 s') : KS B w' g vX vW vG n P G (upS S i s') W :=
  { h with
    gr := h.gr.of_chg c (fun k hk hk2 => h.dg i hi k hk2 hk)
    rep := fun j hj => by
      by_cases e : j = i
      · subst e; rw [upS_at]; exact r
      · rw [upS_ne e]
        exact (h.rep j hj).of_chg c (fun k hk hk2 => h.dis i j hi hj (fun e' => e e'.symm) k hk hk2) }

/-- The ghost's minds have turned. -/
theorem KS.minds (h : KS B w g vX vW vG n P G S W) (c : Chg (fun k => vG.ownBlock = some k) w w') {G' : Nat → Nd} (r : Row w' 80 4 vG n (gcells G' n)) : KS B w' g vX vW vG n P G' S W :=
  { h with
    gr := { h.gr with
      blk := c.blk h.gr.blk h.gr.gg
      rX := h.gr.rX.of_chg c (fun b hb => h.gr.xg b hb)
      rW := h.gr.rW.of_chg c (fun b hb => h.gr.wg b hb)
      rG := r }
    rep := fun j hj => (h.rep j hj).of_chg c (fun k hk hk2 => h.dg j hj k hk2 (.inr (.inr (.inr hk)))) }

/-- The wire has turned: its row by a call, then the field is stored. -/
theorem KS.wire (h : KS B w g vX vW vG n P G S W) {u : Value} {W' : List M4} (hr : Row w' 82 4 u W'.length (mcells W')) (c : Chg (fun k => vW.ownBlock = some k) w w') (hg : ∀ b, u.ownBlock = some b → vW.ownBlock = some b ∨ w.heap.size ≤ b) : KS B (w'.setCell ⟨g, 1, none⟩ u) g vX u vG n P G S W' := by
  have hgl := h.gr.blk.lt
  have hB : B ≤ g := h.lo g (.inl rfl)
  have c2 : Chg (fun x => x = g) w' (w'.setCell ⟨g, 1, none⟩ u) := Chg.setCell (S := fun x => x = g) (p := ⟨g, 1, none⟩) (Chg.refl _ w') (.inl rfl) u
  have hug : u.ownBlock ≠ some g := fun e => by
    rcases hg g e with h1 | h1
    · exact h.gr.gw h1
    · omega
  have b1 := (c.blk h.gr.blk h.gr.gw).set 1 u
  refine ⟨⟨b1, ?_, hr.of_chg c2 (fun b hb e => hug (by rw [hb, e])), ?_, h.gr.gx, hug, h.gr.gg, ?_, h.gr.xg, ?_⟩, ?_, h.dis, ?_, ?_, h.ln⟩
  · exact (h.gr.rX.of_chg c (fun b hb hb2 => h.gr.xw b hb hb2)).of_chg c2 (fun b hb e => h.gr.gx (by rw [hb, e]))
  · exact (h.gr.rG.of_chg c (fun b hb hb2 => h.gr.wg b hb2 hb)).of_chg c2 (fun b hb e => h.gr.gg (by rw [hb, e]))
  · intro b hb hb2
    rcases hg b hb2 with h1 | h1
    · exact h.gr.xw b hb h1
    · have := h.gr.rX.lt hb; omega
  · intro b hb hb2
    rcases hg b hb with h1 | h1
    · exact h.gr.wg b h1 hb2
    · have := h.gr.rG.lt hb2; omega
  · intro j hj
    exact ((h.rep j hj).of_chg c (fun k hk hk2 => h.dg j hj k hk2 (.inr (.inr (.inl hk))))).of_chg c2 (fun k hk hk2 => h.dg j hj k hk2 (.inl hk))
  · intro i hi k hk hk2
    rcases hk2 with e | e | e | e
    · exact h.dg i hi k hk (.inl e)
    · exact h.dg i hi k hk (.inr (.inl e))
    · rcases hg k e with h1 | h1
      · exact h.dg i hi k hk (.inr (.inr (.inl h1)))
      · obtain ⟨z1, z2, z3⟩ := (h.rep i hi).lts
        rcases hk with e | e | e <;> omega
    · exact h.dg i hi k hk (.inr (.inr (.inr e)))
  · intro k hk
    rcases hk with e | e | e | e
    · exact h.lo k (.inl e)
    · exact h.lo k (.inr (.inl e))
    · rcases hg k e with h1 | h1
      · exact h.lo k (.inr (.inr (.inl h1)))
      · omega
    · exact h.lo k (.inr (.inr (.inr e)))

/-- A node's pointer. -/
theorem KS.ptrAt (h : KS B w g vX vW vG n P G S W) {i : Nat} (hi : i < n) : ∃ xb cx, vX = .slice (some ⟨xb, 0, none⟩) n cx ∧ w.cell? ⟨xb, i, none⟩ = some (ptr (P i).1) := by
  rcases h.gr.rX.form with ⟨_, h0, _⟩ | ⟨xb, cx, sp, hv, hb, _⟩
  · omega
  · exact ⟨xb, cx, hv, by rw [hb.cell, xsP_get P n sp i hi]⟩
end

/-- What is written behind a mind's store. -/
theorem gcells_set (S : Nat → Nd) (i : Nat) (s' : Nd) : ∀ n, i < n → gcells (upS S i s') n = (((((gcells S n).set (i * 4) (.int .i64 s'.clock)).set (i * 4 + 1) (.int .i64 s'.phase)).set (i * 4 + 2) (.int .i64 s'.mine)).set (i * 4 + 3) (.int .i64 s'.acks))
  | 0, h => by omega
  | n + 1, h => by
    have hl := gcells_length S n
    rw [gcells, gcells]
    by_cases e : i = n
    · subst e
      rw [upS_at, gcells_congr i (fun j hj => upS_ne (S := S) (s := s') (by omega : j ≠ i))]
      rw [List.set_append_right (i * 4) _ (by omega), hl, List.set_append_right (i * 4 + 1) _ (by omega), hl, List.set_append_right (i * 4 + 2) _ (by omega), hl, List.set_append_right (i * 4 + 3) _ (by omega), hl]
      rw [show i * 4 - i * 4 = 0 by omega, show i * 4 + 1 - i * 4 = 1 by omega, show i * 4 + 2 - i * 4 = 2 by omega, show i * 4 + 3 - i * 4 = 3 by omega]
      rfl
    · rw [gcells_set S i s' n (by omega), upS_ne (by omega)]
      rw [List.set_append_left _ _ (by omega), List.set_append_left _ _ (by simp; omega), List.set_append_left _ _ (by simp; omega), List.set_append_left _ _ (by simp; omega)]

/-- The mind's four stores. -/
theorem KS.mindStore {B : Nat} {w : World} {g : Nat} {vX vW : Value} {n : Nat} {P : Nat → Nat × Nat × Nat} {G S : Nat → Nd} {W : List M4} {gb cg : Nat} (h : KS B w g vX vW (.slice (some ⟨gb, 0, none⟩) n cg) n P G S W) {i : Nat} (hi : i < n) (s' : Nd) :
    KS B ((((w.setCell ⟨gb, i * 4, none⟩ (.int .i64 s'.clock)).setCell ⟨gb, i * 4 + 1, none⟩ (.int .i64 s'.phase)).setCell ⟨gb, i * 4 + 2, none⟩ (.int .i64 s'.mine)).setCell ⟨gb, i * 4 + 3, none⟩ (.int .i64 s'.acks)) g vX vW (.slice (some ⟨gb, 0, none⟩) n cg) n P (upS G i s') S W := by
  obtain ⟨sp, hb, hn, hm, hl⟩ := h.gr.rG.some_form
  have hgl := gcells_length G n
  have c : Chg (fun k => (Value.slice (some ⟨gb, 0, none⟩) n cg).ownBlock = some k) w ((((w.setCell ⟨gb, i * 4, none⟩ (.int .i64 s'.clock)).setCell ⟨gb, i * 4 + 1, none⟩ (.int .i64 s'.phase)).setCell ⟨gb, i * 4 + 2, none⟩ (.int .i64 s'.mine)).setCell ⟨gb, i * 4 + 3, none⟩ (.int .i64 s'.acks)) :=
    Chg.setCell (S := fun k => (Value.slice (some ⟨gb, 0, none⟩) n cg).ownBlock = some k) (p := ⟨gb, i * 4 + 3, none⟩) (Chg.setCell (S := fun k => (Value.slice (some ⟨gb, 0, none⟩) n cg).ownBlock = some k) (p := ⟨gb, i * 4 + 2, none⟩) (Chg.setCell (S := fun k => (Value.slice (some ⟨gb, 0, none⟩) n cg).ownBlock = some k) (p := ⟨gb, i * 4 + 1, none⟩) (Chg.setCell (S := fun k => (Value.slice (some ⟨gb, 0, none⟩) n cg).ownBlock = some k) (p := ⟨gb, i * 4, none⟩) (Chg.refl _ w) (.inl rfl) _) (.inl rfl) _) (.inl rfl) _) (.inl rfl) _
  refine h.minds c ?_
  refine Row.of_blk (spare := sp) ?_ (gcells_length _ _) hn hm (by rw [List.length_append, gcells_length]; rw [List.length_append, gcells_length] at hl; exact hl)
  have := (((hb.set (i * 4) (.int .i64 s'.clock)).set (i * 4 + 1) (.int .i64 s'.phase)).set (i * 4 + 2) (.int .i64 s'.mine)).set (i * 4 + 3) (.int .i64 s'.acks)
  rw [List.set_append_left _ _ (by omega), List.set_append_left _ _ (by simp; omega), List.set_append_left _ _ (by simp; omega), List.set_append_left _ _ (by simp; omega), ← gcells_set G i s' n hi] at this
  exact this
end Go.Proofs.Qxb6500367a
