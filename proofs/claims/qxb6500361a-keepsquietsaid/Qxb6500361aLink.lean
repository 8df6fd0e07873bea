/-
  THE LINKS, LEVEL BY LEVEL: a node f that stands between 'pre' and 'suf' is linked in the levels of L and in no other.
-/
import Derived.Test.Qxb6500361aPlain
namespace Go.Proofs.Qxb6500361a
open Go.RowKit Go.Qx
set_option linter.unusedSimpArgs false
set_option linter.unusedVariables false

def lkNext (L : Nat → Bool) (j : Nat) (b : List Nd) (f : Nd) (suf : List Nd) : Value := bif L j then nxt j (b ++ f :: suf) else nxt j (b ++ suf)

def lkCells (L : Nat → Bool) (d : Nd) (b : List Nd) (f : Nd) (suf : List Nd) : List Value :=
  .int .i64 d.key :: .string d.val :: .int .i64 d.h :: (List.range 8).map fun j => if j < d.h then lkNext L j b f suf else .pointer none

def lkHead (L : Nat → Bool) (pre : List Nd) (f : Nd) (suf : List Nd) : List Value :=
  .int .i64 0 :: .string ⟨#[]⟩ :: .int .i64 0 :: (List.range 8).map fun j => lkNext L j pre f suf

structure Lk (w : World) (hd : Nat) (L : Nat → Bool) (pre : List Nd) (f : Nd) (suf : List Nd) (fc : List Value) : Prop where
  head : Blk w hd 53 (lkHead L pre f suf)
  pres : ∀ a d b, pre = a ++ d :: b → Blk w d.addr 53 (lkCells L d b f suf)
  sufs : ∀ a d b, suf = a ++ d :: b → Blk w d.addr 53 (cellsOf d b)
  node : Blk w f.addr 53 fc
  nodup : (hd :: f.addr :: (pre ++ suf).map Nd.addr).Nodup

theorem path_split (hd i : Nat) (pre : List Nd) : ((∀ d ∈ pre, d.h ≤ i) ∧ pathA hd i pre = hd) ∨ ∃ a d b, pre = a ++ d :: b ∧ i < d.h ∧ (∀ x ∈ b, x.h ≤ i) ∧ pathA hd i pre = d.addr := by
  rcases List.eq_nil_or_concat (pre.filter fun d => decide (i < d.h)) with e | ⟨l, d, e⟩
  · left
    refine ⟨fun d hd => ?_, ?_⟩
    · have := List.filter_eq_nil_iff.1 e d hd
      simpa using this
    · unfold pathA; rw [e]; rfl
  · right
    rw [List.concat_eq_append] at e
    have hp : pathA hd i pre = d.addr := by unfold pathA; rw [e, cur_snoc]
    obtain ⟨l1, l2, rfl, h1, h2⟩ := List.filter_eq_append_iff.1 e
    obtain ⟨m1, m2, rfl, h3, h4, h5⟩ := List.filter_eq_cons_iff.1 h2
    refine ⟨l1 ++ m1, d, m2, by simp, by simpa using h4, fun x hx => ?_, hp⟩
    have := List.filter_eq_nil_iff.1 h5 x hx
    simpa using this

/-- L and M part at level i at most. -/
def agreeBut (i : Nat) (L M : Nat → Bool) : Prop := ∀ j, j ≠ i → L j = M j

theorem lkNext_low {L : Nat → Bool} {i : Nat} {b : List Nd} {f : Nd} {suf : List Nd} (hb : ∀ d ∈ b, d.h ≤ i) : lkNext L i b f suf = bif L i then nxt i (f :: suf) else nxt i suf := by
  unfold lkNext
  rw [nxt_none i b _ hb, nxt_none i b _ hb]

theorem lkNext_high {L M : Nat → Bool} {i : Nat} {b : List Nd} {f : Nd} {suf : List Nd} (hb : ∃ d ∈ b, i < d.h) : lkNext L i b f suf = lkNext M i b f suf := by
  have e : ∀ l l', nxt i (b ++ l) = nxt i (b ++ l') := by
    intro l l'
    rcases first_in i b with h | ⟨b1, d, b2, rfl, h1, h2⟩
    · obtain ⟨d, hd, h'⟩ := hb; have := h d hd; omega
    · rw [List.append_assoc, List.cons_append, nxt_some i b1 d _ h1 h2, List.append_assoc, List.cons_append, nxt_some i b1 d _ h1 h2]
  unfold lkNext
  rw [e (f :: suf) suf]
  cases L i <;> cases M i <;> rfl

theorem lkCells_same {L M : Nat → Bool} {i : Nat} (hLM : agreeBut i L M) {d : Nd} {b : List Nd} {f : Nd} {suf : List Nd} (h : d.h ≤ i ∨ ∃ x ∈ b, i < x.h) : lkCells L d b f suf = lkCells M d b f suf := by
  unfold lkCells
  have : ∀ j, (if j < d.h then lkNext L j b f suf else .pointer none) = (if j < d.h then lkNext M j b f suf else .pointer none) := by
    intro j
    by_cases hj : j < d.h
    · rw [if_pos hj, if_pos hj]
      by_cases hij : j = i
      · subst hij
        rcases h with h | h
        · omega
        · exact lkNext_high h
      · unfold lkNext; rw [hLM j hij]
    · rw [if_neg hj, if_neg hj]
  simp [this]

theorem set_range (i : Nat) (hi : i < 8) (a b c : Value) (g g' : Nat → Value) (v : Value) (hv : g' i = v) (h : ∀ j, j ≠ i → g j = g' j) :
    (a :: b :: c :: (List.range 8).map g).set (3 + i) v = a :: b :: c :: (List.range 8).map g' := by
  rw [show 3 + i = i + 1 + 1 + 1 by omega]
  simp only [List.set_cons_succ]
  congr 3
  apply List.ext_getElem?
  intro j
  rw [List.getElem?_set]
  by_cases hj : j < 8
  · by_cases hij : i = j
    · subst hij; simp [hj, hv]
    · simp [hij, hj, h j (Ne.symm hij)]
  · simp [hj]; omega

/-- What the path's node holds in level i. -/
theorem Lk.path_cell {w : World} {hd : Nat} {L : Nat → Bool} {pre : List Nd} {f : Nd} {suf : List Nd} {fc : List Value} (k : Lk w hd L pre f suf fc) (i : Nat) (hi : i < 8) :
    w.cell? ⟨pathA hd i pre, 3 + i, none⟩ = some (bif L i then nxt i (f :: suf) else nxt i suf) ∧ w.frozen? ⟨pathA hd i pre, 3 + i, none⟩ = false := by
  rcases path_split hd i pre with ⟨hlow, e⟩ | ⟨a, d, b, hab, hdh, hb, e⟩
  · rw [e]
    refine ⟨(k.head.cell _).trans ?_, k.head.frozen _⟩
    rw [← lkNext_low (L := L) (f := f) (suf := suf) hlow]
    unfold lkHead
    rw [show 3 + i = i + 1 + 1 + 1 by omega]
    simp [hi]
  · rw [e]
    have hk := k.pres a d b hab
    refine ⟨(hk.cell _).trans ?_, hk.frozen _⟩
    rw [← lkNext_low (L := L) (f := f) (suf := suf) hb]
    unfold lkCells
    rw [show 3 + i = i + 1 + 1 + 1 by omega]
    simp [hi, hdh]

theorem split_unique {pre : List Nd} (hn : (pre.map Nd.addr).Nodup) {a d b a' d' b'} (h : pre = a ++ d :: b) (h' : pre = a' ++ d' :: b') (e : d.addr = d'.addr) : b = b' ∧ d = d' := by
  have key : ∀ (l : List Nd), (l.map Nd.addr).Nodup → ∀ a b a' b' (d d' : Nd), l = a ++ d :: b → l = a' ++ d' :: b' → d.addr = d'.addr → b = b' ∧ d = d' := by
    intro l
    induction l with
    | nil => intro _ a b a' b' d d' h; simp at h
    | cons x l ih =>
      intro hn a b a' b' d d' h h' e
      simp only [List.map_cons, List.nodup_cons] at hn
      cases a with
      | nil =>
        simp only [List.nil_append, List.cons.injEq] at h
        obtain ⟨rfl, rfl⟩ := h
        cases a' with
        | nil => simp only [List.nil_append, List.cons.injEq] at h'; exact ⟨h'.2, h'.1⟩
        | cons y a' =>
          simp only [List.cons_append, List.cons.injEq] at h'
          obtain ⟨rfl, rfl⟩ := h'
          exfalso; apply hn.1; rw [e]; simp
      | cons y a =>
        simp only [List.cons_append, List.cons.injEq] at h
        obtain ⟨rfl, rfl⟩ := h
        cases a' with
        | nil =>
          simp only [List.nil_append, List.cons.injEq] at h'
          obtain ⟨rfl, rfl⟩ := h'
          exfalso; apply hn.1; rw [← e]; simp
        | cons z a' =>
          simp only [List.cons_append, List.cons.injEq] at h'
          exact ih hn.2 a b a' b' d d' rfl h'.2 e
  exact key pre hn a b a' b' d d' h h' e

/-- The path's node is turned in level i: there, and nowhere else. -/
theorem Lk.step {w : World} {hd : Nat} {L M : Nat → Bool} {pre : List Nd} {f : Nd} {suf : List Nd} {fc : List Value} (k : Lk w hd L pre f suf fc) (i : Nat) (hi : i < 8) (hLM : agreeBut i L M) (v : Value)
    (hv : v = bif M i then nxt i (f :: suf) else nxt i suf) : Lk (w.setCell ⟨pathA hd i pre, 3 + i, none⟩ v) hd M pre f suf fc := by
  have hn := k.nodup
  simp only [List.nodup_cons, List.mem_cons, not_or, List.map_append, List.mem_append, List.mem_map, not_exists, not_and, List.nodup_append] at hn
  obtain ⟨⟨hn1, hn2, hn3⟩, ⟨hn4, hn5⟩, hn6, hn7, hn8⟩ := hn
  rcases path_split hd i pre with ⟨hlow, e⟩ | ⟨a, d, b, hab, hdh, hb, e⟩
  · rw [e]
    refine ⟨?_, ?_, ?_, ?_, k.nodup⟩
    · have := k.head.set (3 + i) v
      unfold lkHead at this ⊢
      rw [set_range i hi _ _ _ _ (fun j => lkNext M j pre f suf) v (by rw [lkNext_low hlow]; exact hv.symm) (fun j hj => by unfold lkNext; rw [hLM j hj])] at this
      exact this
    · intro a d b hab
      have h1 : d.h ≤ i := hlow d (by rw [hab]; simp)
      rw [← lkCells_same hLM (.inl h1)]
      exact (k.pres a d b hab).set_other (by show d.addr ≠ hd; intro h; exact hn2 d (by rw [hab]; simp) h) _
    · intro a d b hab
      exact (k.sufs a d b hab).set_other (by show d.addr ≠ hd; intro h; exact hn3 d (by rw [hab]; simp) h) _
    · exact k.node.set_other (by show f.addr ≠ hd; intro h; exact hn1 h.symm) _
  · rw [e]
    have hd1 : d ∈ pre := by rw [hab]; simp
    refine ⟨?_, ?_, ?_, ?_, k.nodup⟩
    · have h2 := k.head.set_other (a := ⟨d.addr, 3 + i, none⟩) (by show hd ≠ d.addr; intro h; exact hn2 d hd1 h.symm) v
      have h3 : lkHead L pre f suf = lkHead M pre f suf := by
        unfold lkHead
        have : ∀ j, lkNext L j pre f suf = lkNext M j pre f suf := by
          intro j
          by_cases hj : j = i
          · subst hj; exact lkNext_high ⟨d, hd1, hdh⟩
          · unfold lkNext; rw [hLM j hj]
        simp [this]
      rw [← h3]; exact h2
    · intro a' d' b' hab'
      by_cases hdd : d'.addr = d.addr
      · obtain ⟨rfl, rfl⟩ := split_unique hn6 hab' hab hdd
        have := (k.pres a' d' b' hab').set (3 + i) v
        unfold lkCells at this ⊢
        rw [set_range i hi _ _ _ _ (fun j => if j < d'.h then lkNext M j b' f suf else .pointer none) v (by simp only [hdh, if_true]; rw [lkNext_low hb]; exact hv.symm) (fun j hj => by unfold lkNext; rw [hLM j hj])] at this
        exact this
      · have h1 : d'.h ≤ i ∨ ∃ x ∈ b', i < x.h := by
          by_cases h : d'.h ≤ i
          · exact .inl h
          · right
            -- d is the last one above i: so it stands behind d'
            have h2 := hab.symm.trans hab'
            rcases List.append_eq_append_iff.1 h2 with ⟨m, h3, h4⟩ | ⟨m, h3, h4⟩
            · cases m with
              | nil =>
                simp only [List.nil_append, List.cons.injEq] at h4
                exact absurd (by rw [h4.1]) hdd
              | cons y m =>
                simp only [List.cons_append, List.cons.injEq] at h4
                exfalso
                have := hb d' (by rw [h4.2]; simp)
                omega
            · cases m with
              | nil =>
                simp only [List.nil_append, List.cons.injEq] at h4
                exact absurd (by rw [h4.1]) hdd
              | cons y m =>
                simp only [List.cons_append, List.cons.injEq] at h4
                exact ⟨d, by rw [h4.2]; simp, hdh⟩
        rw [← lkCells_same hLM h1]
        exact (k.pres a' d' b' hab').set_other hdd _
    · intro a' d' b' hab'
      exact (k.sufs a' d' b' hab').set_other (by show d'.addr ≠ d.addr; intro h; exact hn8 _ ⟨d, hd1, rfl⟩ _ ⟨d', by rw [hab']; simp, rfl⟩ h.symm) _
    · exact k.node.set_other (by show f.addr ≠ d.addr; intro h; exact hn4 d hd1 h.symm) _

theorem Lk.of_chg {w w' : World} {hd : Nat} {L : Nat → Bool} {pre : List Nd} {f : Nd} {suf : List Nd} {fc : List Value} {S : Nat → Prop} (k : Lk w hd L pre f suf fc) (h : Chg S w w') (hh : ¬ S hd) (hf : ¬ S f.addr)
    (hp : ∀ d ∈ pre ++ suf, ¬ S d.addr) : Lk w' hd L pre f suf fc :=
  ⟨h.blk k.head hh, fun a d b e => h.blk (k.pres a d b e) (hp d (by rw [e]; simp)), fun a d b e => h.blk (k.sufs a d b e) (hp d (by rw [e]; simp)), h.blk k.node hf, k.nodup⟩

theorem Lk.set_node {w : World} {hd : Nat} {L : Nat → Bool} {pre : List Nd} {f : Nd} {suf : List Nd} {fc : List Value} (k : Lk w hd L pre f suf fc) (o : Nat) (v : Value) : Lk (w.setCell ⟨f.addr, o, none⟩ v) hd L pre f suf (fc.set o v) := by
  have hn := k.nodup
  simp only [List.nodup_cons, List.mem_cons, not_or, List.map_append, List.mem_append, List.mem_map, not_exists, not_and, List.nodup_append] at hn
  obtain ⟨⟨hn1, hn2, hn3⟩, ⟨hn4, hn5⟩, hn6, hn7, hn8⟩ := hn
  exact ⟨k.head.set_other hn1 _, fun a d b e => (k.pres a d b e).set_other (by show d.addr ≠ f.addr; exact hn4 d (by rw [e]; simp)) _,
    fun a d b e => (k.sufs a d b e).set_other (by show d.addr ≠ f.addr; exact hn5 d (by rw [e]; simp)) _, k.node.set o v, k.nodup⟩


theorem Lk.drew {w : World} {hd : Nat} {L : Nat → Bool} {pre : List Nd} {f : Nd} {suf : List Nd} {fc : List Value} (k : Lk w hd L pre f suf fc) : Lk w.drew hd L pre f suf fc :=
  k.of_chg ((Chg.refl (fun _ => False) _).drew) id id (fun _ _ => id)

theorem Rep.path_ne {w : World} {c l hd : Nat} {s : ByteArray} {pre suf : List Nd} {top : Nat} (r : Rep w c l hd s (pre ++ suf) top) (j : Nat) : pathA hd j pre ≠ c ∧ pathA hd j pre ≠ l := by
  have hn := r.nodup
  simp only [List.nodup_cons, List.mem_cons, not_or, List.map_append, List.mem_append, List.mem_map, not_exists, not_and] at hn
  obtain ⟨⟨h1, h2, h3, h4⟩, ⟨h5, h6, h7⟩, _⟩ := hn
  rcases path_split hd j pre with ⟨_, e⟩ | ⟨a, d, b, hab, _, _, e⟩
  · rw [e]; exact ⟨Ne.symm h2, Ne.symm h5⟩
  · rw [e]; exact ⟨h3 d (by rw [hab]; simp), h6 d (by rw [hab]; simp)⟩

theorem Rep.lk {w : World} {c l hd : Nat} {s : ByteArray} {pre suf : List Nd} {top : Nat} (r : Rep w c l hd s (pre ++ suf) top) (f : Nd) (fc : List Value) (hf : Blk w f.addr 53 fc) (h1 : f.addr ≠ hd)
    (h2 : ∀ d ∈ pre ++ suf, d.addr ≠ f.addr) : Lk w hd (fun _ => false) pre f suf fc := by
  refine ⟨?_, ?_, ?_, hf, ?_⟩
  · exact r.head
  · intro a d b e
    have := r.node a d (b ++ suf) (by rw [e]; simp)
    exact this
  · intro a d b e
    exact r.node (pre ++ a) d b (by rw [e]; simp)
  · have hn := r.nodup
    simp only [List.nodup_cons, List.mem_cons, not_or] at hn ⊢
    refine ⟨⟨Ne.symm h1, hn.2.2.1⟩, ?_, hn.2.2.2⟩
    intro h
    obtain ⟨d, hd, e⟩ := List.mem_map.1 h
    exact h2 d hd e

theorem lk_all {L : Nat → Bool} {f : Nd} (hL : ∀ j, j < f.h → L j = true) (j : Nat) (b suf : List Nd) : lkNext L j b f suf = nxt j (b ++ f :: suf) := by
  unfold lkNext
  by_cases h : j < f.h
  · rw [hL j h]; rfl
  · cases L j
    · simp only [cond_false]
      have e : nxt j (f :: suf) = nxt j suf := by
        have := nxt_none j [f] suf (by simp; omega)
        simpa using this
      rcases first_in j b with hb | ⟨b1, x, b2, rfl, hb1, hx⟩
      · rw [nxt_none j b _ hb, nxt_none j b _ hb, e]
      · rw [List.append_assoc, List.cons_append, nxt_some j b1 x _ hb1 hx, List.append_assoc, List.cons_append, nxt_some j b1 x _ hb1 hx]
    · rfl

/-- All levels of f are linked: it is one of the list's nodes. -/
theorem Lk.nodes {w : World} {hd : Nat} {L : Nat → Bool} {pre : List Nd} {f : Nd} {suf : List Nd} (k : Lk w hd L pre f suf (cellsOf f suf)) (hL : ∀ j, j < f.h → L j = true) :
    Blk w hd 53 (headCells (pre ++ f :: suf)) ∧ ∀ a d b, pre ++ f :: suf = a ++ d :: b → Blk w d.addr 53 (cellsOf d b) := by
  constructor
  · have := k.head
    unfold lkHead at this
    unfold headCells
    simp only [lk_all hL] at this
    exact this
  · intro a d b e
    rcases app_cases e with ⟨m, rfl, rfl⟩ | ⟨rfl, rfl, rfl⟩ | ⟨m, rfl, rfl⟩
    · have := k.pres a d m rfl
      unfold lkCells at this
      unfold cellsOf
      simp only [lk_all hL] at this
      exact this
    · exact k.node
    · exact k.sufs m d b rfl

/-- No level of f is linked: it is none of the list's nodes. -/
theorem Lk.nodes_out {w : World} {hd : Nat} {pre : List Nd} {f : Nd} {suf : List Nd} {L : Nat → Bool} {fc : List Value} (k : Lk w hd L pre f suf fc) (hL : ∀ j, j < 8 → L j = false) :
    Blk w hd 53 (headCells (pre ++ suf)) ∧ ∀ a d b, pre ++ suf = a ++ d :: b → Blk w d.addr 53 (cellsOf d b) := by
  have e1 : ∀ b, (List.range 8).map (fun j => lkNext L j b f suf) = (List.range 8).map fun j => nxt j (b ++ suf) := by
    intro b
    apply List.map_congr_left
    intro j hj
    unfold lkNext
    rw [hL j (by simpa using hj)]; rfl
  have e2 : ∀ (d : Nd) b, (List.range 8).map (fun j => if j < d.h then lkNext L j b f suf else .pointer none) = (List.range 8).map fun j => if j < d.h then nxt j (b ++ suf) else .pointer none := by
    intro d b
    apply List.map_congr_left
    intro j hj
    unfold lkNext
    rw [hL j (by simpa using hj)]; rfl
  constructor
  · have := k.head
    unfold lkHead at this
    rw [e1] at this
    exact this
  · intro a d b e
    rcases List.append_eq_append_iff.1 e with ⟨m, h3, h4⟩ | ⟨m, h3, h4⟩
    · exact k.sufs m d b h4
    · cases m with
      | nil =>
        simp only [List.nil_append, List.append_nil] at h3 h4
        exact k.sufs [] d b h4.symm
      | cons y m =>
        simp only [List.cons_append, List.cons.injEq] at h4
        obtain ⟨rfl, rfl⟩ := h4
        have := k.pres a d m h3
        unfold lkCells at this
        rw [e2] at this
        exact this

theorem lkNext_over {L M : Nat → Bool} {i : Nat} {b : List Nd} {f : Nd} {suf : List Nd} (hf : f.h ≤ i) : lkNext L i b f suf = lkNext M i b f suf := by
  have e : nxt i (b ++ f :: suf) = nxt i (b ++ suf) := by
    have e1 : nxt i (f :: suf) = nxt i suf := by
      have := nxt_none i [f] suf (by simp; omega)
      simpa using this
    rcases first_in i b with hb | ⟨b1, x, b2, rfl, hb1, hx⟩
    · rw [nxt_none i b _ hb, nxt_none i b _ hb, e1]
    · rw [List.append_assoc, List.cons_append, nxt_some i b1 x _ hb1 hx, List.append_assoc, List.cons_append, nxt_some i b1 x _ hb1 hx]
  unfold lkNext
  rw [e]
  cases L i <;> cases M i <;> rfl

/-- A level that f does not reach says nothing. -/
theorem Lk.relax {w : World} {hd : Nat} {L M : Nat → Bool} {pre : List Nd} {f : Nd} {suf : List Nd} {fc : List Value} (k : Lk w hd L pre f suf fc) (i : Nat) (hf : f.h ≤ i) (hLM : agreeBut i L M) : Lk w hd M pre f suf fc := by
  have e : ∀ j b, lkNext L j b f suf = lkNext M j b f suf := by
    intro j b
    by_cases h : j = i
    · subst h; exact lkNext_over hf
    · unfold lkNext; rw [hLM j h]
  have e1 : lkHead L pre f suf = lkHead M pre f suf := by unfold lkHead; simp only [e]
  have e2 : ∀ d b, lkCells L d b f suf = lkCells M d b f suf := by intro d b; unfold lkCells; simp only [e]
  exact ⟨e1 ▸ k.head, fun a d b h => e2 d b ▸ k.pres a d b h, k.sufs, k.node, k.nodup⟩

/-- The list with f in it, seen as all levels linked. -/
theorem Rep.lk_in {w : World} {c l hd : Nat} {s : ByteArray} {pre suf : List Nd} {f : Nd} {top : Nat} (r : Rep w c l hd s (pre ++ f :: suf) top) : Lk w hd (fun x => decide (0 ≤ x)) pre f suf (cellsOf f suf) := by
  refine ⟨?_, ?_, ?_, r.node pre f suf rfl, ?_⟩
  · exact r.head
  · intro a d b e
    have := r.node a d (b ++ f :: suf) (by rw [e]; simp)
    exact this
  · intro a d b e
    exact r.node (pre ++ f :: a) d b (by rw [e]; simp)
  · have hn := r.nodup
    simp only [List.nodup_cons, List.mem_cons, not_or, List.map_append, List.map_cons, List.mem_append, List.mem_map, not_exists, not_and, List.nodup_append] at hn ⊢
    obtain ⟨_, _, ⟨c1, c2, c3⟩, d1, ⟨d2, d3⟩, d4⟩ := hn
    refine ⟨⟨c2, c1, c3⟩, ⟨fun x hx e => d4 _ ⟨x, hx, rfl⟩ _ (.inl rfl) e, d2⟩, d1, d3, fun a ha b hb => d4 a ha b (.inr hb)⟩

theorem pathA_own (hd i : Nat) (pre : List Nd) : pathA hd i pre = hd ∨ ∃ d ∈ pre, pathA hd i pre = d.addr := by
  rcases path_split hd i pre with ⟨_, e⟩ | ⟨a, d, b, hab, _, _, e⟩
  · exact .inl e
  · exact .inr ⟨d, by rw [hab]; simp, e⟩

end Go.Proofs.Qxb6500361a
