/-
  A REGION THAT DRAWS ITS ORDER, two laws more: a tail in which pure operations are taken first; and one operation (an alloc) that may come up ahead of the reads.
-/
import Derived.Test.Qxb6500367aQq
import Derived.Test.Qxb6500367aQf
namespace Go.Qx
open Go Go.RowKit
set_option linter.unusedVariables false
section
variable {P : Program} {ops : Array Oper} {Q : Exit → Act → World → Prop} {md : Region.Mode} {C : World → Prop} {Cs T : List Nat} {F : World → Prop}

/-- The rest: (number, whether it is pure and taken first). -/
def wpTail (P : Program) (ops : Array Oper) (Q : Exit → Act → World → Prop) : List (Nat × Bool) → Act → World → Prop
  | [], a, w => Q .normal a w
  | (i, true) :: r, a, w => qOp P ops (fun _ => True) i (fun a' => wpTail P ops Q r a' w) a
  | (i, false) :: r, a, w => wpOp P ops Q i (wpTail P ops Q r) a w

def tailZ (md : Region.Mode) (ops : Array Oper) : List (Nat × Bool) → Array Bool → Bool
  | [], L => (Region.ready md ops L).isEmpty
  | (k, true) :: r, L => (Region.ready md ops L).contains k && Region.free md ops L k && (ops[k]?.map handsOn).getD false && tailZ md ops r (L.setIfInBounds k true)
  | (k, false) :: r, L => (Region.ready md ops L == [k]) && tailZ md ops r (L.setIfInBounds k true)

theorem yields_of_q {o : Oper} {a : Act} {i : Nat} {K : Act → Prop} (ho : ops[i]? = some o) (hh : handsOn o = true) (h : qOp P ops (fun _ => True) i K a) : ∃ v, Yields P ops o v a ∧ K (a.put o.dst v) := by
  unfold qOp at h
  simp only [ho] at h
  by_cases hw : Region.wanted o (yielded ops a.tmps) = true
  · rw [if_pos hw] at h
    obtain ⟨v, hv, hK⟩ := h
    refine ⟨v, .inl ⟨hw, fun w => ?_⟩, hK⟩
    have h1 := hv w trivial
    unfold Oper.quietAt at h1
    generalize hx : (execOp a.eval o).run P w = r at h1
    cases r with
    | ok n w' =>
      obtain ⟨u, rfl⟩ := handsOn_spec hh hx
      obtain ⟨rfl, rfl⟩ := h1
      rfl
    | halt x w' => exact h1.elim
  · rw [if_neg hw] at h
    exact ⟨undef, .inr ⟨by simpa using hw, rfl⟩, h⟩

theorem wpAny_of_tail (hs : Region.noSelect ops = true) (hQ : ∀ c a d v w, Q (.panic c) (Act.put a d v) w → Q (.panic c) a w) : ∀ (ts : List (Nat × Bool)) (L : Array Bool) (a : Act) (w : World), tailZ md ops ts L = true → wpTail P ops Q ts a w → wpAny P md ops Q ts.length L a w
  | [], _, _, _, hB, h => ⟨by simpa [tailZ] using hB, h⟩
  | (k, true) :: r, L, a, w, hB, h => by
    simp only [tailZ, Bool.and_eq_true] at hB
    obtain ⟨⟨⟨hr, hf⟩, hh⟩, hB'⟩ := hB
    have hr' : k ∈ Region.ready md ops L := by simpa using hr
    obtain ⟨_, o, ho, _⟩ := mem_ready.1 hr'
    rw [ho] at hh
    simp only [Option.map_some, Option.getD_some] at hh
    obtain ⟨v, hy, hK⟩ := yields_of_q ho hh h
    exact wpAny_first ho (Region.noSelect_spec hs) (fun c a w => hQ c a _ _ w) _ L a w (Region.free_spec ho hf) hr' hy (wpAny_of_tail hs hQ r _ _ w hB' hK)
  | (k, false) :: r, L, a, w, hB, h => by
    simp only [tailZ, Bool.and_eq_true, beq_iff_eq] at hB
    obtain ⟨hr, hB'⟩ := hB
    refine ⟨fun he => (by rw [hr] at he; cases he), fun i hi => ?_⟩
    rw [hr] at hi
    simp at hi
    subst hi
    exact wpOp_mono (fun a' w' h' => wpAny_of_tail hs hQ r _ a' w' hB' h') h

/-! ### Steps of a walk -/
theorem wpOp_go {i : Nat} {o : Oper} {K : Act → World → Prop} {a : Act} {w : World} (ho : ops[i]? = some o) (hw : Region.wanted o (yielded ops a.tmps) = true) (h : ∀ K' : Act → World → Prop, (∀ a w, K a w → K' a w) → o.wp P a w K' Q) : wpOp P ops Q i K a w := by
  unfold wpOp
  rw [ho]
  simp only [hw, if_true]
  exact .inl (h K (fun _ _ h => h))
theorem wpTail_go {i : Nat} {o : Oper} {r : List (Nat × Bool)} {a : Act} {w : World} (ho : ops[i]? = some o) (hw : Region.wanted o (yielded ops a.tmps) = true) (h : ∀ K' : Act → World → Prop, (∀ a w, wpTail P ops Q r a w → K' a w) → o.wp P a w K' Q) : wpTail P ops Q ((i, false) :: r) a w := wpOp_go ho hw h
theorem wpTail_pure {i : Nat} {o : Oper} {r : List (Nat × Bool)} {a : Act} {w : World} (ho : ops[i]? = some o) (hw : Region.wanted o (yielded ops a.tmps) = true) (h : ∀ K' : Act → Prop, (∀ a, wpTail P ops Q r a w → K' a) → o.quiet P a (fun _ => True) K') : wpTail P ops Q ((i, true) :: r) a w := by
  show qOp P ops (fun _ => True) i (fun a' => wpTail P ops Q r a' w) a
  unfold qOp
  rw [ho]
  simp only [hw, if_true]
  exact h _ (fun _ h => h)
theorem wpTail_nil {a : Act} {w : World} (h : Q .normal a w) : wpTail P ops Q [] a w := h

/-! ### SEATQm's head before such a tail -/
def headZ (md : Region.Mode) (ops : Array Oper) (T : List Nat) (ts : List (Nat × Bool)) : List (Nat × Bool) → Array Bool → Bool
  | [], L => ((Region.ready md ops L).all fun j => decide (j ∈ T)) && tailZ md ops ts L
  | (k, b) :: r, L => (Region.ready md ops L).contains k && Region.free md ops L k && decide (k ∉ T) && (if b then allWait md ops T k else (ops[k]?.map handsOn).getD false) && headZ md ops T ts r (L.setIfInBounds k true)

theorem wpAnyM_lexZ (w0 : World) (h0 : C w0) (hs : Region.noSelect ops = true) (hQ : ∀ c a d v w, Q (.panic c) (Act.put a d v) w → Q (.panic c) a w) (ts : List (Nat × Bool)) : ∀ (ps : List (Nat × Bool)) (L : Array Bool) (a : Act), Closed md ops L →
    headZ md ops T ts ps L = true → wpMix P ops C (fun a' => ∀ w', C w' → wpTail P ops Q ts a' w') (pickM ops.toList ps) a → wpAnyM P md ops C Q T (ps.length + ts.length) L a
  | [], L, a, _, hB, h => by
    simp only [headZ, Bool.and_eq_true, List.all_eq_true, decide_eq_true_eq] at hB
    rw [List.length_nil, Nat.zero_add]
    exact wpM_of_any w0 h0 _ L a hB.1 (fun w hw => wpAny_of_tail hs hQ ts L a w hB.2 (h w hw))
  | (k, b) :: ps, L, a, hcl, hB, h => by
    simp only [headZ, Bool.and_eq_true, decide_eq_true_eq] at hB
    obtain ⟨⟨⟨⟨hr, hf⟩, hkT⟩, hb⟩, hB'⟩ := hB
    have hr' : k ∈ Region.ready md ops L := by simpa using hr
    obtain ⟨_, o, ho, _⟩ := mem_ready.1 hr'
    have ho' : ops.toList[k]? = some o := by simpa using ho
    have hpk : pickM ops.toList ((k, b) :: ps) = (o, b) :: pickM ops.toList ps := by
      show (match ops.toList[k]? with | some o => (o, b) :: pickM ops.toList ps | none => pickM ops.toList ps) = _
      rw [ho']
    rw [hpk] at h
    unfold wpMix at h
    rw [List.length_cons, Nat.add_right_comm]
    have next : ∀ v, wpMix P ops C (fun a' => ∀ w', C w' → wpTail P ops Q ts a' w') (pickM ops.toList ps) (a.put o.dst v) → wpAnyM P md ops C Q T (ps.length + ts.length) (L.setIfInBounds k true) (a.put o.dst v) := fun v hv =>
      wpAnyM_lexZ w0 h0 hs hQ ts ps _ _ (closed_set hcl hr') hB' hv
    cases b with
    | true =>
      simp only [if_true] at hb h
      have hst : qOp P ops C k (wpMix P ops C (fun a' => ∀ w', C w' → wpTail P ops Q ts a' w') (pickM ops.toList ps)) a := by unfold qOp; simp only [ho]; exact h
      obtain ⟨v, hy, hK⟩ := yieldsIn_of_qOp ho hst
      exact wpAnyM_read ho (Region.noSelect_spec hs) hkT hb _ L a hcl (Region.free_spec ho hf) hr' hy (next v hK)
    | false =>
      simp only [Bool.false_eq_true, if_false] at hb h
      rw [ho] at hb
      simp only [Option.map_some, Option.getD_some] at hb
      have hst : qOp P ops (fun _ => True) k (wpMix P ops C (fun a' => ∀ w', C w' → wpTail P ops Q ts a' w') (pickM ops.toList ps)) a := by unfold qOp; simp only [ho]; exact h
      obtain ⟨v, hy, hK⟩ := yields_of_q ho hb hst
      exact wpAnyM_pure ho (Region.noSelect_spec hs) hkT (fun c a w => hQ c a _ _ w) _ L a (Region.free_spec ho hf) hr' hy (next v hK)

def mixZB (md : Region.Mode) (ops : Array Oper) (hs : List (Nat × Bool)) (ts : List (Nat × Bool)) : Bool := Region.noSelect ops && (hs.length + ts.length == ops.size) && headZ md ops (ts.map Prod.fst) ts hs (Array.replicate ops.size false)
theorem wp_region_mixz {id : Nat} {a : Act} {w : World} {l : List Oper} (hs ts : List (Nat × Bool)) (hm : P.follows .mixedOrders = true) (hB : mixZB .any l.toArray hs ts = true) (hQ : ∀ c a d v w, Q (.panic c) (Act.put a d v) w → Q (.panic c) a w)
    (h : wpMix P l.toArray (fun w' => ∃ n, w' = w.drewN n) (fun a' => ∀ w', (∃ n, w' = w.drewN n) → wpTail P l.toArray Q ts a' w') (pickM l hs) a) : (Code.region id l.toArray true).wp P Q a w := by
  simp only [mixZB, Bool.and_eq_true, beq_iff_eq] at hB
  have h1 := wpAnyM_lexZ (C := fun w' => ∃ n, w' = w.drewN n) (Q := Q) (md := .any) (T := ts.map Prod.fst) (w.drewN 1) ⟨1, rfl⟩ hB.1.1 hQ ts hs (Array.replicate l.toArray.size false) a closed_start hB.2 h
  rw [hB.1.2] at h1
  exact wp_region_any hm (wpAny_of_M _ _ _ h1 _ ⟨1, rfl⟩)

/-! ### Reads that every writer of Cs waits for; an operation z that waits for nothing -/
def headW (md : Region.Mode) (ops : Array Oper) (Cs : List Nat) : List Nat → Array Bool → Bool
  | [], _ => true
  | k :: r, L => (Region.ready md ops L).contains k && Region.free md ops L k && (Cs.all fun c => c == k || waits md ops k ops.size c) && !(Cs.contains k) && (ops[k]?.map handsOnL).getD false && headW md ops Cs r (L.setIfInBounds k true)
def markL : List Nat → Array Bool → Array Bool
  | [], L => L
  | k :: r, L => markL r (L.setIfInBounds k true)

theorem wpAnyW_head (hs : Region.noSelect ops = true) (hQ : ∀ c a d v w, Q (.panic c) (Act.put a d v) w → Q (.panic c) a w) (fuel : Nat) (w : World) (hF : F w) : ∀ (ps : List Nat) (L : Array Bool) (a : Act), Closed md ops L → headW md ops Cs ps L = true →
    wpQuiet P ops F (fun a' => wpAnyW P md ops Q Cs F fuel (markL ps L) a' w) (pickO ops.toList ps) a → wpAnyW P md ops Q Cs F (ps.length + fuel) L a w
  | [], L, a, _, _, h => by rw [List.length_nil, Nat.zero_add]; exact h
  | k :: ps, L, a, hcl, hB, h => by
    simp only [headW, Bool.and_eq_true] at hB
    obtain ⟨⟨⟨⟨⟨hr, hf⟩, hwt⟩, hCi⟩, hh⟩, hB'⟩ := hB
    have hr' : k ∈ Region.ready md ops L := by simpa using hr
    obtain ⟨_, o, ho, _⟩ := mem_ready.1 hr'
    have ho' : ops.toList[k]? = some o := by simpa using ho
    have hpk : pickO ops.toList (k :: ps) = o :: pickO ops.toList ps := by
      show (match ops.toList[k]? with | some o => o :: pickO ops.toList ps | none => pickO ops.toList ps) = _
      rw [ho']
    rw [hpk] at h
    rw [ho] at hh
    simp only [Option.map_some, Option.getD_some] at hh
    unfold wpQuiet at h
    rw [List.length_cons, Nat.add_right_comm]
    have hCi' : Cs.contains k = false := by simpa using hCi
    have next : ∀ v, wpQuiet P ops F (fun a' => wpAnyW P md ops Q Cs F fuel (markL (k :: ps) L) a' w) (pickO ops.toList ps) (a.put o.dst v) → wpAnyW P md ops Q Cs F (ps.length + fuel) (L.setIfInBounds k true) (a.put o.dst v) w := fun v hv =>
      wpAnyW_head hs hQ fuel w hF ps _ _ (closed_set hcl hr') hB' hv
    by_cases hw : Region.wanted o (yielded ops a.tmps) = true
    · rw [if_pos hw] at h
      obtain ⟨v, hv, hK⟩ := h
      have hy : YieldsIf P ops F o v a := .inl ⟨hw, fun w1 hw1 => by
        have h1 := hv w1 hw1
        unfold Oper.quietAt at h1
        generalize hx : (execOp a.eval o).run P w1 = r at h1
        cases r with
        | ok n w' =>
          obtain ⟨u, rfl⟩ := handsOnL_spec hh hx
          obtain ⟨rfl, rfl⟩ := h1
          rfl
        | halt x w' => exact h1.elim⟩
      exact wpAnyW_first ho (Region.noSelect_spec hs) (fun c a w => hQ c a _ _ w) hwt hCi' _ L a w hcl (Region.free_spec ho hf) hr' hy hF (next v hK)
    · rw [if_neg hw] at h
      exact wpAnyW_first ho (Region.noSelect_spec hs) (fun c a w => hQ c a _ _ w) hwt hCi' _ L a w hcl (Region.free_spec ho hf) hr' (.inr ⟨by simpa using hw, rfl⟩) hF (next undef h)

/-- The call c and the alloc z may both come up. -/
theorem wpAnyW_early {c z : Nat} {f : Nat} {L : Array Bool} {a : Act} {w : World} (hr : Region.ready md ops L = [c, z]) (hoc : off Cs (L.setIfInBounds c true) = false) (hrz : Region.ready md ops (L.setIfInBounds z true) = [c]) (hozc : off Cs ((L.setIfInBounds z true).setIfInBounds c true) = false)
    (h1 : wpOp P ops Q c (wpAny P md ops Q (f + 1) (L.setIfInBounds c true)) a w)
    (h2 : wpOp P ops Q z (fun a' w' => F w' ∧ wpOp P ops Q c (wpAny P md ops Q f ((L.setIfInBounds z true).setIfInBounds c true)) a' w') a w) : wpAnyW P md ops Q Cs F (f + 2) L a w := by
  refine ⟨fun he => (by rw [hr] at he; cases he), fun i hi => ?_⟩
  rw [hr] at hi
  simp only [List.mem_cons, List.not_mem_nil, or_false] at hi
  rcases hi with rfl | rfl
  · exact wpOp_mono (fun a' w' h => ⟨fun e => (by rw [hoc] at e; cases e), wpAnyW_on _ _ _ _ hoc h⟩) h1
  · refine wpOp_mono (fun a' w' h => ⟨fun _ => h.1, ?_⟩) h2
    refine ⟨fun he => (by rw [hrz] at he; cases he), fun j hj => ?_⟩
    rw [hrz] at hj
    simp only [List.mem_cons, List.not_mem_nil, or_false] at hj
    subst hj
    exact wpOp_mono (fun a' w' h => ⟨fun e => (by rw [hozc] at e; cases e), wpAnyW_on _ _ _ _ hozc h⟩) h.2

def earlyB (ops : Array Oper) (hs Cs : List Nat) (c z : Nat) (t1 t2 : List (Nat × Bool)) : Bool :=
  Region.noSelect ops && (hs.length + (t2.length + 2) == ops.size) && (t1.length == t2.length + 1) && headW .any ops Cs hs (Array.replicate ops.size false) &&
  (Region.ready .any ops (markL hs (Array.replicate ops.size false)) == [c, z]) && !(off Cs ((markL hs (Array.replicate ops.size false)).setIfInBounds c true)) && (Region.ready .any ops ((markL hs (Array.replicate ops.size false)).setIfInBounds z true) == [c]) && !(off Cs (((markL hs (Array.replicate ops.size false)).setIfInBounds z true).setIfInBounds c true)) &&
  tailZ .any ops t1 ((markL hs (Array.replicate ops.size false)).setIfInBounds c true) && tailZ .any ops t2 (((markL hs (Array.replicate ops.size false)).setIfInBounds z true).setIfInBounds c true)

theorem wpQuiet_mono' {K K' : Act → Prop} (h : ∀ a, K a → K' a) : ∀ (l : List Oper) (a : Act), wpQuiet P ops C K l a → wpQuiet P ops C K' l a
  | [], a, hh => h a hh
  | o :: r, a, hh => by
    unfold wpQuiet at hh ⊢
    split
    · rename_i hw
      rw [if_pos hw] at hh
      obtain ⟨v, h1, h2⟩ := hh
      exact ⟨v, h1, wpQuiet_mono' h r _ h2⟩
    · rename_i hw
      rw [if_neg hw] at hh
      exact wpQuiet_mono' h r _ hh

theorem wp_region_early {id : Nat} {a : Act} {w : World} {l : List Oper} (hs Cs : List Nat) (c z : Nat) (t1 t2 : List (Nat × Bool)) (hm : P.follows .mixedOrders = true) (hB : earlyB l.toArray hs Cs c z t1 t2 = true) (hQ : ∀ c a d v w, Q (.panic c) (Act.put a d v) w → Q (.panic c) a w)
    (h : wpQuiet P l.toArray (fun w' => ∃ q : QW w, w' = q.w) (fun a' => wpOp P l.toArray Q c (wpTail P l.toArray Q t1) a' w.drew ∧ wpOp P l.toArray Q z (fun a2 w2 => (∃ q : QW w, w2 = q.w) ∧ wpOp P l.toArray Q c (wpTail P l.toArray Q t2) a2 w2) a' w.drew) (pickO l hs) a) : (Code.region id l.toArray true).wp P Q a w := by
  simp only [earlyB, Bool.and_eq_true, beq_iff_eq, Bool.not_eq_true'] at hB
  obtain ⟨⟨⟨⟨⟨⟨⟨⟨⟨b1, b2⟩, b3⟩, b4⟩, b5⟩, b6⟩, b7⟩, b8⟩, b9⟩, b10⟩ := hB
  have hd : Quiet w w.drew := (Chg.refl _ _).drew
  have h1 := wpAnyW_head (P := P) (Q := Q) (md := .any) (Cs := Cs) (F := fun w' => ∃ q : QW w, w' = q.w) b1 hQ (t2.length + 2) w.drew ⟨QW.mk hd, rfl⟩ hs (Array.replicate l.toArray.size false) a closed_start b4 (by
    refine wpQuiet_mono' ?_ _ _ h
    intro a' ⟨h2, h3⟩
    refine wpAnyW_early b5 b6 b7 b8 ?_ ?_
    · rw [← b3]
      exact wpOp_mono (fun a2 w2 h4 => wpAny_of_tail b1 hQ t1 _ a2 w2 b9 h4) h2
    · exact wpOp_mono (fun a2 w2 h4 => ⟨h4.1, wpOp_mono (fun a3 w3 h5 => wpAny_of_tail b1 hQ t2 _ a3 w3 b10 h5) h4.2⟩) h3)
  rw [b2] at h1
  exact wp_region_any hm (wpAny_of_w _ _ _ _ h1)
end
end Go.Qx
