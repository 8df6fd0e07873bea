/-
  A REGION THAT DRAWS ITS ORDER, WHOSE FIRST n OPERATIONS ONLY READ (callees too) AND WHOSE REST WAITS FOR THEM ALL AND COMES ONE BY ONE: the first n are walked once, in the order of the text ('wpQuiet'), the rest as in a region that draws nothing ('wpList').
-/
import Derived.Test.Qxb6500367aOrd
import Derived.BigQuiet
namespace Go.Qx
open Go
section
variable {P : Program} {ops : Array Oper} {Q : Exit → Act → World → Prop} {md : Region.Mode} {C : World → Prop} {n : Nat}

/-- The first n have all come up. -/
def preOn (n : Nat) (L : Array Bool) : Bool := (List.range n).all fun c => L.getD c false

theorem preOn_false {L : Array Bool} {i : Nat} (hi : i < n) (h : L.getD i false = false) : preOn n L = false := by
  cases h2 : preOn n L with
  | false => rfl
  | true =>
    unfold preOn at h2
    rw [List.all_eq_true] at h2
    rw [h2 i (by simpa using hi)] at h
    cases h

def wpAnyT (P : Program) (md : Region.Mode) (ops : Array Oper) (C : World → Prop) (Q : Exit → Act → World → Prop) (n : Nat) : Nat → Array Bool → Act → Prop
  | 0, L, a => preOn n L = true ∧ ∀ w, C w → wpAny P md ops Q 0 L a w
  | f + 1, L, a => (preOn n L = true → ∀ w, C w → wpAny P md ops Q (f + 1) L a w) ∧
      (preOn n L = false → Region.ready md ops L ≠ [] ∧ ∀ i ∈ Region.ready md ops L, i < n ∧ qOp P ops C i (wpAnyT P md ops C Q n f (L.setIfInBounds i true)) a)

theorem wpAny_of_T : ∀ (f : Nat) (L : Array Bool) (a : Act), wpAnyT P md ops C Q n f L a → ∀ w, C w → wpAny P md ops Q f L a w
  | 0, _, _, h, w, hw => h.2 w hw
  | f + 1, L, a, h, w, hw => by
    cases hp : preOn n L with
    | true => exact h.1 hp w hw
    | false =>
      obtain ⟨h1, h2⟩ := h.2 hp
      exact ⟨fun h0 => absurd h0 h1, fun i hi => wpOp_of_qOp hw (fun a' w' hw' h3 => wpAny_of_T f _ a' h3 w' hw') (h2 i hi).2⟩

/-- Every operation from n on waits for i. -/
def tailWaits (md : Region.Mode) (ops : Array Oper) (n i : Nat) : Bool := (List.range ops.size).all fun c => decide (c < n) || waits md ops i ops.size c

theorem wpAnyT_first {i : Nat} {oi : Oper} {v : Value} (hi : ops[i]? = some oi) (hsel : ∀ (j : Nat) (o : Oper) cs b, ops[j]? = some o → o.op ≠ .select cs b) (hin : i < n) (hwt : tailWaits md ops n i = true) :
    ∀ (f : Nat) (L : Array Bool) (a : Act), Closed md ops L →
      (∀ j oj, ops[j]? = some oj → j ≠ i → L.getD j true = false → (∀ e ∈ oj.after, Region.binds md e = true → e.on ≠ i) → oi.apart ops oj = true) →
      i ∈ Region.ready md ops L → YieldsIn P ops C oi v a →
      wpAnyT P md ops C Q n f (L.setIfInBounds i true) (a.put oi.dst v) → wpAnyT P md ops C Q n (f + 1) L a := by
  intro f
  induction f with
  | zero =>
    intro L a hcl _ hr hy H
    have hL := getD_false_true (mem_ready.1 hr).1
    refine ⟨fun hp => (by rw [preOn_false hin hL] at hp; cases hp), fun _ => ⟨fun h => (by rw [h] at hr; cases hr), fun j hj => ?_⟩⟩
    by_cases hji : j = i
    · subst hji; exact ⟨hin, hy.qOp hi H⟩
    · exfalso
      obtain ⟨hjun, oj, hoj, _⟩ := mem_ready.1 hj
      have hcl' := closed_set hcl hj
      have hjs : j < ops.size := (Array.getElem?_eq_some_iff.1 hoj).1
      by_cases hjn : j < n
      · have h2 : (L.setIfInBounds i true).getD j false = false := by rw [getD_set_ne false (Ne.symm hji)]; exact getD_false_true hjun
        have := H.1
        rw [preOn_false hjn h2] at this; cases this
      · unfold tailWaits at hwt
        rw [List.all_eq_true] at hwt
        have h3 := hwt j (by simpa using hjs)
        simp only [hjn, decide_false, Bool.false_or] at h3
        have h4 := closed_waits hcl hL _ _ h3
        obtain ⟨_, oj', hoj', hall⟩ := mem_ready.1 hj
        have h5 : (L.setIfInBounds j true).getD i false = false := by rw [getD_set_ne false hji]; exact hL
        have h6 := closed_waits hcl' h5 _ _ h3
        have hsz : j < L.size := by
          rcases Nat.lt_or_ge j L.size with h' | h'
          · exact h'
          · simp [Array.getElem?_eq_none h'] at hjun
        simp [hsz] at h6
  | succ f ih =>
    intro L a hcl hfree hr hy H
    have hL := getD_false_true (mem_ready.1 hr).1
    refine ⟨fun hp => (by rw [preOn_false hin hL] at hp; cases hp), fun _ => ⟨fun h => (by rw [h] at hr; cases hr), fun j hj => ?_⟩⟩
    by_cases hji : j = i
    · subst hji; exact ⟨hin, hy.qOp hi H⟩
    · obtain ⟨hjun, oj, hoj, hall⟩ := mem_ready.1 hj
      have hcl' := closed_set hcl hj
      have hjs : j < ops.size := (Array.getElem?_eq_some_iff.1 hoj).1
      have hjn : j < n := by
        rcases Nat.lt_or_ge j n with h' | h'
        · exact h'
        exfalso
        have hjn : ¬ j < n := by omega
        unfold tailWaits at hwt
        rw [List.all_eq_true] at hwt
        have h3 := hwt j (by simpa using hjs)
        simp only [hjn, decide_false, Bool.false_or] at h3
        have h5 : (L.setIfInBounds j true).getD i false = false := by rw [getD_set_ne false hji]; exact hL
        have h6 := closed_waits hcl' h5 _ _ h3
        have hsz : j < L.size := by
          rcases Nat.lt_or_ge j L.size with h' | h'
          · exact h'
          · simp [Array.getElem?_eq_none h'] at hjun
        simp [hsz] at h6
      refine ⟨hjn, ?_⟩
      have h2 : (L.setIfInBounds i true).getD j false = false := by rw [getD_set_ne false (Ne.symm hji)]; exact getD_false_true hjun
      have h1 := ((H.2 (preOn_false hjn h2)).2 j (ready_mono hj hji)).2
      have hnot : ∀ e ∈ oj.after, Region.binds md e = true → e.on ≠ i := fun e he hb heq => by
        have h1 := hall e he hb
        rw [heq, hL] at h1
        cases h1
      have h3 := qOp_put hoj (hfree j oj hoj hji hjun hnot) (fun cs b => hsel i oi cs b hi) (fun cs b => hsel j oj cs b hoj) hy h1
      have hfree' : ∀ k ok, ops[k]? = some ok → k ≠ i → (L.setIfInBounds j true).getD k true = false →
          (∀ e ∈ ok.after, Region.binds md e = true → e.on ≠ i) → oi.apart ops ok = true := fun k ok hk hki hun hno => by
        refine hfree k ok hk hki ?_ hno
        by_cases hjk : j = k
        · subst hjk; exact hjun
        · rw [getD_set_ne true hjk] at hun; exact hun
      refine qOp_mono (fun a' h4 => ih (L.setIfInBounds j true) a' hcl' hfree' (ready_mono hr (Ne.symm hji)) h4.1 ?_) h3
      rw [Array.setIfInBounds_comm _ _ hji]
      exact h4.2

/-- The rest, one by one. -/
def tailB (md : Region.Mode) (ops : Array Oper) : Nat → Nat → Array Bool → Bool
  | 0, _, L => (Region.ready md ops L).isEmpty
  | f + 1, k, L => (Region.ready md ops L == [k]) && tailB md ops f (k + 1) (L.setIfInBounds k true)

/-- The first n in the order of the text, then the rest. -/
def headB (md : Region.Mode) (ops : Array Oper) (n t : Nat) : Nat → Nat → Array Bool → Bool
  | 0, k, L => preOn n L && tailB md ops t k L
  | f + 1, k, L => (Region.ready md ops L).contains k && Region.free md ops L k && decide (k < n) && tailWaits md ops n k && headB md ops n t f (k + 1) (L.setIfInBounds k true)

def qtB (md : Region.Mode) (ops : Array Oper) (n : Nat) : Bool := Region.noSelect ops && headB md ops n (ops.size - n) n 0 (Array.replicate ops.size false)

theorem wpAny_tail : ∀ (l : List Oper) (k : Nat) (L : Array Bool) (a : Act) (w : World), (∀ j, l[j]? = ops[k + j]?) → tailB md ops l.length k L = true → wpList P ops Q l a w → wpAny P md ops Q l.length L a w
  | [], _, _, _, _, _, hB, h => ⟨by simpa [tailB] using hB, h⟩
  | o :: l, k, L, a, w, hl, hB, h => by
    have h0 : ops[k]? = some o := by simpa using (hl 0).symm
    simp only [List.length_cons, tailB, Bool.and_eq_true, beq_iff_eq] at hB
    obtain ⟨hr, hB'⟩ := hB
    refine ⟨fun he => (by rw [hr] at he; cases he), fun i hi => ?_⟩
    rw [hr] at hi
    simp at hi
    subst hi
    unfold wpOp
    simp only [h0]
    unfold wpList at h
    have hl' : ∀ j, l[j]? = ops[i + 1 + j]? := fun j => by have := hl (j + 1); simpa [Nat.add_assoc, Nat.add_comm 1 j] using this
    split
    · rename_i hw
      simp only [hw, if_true] at h
      exact h.imp (Oper.wp_mono fun a' w' h' => wpAny_tail l (i + 1) _ a' w' hl' hB' h') id
    · rename_i hw
      simp only [hw] at h
      exact wpAny_tail l (i + 1) _ _ w hl' hB' h

theorem wpAnyT_lex (hs : Region.noSelect ops = true) (rest : List Oper) : ∀ (l : List Oper) (k : Nat) (L : Array Bool) (a : Act), Closed md ops L → (∀ j, (l ++ rest)[j]? = ops[k + j]?) →
    headB md ops n rest.length l.length k L = true → wpQuiet P ops C (fun a' => ∀ w', C w' → wpList P ops Q rest a' w') l a → wpAnyT P md ops C Q n (l.length + rest.length) L a
  | [], k, L, a, _, hl, hB, h => by
    simp only [List.length_nil, headB, Bool.and_eq_true] at hB
    have h1 : ∀ w, C w → wpAny P md ops Q rest.length L a w := fun w hw => wpAny_tail rest k L a w (fun j => by simpa using hl j) hB.2 (h w hw)
    rw [List.length_nil, Nat.zero_add]
    cases hr : rest.length with
    | zero => rw [hr] at h1; exact ⟨hB.1, h1⟩
    | succ f => rw [hr] at h1; exact ⟨fun _ => h1, fun hp => (by rw [hB.1] at hp; cases hp)⟩
  | o :: l, k, L, a, hcl, hl, hB, h => by
    have h0 : ops[k]? = some o := by simpa using (hl 0).symm
    simp only [List.length_cons, headB, Bool.and_eq_true, decide_eq_true_eq] at hB
    obtain ⟨⟨⟨⟨hr, hf⟩, hkn⟩, htw⟩, hB'⟩ := hB
    have hr' : k ∈ Region.ready md ops L := by simpa using hr
    have hst : qOp P ops C k (wpQuiet P ops C (fun a' => ∀ w', C w' → wpList P ops Q rest a' w') l) a := by unfold qOp; simp only [h0]; exact h
    obtain ⟨v, hy, hK⟩ := yieldsIn_of_qOp h0 hst
    have hl' : ∀ j, (l ++ rest)[j]? = ops[k + 1 + j]? := fun j => by have := hl (j + 1); simpa [Nat.add_assoc, Nat.add_comm 1 j] using this
    rw [List.length_cons, Nat.add_right_comm]
    exact wpAnyT_first h0 (Region.noSelect_spec hs) hkn htw _ L a hcl (Region.free_spec h0 hf) hr' hy (wpAnyT_lex hs rest l (k + 1) _ _ (closed_set hcl hr') hl' hB' hK)

theorem closed_start : Closed md ops (Array.replicate ops.size false) := by
  intro j o ho hj
  simp [Array.getElem?_replicate] at hj
  split at hj <;> simp at hj

theorem wp_region_qt {id : Nat} {a : Act} {w : World} (l rest : List Oper) (hm : P.follows .mixedOrders = true) (he : l ++ rest = ops.toList) (hB : qtB .any ops l.length = true) (hC : C { w with drawn := w.drawn + 1 })
    (h : wpQuiet P ops C (fun a' => ∀ w', C w' → wpList P ops Q rest a' w') l a) : (Code.region id ops true).wp P Q a w := by
  simp only [qtB, Bool.and_eq_true] at hB
  have hsz : l.length + rest.length = ops.size := by rw [← List.length_append, he, Array.length_toList]
  have h1 := wpAnyT_lex (C := C) (Q := Q) (md := .any) (n := l.length) hB.1 rest l 0 (Array.replicate ops.size false) a closed_start (fun j => by rw [he]; simp) (by rw [show rest.length = ops.size - l.length by omega]; exact hB.2) h
  rw [hsz] at h1
  exact wp_region_any hm (wpAny_of_T _ _ _ h1 _ hC)

/-- The same for a region that is written out, at the class 'w after some draws'. -/
theorem wp_region_qt_lit {id : Nat} {a : Act} {w : World} {l : List Oper} (n : Nat) (hm : P.follows .mixedOrders = true) (hn : decide (n ≤ l.length) = true) (hB : qtB .any l.toArray n = true)
    (h : wpQuiet P l.toArray (fun w' => ∃ n, w' = w.drewN n) (fun a' => ∀ w', (∃ n, w' = w.drewN n) → wpList P l.toArray Q (l.drop n) a' w') (l.take n) a) : (Code.region id l.toArray true).wp P Q a w :=
  wp_region_qt (C := fun w' => ∃ n, w' = w.drewN n) (l.take n) (l.drop n) hm (by simp) (by rw [List.length_take, Nat.min_eq_left (of_decide_eq_true hn)]; exact hB) ⟨1, rfl⟩ h

end
end Go.Qx
