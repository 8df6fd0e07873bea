/-
  A REGION THAT DRAWS ITS ORDER AND WRITES AT ITS END: an operation that only reads may be taken first where every writer waits for it.
  'Cs': the numbers of the operations that write. 'F': what holds of the world till one of them has come up.
-/
import Derived.OrdersHeld
import Derived.Deep.RegionHeld
import Derived.OwnWalk
namespace Go.Qx
open Go
section
variable {P : Program} {ops : Array Oper} {Q : Exit → Act → World → Prop} {md : Region.Mode} {Cs : List Nat} {F : World → Prop}

/-- No writer has come up. -/
def off (Cs : List Nat) (L : Array Bool) : Bool := Cs.all fun c => !L.getD c false

/-- c waits for i: at once or through others. -/
def waits (md : Region.Mode) (ops : Array Oper) (i : Nat) : Nat → Nat → Bool
  | 0, _ => false
  | n + 1, c => match ops[c]? with
    | some o => o.after.any fun e => Region.binds md e && (e.on == i || waits md ops i n e.on)
    | none => false

/-- What has come up has come up behind what it waits for. -/
def Closed (md : Region.Mode) (ops : Array Oper) (L : Array Bool) : Prop :=
  ∀ j o, ops[j]? = some o → L.getD j false = true → ∀ e ∈ o.after, Region.binds md e = true → L.getD e.on false = true

theorem getD_false_true {L : Array Bool} {i : Nat} (h : L.getD i true = false) : L.getD i false = false := by
  rcases Nat.lt_or_ge i L.size with h' | h'
  · simp [h'] at h ⊢; exact h
  · simp [Array.getElem?_eq_none h']

theorem closed_waits {L : Array Bool} {i : Nat} (hc : Closed md ops L) (hi : L.getD i false = false) : ∀ n c, waits md ops i n c = true → L.getD c false = false
  | 0, _, h => by simp [waits] at h
  | n + 1, c, h => by
    unfold waits at h
    split at h
    · rename_i o ho
      obtain ⟨e, he, hb⟩ := Array.any_eq_true'.1 h
      simp only [Bool.and_eq_true, Bool.or_eq_true, beq_iff_eq] at hb
      cases hL : L.getD c false with
      | false => rfl
      | true =>
        have h1 := hc c o ho hL e he hb.1
        rcases hb.2 with h2 | h2
        · rw [h2, hi] at h1; cases h1
        · rw [closed_waits hc hi n e.on h2] at h1; cases h1
    · cases h

theorem closed_set {L : Array Bool} {j : Nat} (hc : Closed md ops L) (hj : j ∈ Region.ready md ops L) : Closed md ops (L.setIfInBounds j true) := by
  intro k o ho hk e he hb
  obtain ⟨_, oj, hoj, hall⟩ := mem_ready.1 hj
  by_cases hjk : j = k
  · subst hjk
    rw [ho] at hoj
    cases hoj
    exact getD_set_true (hall e he hb)
  · rw [getD_set_ne false hjk] at hk
    exact getD_set_true (hc k o ho hk e he hb)

/-- Whatever order is picked from here on; F holds behind every operation till a writer has come up. -/
def wpAnyW (P : Program) (md : Region.Mode) (ops : Array Oper) (Q : Exit → Act → World → Prop) (Cs : List Nat) (F : World → Prop) : Nat → Array Bool → Act → World → Prop
  | 0, listed, a, w => Region.ready md ops listed = [] ∧ Q .normal a w
  | fuel + 1, listed, a, w =>
    (Region.ready md ops listed = [] → Q .normal a w) ∧
    ∀ i ∈ Region.ready md ops listed, wpOp P ops Q i (fun a' w' => (off Cs (listed.setIfInBounds i true) = true → F w') ∧ wpAnyW P md ops Q Cs F fuel (listed.setIfInBounds i true) a' w') a w

theorem wpAny_of_w : ∀ (fuel : Nat) (listed : Array Bool) (a : Act) (w : World), wpAnyW P md ops Q Cs F fuel listed a w → wpAny P md ops Q fuel listed a w
  | 0, _, _, _, h => h
  | fuel + 1, _, _, _, h => ⟨h.1, fun i hi => wpOp_mono (fun a' w' h' => wpAny_of_w fuel _ a' w' h'.2) (h.2 i hi)⟩

theorem off_of {L : Array Bool} {i : Nat} (hc : Closed md ops L) (hi : L.getD i true = false) {n : Nat} (hw : (Cs.all fun c => c == i || waits md ops i n c) = true) : off Cs L = true := by
  unfold off
  rw [List.all_eq_true] at hw ⊢
  intro c hcs
  have h := hw c hcs
  have hi' := getD_false_true hi
  simp only [Bool.or_eq_true, beq_iff_eq] at h
  rcases h with rfl | h
  · rw [hi']; rfl
  · rw [closed_waits hc hi' n c h]; rfl

theorem wpAnyW_first {i : Nat} {oi : Oper} {v : Value} {n : Nat} (hi : ops[i]? = some oi) (hsel : ∀ (j : Nat) (o : Oper) cs b, ops[j]? = some o → o.op ≠ .select cs b)
    (hQ : ∀ c a w, Q (.panic c) (a.put oi.dst v) w → Q (.panic c) a w) (hwt : (Cs.all fun c => c == i || waits md ops i n c) = true) (hCi : Cs.contains i = false) :
    ∀ (fuel : Nat) (listed : Array Bool) (a : Act) (w : World), Closed md ops listed →
      (∀ j oj, ops[j]? = some oj → j ≠ i → listed.getD j true = false → (∀ e ∈ oj.after, Region.binds md e = true → e.on ≠ i) → oi.apart ops oj = true) →
      i ∈ Region.ready md ops listed → YieldsIf P ops F oi v a → F w →
      wpAnyW P md ops Q Cs F fuel (listed.setIfInBounds i true) (a.put oi.dst v) w → wpAnyW P md ops Q Cs F (fuel + 1) listed a w := by
  intro fuel
  induction fuel with
  | zero =>
    intro listed a w hcl _ hr hy hS H
    refine ⟨fun h => (by rw [h] at hr; cases hr), fun j hj => ?_⟩
    by_cases hji : j = i
    · subst hji; exact hy.wpOp hi hS ⟨fun _ => hS, H⟩
    · have := ready_mono hj hji
      rw [H.1] at this
      cases this
  | succ fuel ih =>
    intro listed a w hcl hfree hr hy hS H
    refine ⟨fun h => (by rw [h] at hr; cases hr), fun j hj => ?_⟩
    by_cases hji : j = i
    · subst hji; exact hy.wpOp hi hS ⟨fun _ => hS, H⟩
    · have h1 := H.2 j (ready_mono hj hji)
      obtain ⟨hjun, oj, hoj, hall⟩ := mem_ready.1 hj
      have hnot : ∀ e ∈ oj.after, Region.binds md e = true → e.on ≠ i := fun e he hb heq => by
        have h1 := hall e he hb
        have h0 := (mem_ready.1 hr).1
        rw [heq] at h1
        rcases Nat.lt_or_ge i listed.size with h' | h'
        · simp [h'] at h0 h1; rw [h0] at h1; cases h1
        · simp [Array.getElem?_eq_none h'] at h1
      have h2 := wpOp_putIf hoj (hfree j oj hoj hji hjun hnot) (fun cs b => hsel i oi cs b hi) (fun cs b => hsel j oj cs b hoj) hQ hy h1
      have hfree' : ∀ k ok, ops[k]? = some ok → k ≠ i → (listed.setIfInBounds j true).getD k true = false →
          (∀ e ∈ ok.after, Region.binds md e = true → e.on ≠ i) → oi.apart ops ok = true := fun k ok hk hki hun hno => by
        refine hfree k ok hk hki ?_ hno
        by_cases hjk : j = k
        · subst hjk; exact hjun
        · rw [getD_set_ne true hjk] at hun; exact hun
      have hcl' := closed_set hcl hj
      have hr' := ready_mono hr (Ne.symm hji)
      have hoff : off Cs (listed.setIfInBounds j true) = true := off_of hcl' (mem_ready.1 hr').1 hwt
      have hoff2 : off Cs ((listed.setIfInBounds i true).setIfInBounds j true) = true := by
        unfold off at hoff ⊢
        rw [List.all_eq_true] at hoff ⊢
        intro c hc
        have hic : i ≠ c := by
          rintro rfl
          have : Cs.contains i = true := by simpa using hc
          rw [hCi] at this; cases this
        rw [Array.setIfInBounds_comm _ _ (Ne.symm hji), getD_set_ne false hic]
        exact hoff c hc
      refine wpOp_mono (fun a' w' h3 => ⟨fun _ => h3.2.1 hoff2, ih (listed.setIfInBounds j true) a' w' hcl' hfree' hr' h3.1 (h3.2.1 hoff2) ?_⟩) h2
      rw [Array.setIfInBounds_comm _ _ hji]
      exact h3.2.2

theorem off_set {L : Array Bool} {i : Nat} (h : off Cs L = false) : off Cs (L.setIfInBounds i true) = false := by
  cases h2 : off Cs (L.setIfInBounds i true) with
  | false => rfl
  | true =>
    unfold off at h h2
    rw [List.all_eq_true] at h2
    have h3 : (Cs.all fun c => !L.getD c false) = true := by
      rw [List.all_eq_true]
      intro c hc
      have h4 := h2 c hc
      cases h5 : L.getD c false with
      | false => rfl
      | true => rw [getD_set_true h5] at h4; cases h4
    rw [h] at h3; cases h3

/-- A writer has come up: it is a 'wpAny'. -/
theorem wpAnyW_on : ∀ (fuel : Nat) (listed : Array Bool) (a : Act) (w : World), off Cs listed = false → wpAny P md ops Q fuel listed a w → wpAnyW P md ops Q Cs F fuel listed a w
  | 0, _, _, _, _, h => h
  | fuel + 1, listed, _, _, ho, h => ⟨h.1, fun i hi => wpOp_mono (fun a' w' h' => ⟨fun h2 => (by rw [off_set ho] at h2; exact absurd h2 (by decide)), wpAnyW_on fuel _ a' w' (off_set ho) h'⟩) (h.2 i hi)⟩

/-- The goal of a walk: all has come up in order, F holds. -/
def wpW (P : Program) (md : Region.Mode) (ops : Array Oper) (Q : Exit → Act → World → Prop) (Cs : List Nat) (F : World → Prop) (fuel : Nat) (listed : Array Bool) (a : Act) (w : World) : Prop :=
  Closed md ops listed → F w → wpAnyW P md ops Q Cs F fuel listed a w

/-- Take number i first: every writer waits for it. -/
theorem wpW_take {i : Nat} {oi : Oper} {v : Value} {fuel : Nat} {listed : Array Bool} {a : Act} {w : World} (hi : ops[i]? = some oi)
    (hs : Region.noSelect ops = true) (hf : Region.free md ops listed i = true) (hr : (Region.ready md ops listed).contains i = true)
    (hwt : (Cs.all fun c => c == i || waits md ops i ops.size c) = true) (hCi : Cs.contains i = false)
    (hQ : ∀ c a w, Q (.panic c) (a.put oi.dst v) w → Q (.panic c) a w) (hy : YieldsIf P ops F oi v a)
    (h : wpW P md ops Q Cs F fuel (listed.setIfInBounds i true) (a.put oi.dst v) w) : wpW P md ops Q Cs F (fuel + 1) listed a w :=
  fun hcl hF => wpAnyW_first hi (Region.noSelect_spec hs) hQ hwt hCi fuel listed a w hcl (Region.free_spec hi hf) (by simpa using hr) hy hF (h (closed_set hcl (by simpa using hr)) hF)

/-- Number c, no writer, alone may come up. -/
theorem wpW_one {c : Nat} {o : Oper} {fuel : Nat} {listed : Array Bool} {a : Act} {w : World} (hr : Region.ready md ops listed = [c]) (ho : ops[c]? = some o)
    (h : ∀ K' : Act → World → Prop, Shut (∀ a w, F w → wpW P md ops Q Cs F fuel (listed.setIfInBounds c true) a w → K' a w) → if Region.wanted o (yielded ops a.tmps) = true then Oper.wp P o a w K' Q else K' (a.put o.dst undef) w) :
    wpW P md ops Q Cs F (fuel + 1) listed a w := by
  refine fun hcl hF => ⟨fun h0 => (by rw [hr] at h0; cases h0), fun j hj => ?_⟩
  have hcl' := closed_set hcl hj
  rw [hr] at hj
  simp at hj
  subst hj
  exact wpOp_step ho (fun K' hK => h K' (fun a w h1 h2 => hK a w ⟨fun _ => h1, h2 hcl' h1⟩))

/-- Number c, a writer, alone may come up. -/
theorem wpW_writer {c : Nat} {o : Oper} {fuel : Nat} {listed : Array Bool} {a : Act} {w : World} (hr : Region.ready md ops listed = [c]) (ho : ops[c]? = some o) (hoff : off Cs (listed.setIfInBounds c true) = false)
    (h : ∀ K' : Act → World → Prop, Shut (∀ a w, wpAny P md ops Q fuel (listed.setIfInBounds c true) a w → K' a w) → if Region.wanted o (yielded ops a.tmps) = true then Oper.wp P o a w K' Q else K' (a.put o.dst undef) w) :
    wpW P md ops Q Cs F (fuel + 1) listed a w := by
  refine fun hcl hF => ⟨fun h0 => (by rw [hr] at h0; cases h0), fun j hj => ?_⟩
  rw [hr] at hj
  simp at hj
  subst hj
  exact wpOp_step ho (fun K' hK => h K' (fun a w h1 => hK a w ⟨fun h2 => (by rw [hoff] at h2; exact absurd h2 (by decide)), wpAnyW_on _ _ _ _ hoff h1⟩))

theorem wpAny_one {c : Nat} {o : Oper} {fuel : Nat} {listed : Array Bool} {a : Act} {w : World} (hr : Region.ready md ops listed = [c]) (ho : ops[c]? = some o)
    (h : ∀ K' : Act → World → Prop, Shut (∀ a w, wpAny P md ops Q fuel (listed.setIfInBounds c true) a w → K' a w) → if Region.wanted o (yielded ops a.tmps) = true then Oper.wp P o a w K' Q else K' (a.put o.dst undef) w) :
    wpAny P md ops Q (fuel + 1) listed a w := by
  refine ⟨fun h0 => (by rw [hr] at h0; cases h0), fun j hj => ?_⟩
  rw [hr] at hj
  simp at hj
  subst hj
  exact wpOp_step ho (fun K' hK => h K' (fun a w h1 => hK a w h1))

/-- The beginning. -/
theorem wp_region_w {id : Nat} {a : Act} {w : World} (Cs : List Nat) (F : World → Prop) (hm : P.follows .mixedOrders = true) (hF : F w.drew)
    (h : wpW P .any ops Q Cs F ops.size (Array.replicate ops.size false) a w.drew) : (Code.region id ops true).wp P Q a w :=
  wp_region_any hm (wpAny_of_w _ _ _ _ (h (by
    intro j o ho hj
    simp [Array.getElem?_replicate] at hj
    split at hj <;> simp at hj) hF))

end
end Go.Qx
