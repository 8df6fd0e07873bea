/-
  A REGION THAT DRAWS ITS ORDER: a head of operations that read (callees too), each waited for by every operation of the tail, and of pure ones (move, indexAddr ..), which nobody need wait for; a tail that comes one by one. The head is walked once, in the order given, the tail as in a region that draws nothing.
-/
import Derived.Test.Qxb6500367aQt
namespace Go.Qx
open Go
set_option linter.unusedVariables false
section
variable {P : Program} {ops : Array Oper} {Q : Exit → Act → World → Prop} {md : Region.Mode} {C : World → Prop} {T : List Nat}

def wpAnyM (P : Program) (md : Region.Mode) (ops : Array Oper) (C : World → Prop) (Q : Exit → Act → World → Prop) (T : List Nat) : Nat → Array Bool → Act → Prop
  | 0, L, a => Region.ready md ops L = [] ∧ ∀ w, C w → Q .normal a w
  | f + 1, L, a => (Region.ready md ops L = [] → ∀ w, C w → Q .normal a w) ∧
      ∀ j ∈ Region.ready md ops L, (j ∈ T → ∀ w, C w → wpOp P ops Q j (wpAny P md ops Q f (L.setIfInBounds j true)) a w) ∧ (j ∉ T → qOp P ops C j (wpAnyM P md ops C Q T f (L.setIfInBounds j true)) a)

theorem wpAny_of_M : ∀ (f : Nat) (L : Array Bool) (a : Act), wpAnyM P md ops C Q T f L a → ∀ w, C w → wpAny P md ops Q f L a w
  | 0, _, _, h, w, hw => ⟨h.1, h.2 w hw⟩
  | f + 1, L, a, h, w, hw => ⟨fun h0 => h.1 h0 w hw, fun j hj => by
      by_cases hT : j ∈ T
      · exact (h.2 j hj).1 hT w hw
      · exact wpOp_of_qOp hw (fun a' w' hw' h3 => wpAny_of_M f _ a' h3 w' hw') ((h.2 j hj).2 hT)⟩

theorem wpM_of_any (w0 : World) (h0 : C w0) : ∀ (f : Nat) (L : Array Bool) (a : Act), (∀ j ∈ Region.ready md ops L, j ∈ T) → (∀ w, C w → wpAny P md ops Q f L a w) → wpAnyM P md ops C Q T f L a
  | 0, _, _, _, h => ⟨(h w0 h0).1, fun w hw => (h w hw).2⟩
  | f + 1, L, a, hT, h => ⟨fun he w hw => (h w hw).1 he, fun j hj => ⟨fun _ w hw => (h w hw).2 j hj, fun hn => absurd (hT j hj) hn⟩⟩

/-- Every operation of the tail waits for i. -/
def allWait (md : Region.Mode) (ops : Array Oper) (T : List Nat) (i : Nat) : Bool := T.all fun c => waits md ops i ops.size c

theorem not_ready {L : Array Bool} {i j : Nat} (hcl : Closed md ops L) (hL : L.getD i false = false) (hji : j ≠ i) (hj : j ∈ Region.ready md ops L) (hw : waits md ops i ops.size j = true) : False := by
  have hcl' := closed_set hcl hj
  have h5 : (L.setIfInBounds j true).getD i false = false := by rw [getD_set_ne false hji]; exact hL
  have h6 := closed_waits hcl' h5 _ _ hw
  have hjun := (mem_ready.1 hj).1
  have hsz : j < L.size := by
    rcases Nat.lt_or_ge j L.size with h' | h'
    · exact h'
    · simp [Array.getElem?_eq_none h'] at hjun
  simp [hsz] at h6

theorem not_on {L : Array Bool} {i j : Nat} (hr : i ∈ Region.ready md ops L) (hj : j ∈ Region.ready md ops L) (oj : Oper) (hoj : ops[j]? = some oj) : ∀ e ∈ oj.after, Region.binds md e = true → e.on ≠ i := fun e he hb heq => by
  have hL := getD_false_true (mem_ready.1 hr).1
  obtain ⟨_, oj', hoj', hall⟩ := mem_ready.1 hj
  rw [hoj] at hoj'
  cases hoj'
  have h1 := hall e he hb
  rw [heq, hL] at h1
  cases h1

/-- One that reads, waited for by the whole tail. -/
theorem wpAnyM_read {i : Nat} {oi : Oper} {v : Value} (hi : ops[i]? = some oi) (hsel : ∀ (j : Nat) (o : Oper) cs b, ops[j]? = some o → o.op ≠ .select cs b) (hiT : i ∉ T) (hwt : allWait md ops T i = true) :
    ∀ (f : Nat) (L : Array Bool) (a : Act), Closed md ops L →
      (∀ j oj, ops[j]? = some oj → j ≠ i → L.getD j true = false → (∀ e ∈ oj.after, Region.binds md e = true → e.on ≠ i) → oi.apart ops oj = true) →
      i ∈ Region.ready md ops L → YieldsIn P ops C oi v a →
      wpAnyM P md ops C Q T f (L.setIfInBounds i true) (a.put oi.dst v) → wpAnyM P md ops C Q T (f + 1) L a := by
  intro f
  induction f with
  | zero =>
    intro L a hcl _ hr hy H
    have hL := getD_false_true (mem_ready.1 hr).1
    refine ⟨fun h => (by rw [h] at hr; cases hr), fun j hj => ?_⟩
    by_cases hji : j = i
    · subst hji; exact ⟨fun h => absurd h hiT, fun _ => hy.qOp hi H⟩
    · have := ready_mono hj hji
      rw [H.1] at this
      cases this
  | succ f ih =>
    intro L a hcl hfree hr hy H
    have hL := getD_false_true (mem_ready.1 hr).1
    refine ⟨fun h => (by rw [h] at hr; cases hr), fun j hj => ?_⟩
    by_cases hji : j = i
    · subst hji; exact ⟨fun h => absurd h hiT, fun _ => hy.qOp hi H⟩
    · refine ⟨fun hT => ?_, fun hT => ?_⟩
      · exfalso
        unfold allWait at hwt
        rw [List.all_eq_true] at hwt
        exact not_ready hcl hL hji hj (hwt j hT)
      · obtain ⟨hjun, oj, hoj, _⟩ := mem_ready.1 hj
        have h1 := (H.2 j (ready_mono hj hji)).2 hT
        have h3 := qOp_put hoj (hfree j oj hoj hji hjun (not_on hr hj oj hoj)) (fun cs b => hsel i oi cs b hi) (fun cs b => hsel j oj cs b hoj) hy h1
        have hfree' : ∀ k ok, ops[k]? = some ok → k ≠ i → (L.setIfInBounds j true).getD k true = false →
            (∀ e ∈ ok.after, Region.binds md e = true → e.on ≠ i) → oi.apart ops ok = true := fun k ok hk hki hun hno => by
          refine hfree k ok hk hki ?_ hno
          by_cases hjk : j = k
          · subst hjk; exact hjun
          · rw [getD_set_ne true hjk] at hun; exact hun
        refine qOp_mono (fun a' h4 => ih (L.setIfInBounds j true) a' (closed_set hcl hj) hfree' (ready_mono hr (Ne.symm hji)) h4.1 ?_) h3
        rw [Array.setIfInBounds_comm _ _ hji]
        exact h4.2

theorem yieldsIn_of {o : Oper} {v : Value} {a : Act} (h : Yields P ops o v a) : YieldsIn P ops C o v a :=
  h.imp (fun ⟨hw, hv⟩ => ⟨hw, fun w _ => by unfold Oper.quietAt; rw [hv w]; exact ⟨rfl, rfl⟩⟩) id

/-- A pure one. -/
theorem wpAnyM_pure {i : Nat} {oi : Oper} {v : Value} (hi : ops[i]? = some oi) (hsel : ∀ (j : Nat) (o : Oper) cs b, ops[j]? = some o → o.op ≠ .select cs b) (hiT : i ∉ T)
    (hQ : ∀ c a w, Q (.panic c) (a.put oi.dst v) w → Q (.panic c) a w) :
    ∀ (f : Nat) (L : Array Bool) (a : Act),
      (∀ j oj, ops[j]? = some oj → j ≠ i → L.getD j true = false → (∀ e ∈ oj.after, Region.binds md e = true → e.on ≠ i) → oi.apart ops oj = true) →
      i ∈ Region.ready md ops L → Yields P ops oi v a →
      wpAnyM P md ops C Q T f (L.setIfInBounds i true) (a.put oi.dst v) → wpAnyM P md ops C Q T (f + 1) L a := by
  intro f
  induction f with
  | zero =>
    intro L a _ hr hy H
    refine ⟨fun h => (by rw [h] at hr; cases hr), fun j hj => ?_⟩
    by_cases hji : j = i
    · subst hji; exact ⟨fun h => absurd h hiT, fun _ => (yieldsIn_of hy).qOp hi H⟩
    · have := ready_mono hj hji
      rw [H.1] at this
      cases this
  | succ f ih =>
    intro L a hfree hr hy H
    refine ⟨fun h => (by rw [h] at hr; cases hr), fun j hj => ?_⟩
    by_cases hji : j = i
    · subst hji; exact ⟨fun h => absurd h hiT, fun _ => (yieldsIn_of hy).qOp hi H⟩
    · obtain ⟨hjun, oj, hoj, _⟩ := mem_ready.1 hj
      have hap := hfree j oj hoj hji hjun (not_on hr hj oj hoj)
      have hfree' : ∀ k ok, ops[k]? = some ok → k ≠ i → (L.setIfInBounds j true).getD k true = false →
          (∀ e ∈ ok.after, Region.binds md e = true → e.on ≠ i) → oi.apart ops ok = true := fun k ok hk hki hun hno => by
        refine hfree k ok hk hki ?_ hno
        by_cases hjk : j = k
        · subst hjk; exact hjun
        · rw [getD_set_ne true hjk] at hun; exact hun
      have hr' := ready_mono hr (Ne.symm hji)
      refine ⟨fun hT w hw => ?_, fun hT => ?_⟩
      · have h1 := (H.2 j (ready_mono hj hji)).1 hT w hw
        have h2 := wpOp_put hoj hap (fun cs b => hsel i oi cs b hi) (fun cs b => hsel j oj cs b hoj) hQ hy h1
        refine wpOp_mono (fun a' w' h3 => ?_) h2
        refine wpAny_first hi hsel hQ f (L.setIfInBounds j true) a' w' hfree' hr' h3.1 ?_
        rw [Array.setIfInBounds_comm _ _ hji]
        exact h3.2
      · have h1 := (H.2 j (ready_mono hj hji)).2 hT
        have h3 := qOp_put hoj hap (fun cs b => hsel i oi cs b hi) (fun cs b => hsel j oj cs b hoj) (yieldsIn_of (C := C) hy) h1
        have h4 : qOp P ops C j (fun a' => Yields P ops oi v a' ∧ wpAnyM P md ops C Q T f ((L.setIfInBounds i true).setIfInBounds j true) (a'.put oi.dst v)) a := by
          obtain ⟨g1, g2, g3⟩ := Oper.apart_spec hap
          unfold qOp at h3 ⊢
          simp only [hoj] at h3 ⊢
          split
          · rename_i hw
            simp only [hw, if_true] at h3
            obtain ⟨u, hu, hn⟩ := h3
            exact ⟨u, hu, hy.of_same (execOp_put oi (fun cs b => hsel i oi cs b hi) a oj.dst u g3) (wanted_put oi a oj.dst u g3), hn.2⟩
          · rename_i hw
            simp only [hw] at h3
            exact ⟨hy.of_same (execOp_put oi (fun cs b => hsel i oi cs b hi) a oj.dst undef g3) (wanted_put oi a oj.dst undef g3), h3.2⟩
        refine qOp_mono (fun a' h5 => ih (L.setIfInBounds j true) a' hfree' hr' h5.1 ?_) h4
        rw [Array.setIfInBounds_comm _ _ hji]
        exact h5.2

/-- The operation hands a value on or halts: it is no call, no store. -/
def handsOn (o : Oper) : Bool := match o.op with
  | .move _ | .assign _ | .indexAddr .. | .fieldAddr .. | .index .. | .field .. | .binOp .. | .unOp .. | .extract .. | .nilCheck .. => true
  | _ => false

theorem handsOn_spec {o : Oper} {ρ : Operand → Value} {w w' : World} {n : Next} (h : handsOn o = true) (hr : (execOp ρ o).run P w = .ok n w') : ∃ u, n = .value u := by
  unfold handsOn at h
  have bnd : ∀ (s : Sem Value), (do pure (Next.value (← s)) : Sem Next).run P w = .ok n w' → ∃ u, n = .value u := by
    intro s hs
    simp only [Sem.run_bind] at hs
    cases hx : s.run P w with
    | ok u w2 => rw [hx] at hs; simp [Result.andThen] at hs; exact ⟨u, hs.1.symm⟩
    | halt x w2 => rw [hx] at hs; simp [Result.andThen] at hs
  unfold execOp at hr
  split at h <;> rename_i ho <;> simp only [ho] at hr
  · simp at hr; exact ⟨_, hr.1.symm⟩
  · simp at hr; exact ⟨_, hr.1.symm⟩
  · exact bnd _ hr
  · exact bnd _ hr
  · exact bnd _ hr
  · exact bnd _ hr
  · exact bnd _ hr
  · exact bnd _ hr
  · exact bnd _ hr
  · have bnd2 : ∀ {α : Type} (s : Sem α) (f : α → Sem Next) (w0 : World), (∀ a w1, (f a).run P w1 = .ok n w' → ∃ u, n = .value u) → (s >>= f).run P w0 = .ok n w' → ∃ u, n = .value u := by
      intro α s f w0 hf hs
      rw [Sem.run_bind] at hs
      cases hx : s.run P w0 with
      | ok a w1 => rw [hx] at hs; exact hf a w1 hs
      | halt x w1 => rw [hx] at hs; simp [Result.andThen] at hs
    have val : ∀ (v : Value) (w1 : World), (pure (Next.value v) : Sem Next).run P w1 = .ok n w' → ∃ u, n = .value u := fun v w1 hv => by
      simp at hv; exact ⟨v, hv.1.symm⟩
    have pan : ∀ (w1 : World), (runtimePanic .nilDeref : Sem Next).run P w1 = .ok n w' → ∃ u, n = .value u := fun w1 hv => by
      simp [runtimePanic] at hv
    split at hr
    · exact pan _ hr
    · exact pan _ hr
    · exact pan _ hr
    · split at hr
      · exact pan _ hr
      · refine bnd2 _ _ _ (fun a w1 h1 => ?_) hr
        refine bnd2 _ _ _ (fun a2 w2 h2 => ?_) h1
        split at h2
        · first | exact val _ _ h2 | exact bnd2 _ _ _ (fun a3 w3 h3 => val _ _ h3) h2
        · first | exact val _ _ h2 | exact bnd2 _ _ _ (fun a3 w3 h3 => val _ _ h3) h2
      · exact val _ _ hr
    · exact val _ _ hr
  · cases h

/-- The walk of the head: (an operation, whether it reads). -/
def wpMix (P : Program) (ops : Array Oper) (C : World → Prop) (Q : Act → Prop) : List (Oper × Bool) → Act → Prop
  | [], a => Q a
  | (o, b) :: rest, a => if Region.wanted o (yielded ops a.tmps) then o.quiet P a (if b then C else fun _ => True) (wpMix P ops C Q rest) else wpMix P ops C Q rest (a.put o.dst undef)

theorem wpMix_read {K' : Act → Prop} {a : Act} {o : Oper} {rest : List (Oper × Bool)} (hw : Region.wanted o (yielded ops a.tmps) = true)
    (h : ∀ K : Act → Prop, (∀ a, wpMix P ops C K' rest a → K a) → o.quiet P a C K) : wpMix P ops C K' ((o, true) :: rest) a := by
  unfold wpMix; rw [if_pos hw]; exact h _ (fun _ h => h)
theorem wpMix_pure {K' : Act → Prop} {a : Act} {o : Oper} {rest : List (Oper × Bool)} (hw : Region.wanted o (yielded ops a.tmps) = true)
    (h : ∀ K : Act → Prop, (∀ a, wpMix P ops C K' rest a → K a) → o.quiet P a (fun _ => True) K) : wpMix P ops C K' ((o, false) :: rest) a := by
  unfold wpMix; rw [if_pos hw]; exact h _ (fun _ h => h)
theorem wpMix_skip {K' : Act → Prop} {a : Act} {o : Oper} {b : Bool} {rest : List (Oper × Bool)} (hw : Region.wanted o (yielded ops a.tmps) = false)
    (h : wpMix P ops C K' rest (a.put o.dst undef)) : wpMix P ops C K' ((o, b) :: rest) a := by
  unfold wpMix; rw [if_neg (by rw [hw]; exact Bool.false_ne_true)]; exact h
theorem wpMix_nil {K' : Act → Prop} {a : Act} (h : K' a) : wpMix P ops C K' [] a := h

def pickO (l : List Oper) : List Nat → List Oper
  | [] => []
  | i :: r => match l[i]? with
    | some o => o :: pickO l r
    | none => pickO l r

def pickM (l : List Oper) : List (Nat × Bool) → List (Oper × Bool)
  | [] => []
  | (i, b) :: r => match l[i]? with
    | some o => (o, b) :: pickM l r
    | none => pickM l r

/-- The tail, one by one. -/
def tailM (md : Region.Mode) (ops : Array Oper) : List Nat → Array Bool → Bool
  | [], L => (Region.ready md ops L).isEmpty
  | k :: r, L => (Region.ready md ops L == [k]) && tailM md ops r (L.setIfInBounds k true)

def headM (md : Region.Mode) (ops : Array Oper) (T : List Nat) : List (Nat × Bool) → Array Bool → Bool
  | [], L => tailM md ops T L
  | (k, b) :: r, L => (Region.ready md ops L).contains k && Region.free md ops L k && decide (k ∉ T) && (if b then allWait md ops T k else (ops[k]?.map handsOn).getD false) && headM md ops T r (L.setIfInBounds k true)

def mixB (md : Region.Mode) (ops : Array Oper) (hs : List (Nat × Bool)) (T : List Nat) : Bool := Region.noSelect ops && (hs.length + T.length == ops.size) && headM md ops T hs (Array.replicate ops.size false)

theorem wpAny_tailM : ∀ (ts : List Nat) (L : Array Bool) (a : Act) (w : World), tailM md ops ts L = true → wpList P ops Q (pickO ops.toList ts) a w → wpAny P md ops Q ts.length L a w
  | [], _, _, _, hB, h => ⟨by simpa [tailM] using hB, h⟩
  | k :: r, L, a, w, hB, h => by
    simp only [tailM, Bool.and_eq_true, beq_iff_eq] at hB
    obtain ⟨hr, hB'⟩ := hB
    refine ⟨fun he => (by rw [hr] at he; cases he), fun i hi => ?_⟩
    rw [hr] at hi
    simp at hi
    subst hi
    obtain ⟨_, o, h0, _⟩ := mem_ready.1 (show i ∈ Region.ready md ops L by rw [hr]; simp)
    have h0' : ops.toList[i]? = some o := by simpa using h0
    unfold wpOp
    simp only [h0]
    unfold pickO at h
    simp only [h0'] at h
    unfold wpList at h
    split
    · rename_i hw
      simp only [hw, if_true] at h
      exact h.imp (Oper.wp_mono fun a' w' h' => wpAny_tailM r _ a' w' hB' h') id
    · rename_i hw
      simp only [hw] at h
      exact wpAny_tailM r _ _ w hB' h

theorem tailM_ready {ts : List Nat} {L : Array Bool} (h : tailM md ops ts L = true) : ∀ j ∈ Region.ready md ops L, j ∈ ts := by
  cases ts with
  | nil => intro j hj; simp [tailM] at h; rw [h] at hj; cases hj
  | cons k r =>
    intro j hj
    simp only [tailM, Bool.and_eq_true, beq_iff_eq] at h
    rw [h.1] at hj
    simp at hj
    simp [hj]

theorem wpAnyM_lex (w0 : World) (h0 : C w0) (hs : Region.noSelect ops = true) (hQ : ∀ c a d v w, Q (.panic c) (Act.put a d v) w → Q (.panic c) a w) : ∀ (ps : List (Nat × Bool)) (L : Array Bool) (a : Act), Closed md ops L →
    headM md ops T ps L = true → wpMix P ops C (fun a' => ∀ w', C w' → wpList P ops Q (pickO ops.toList T) a' w') (pickM ops.toList ps) a → wpAnyM P md ops C Q T (ps.length + T.length) L a
  | [], L, a, _, hB, h => by
    rw [List.length_nil, Nat.zero_add]
    exact wpM_of_any w0 h0 _ L a (tailM_ready hB) (fun w hw => wpAny_tailM T L a w hB (h w hw))
  | (k, b) :: ps, L, a, hcl, hB, h => by
    simp only [headM, Bool.and_eq_true, decide_eq_true_eq] at hB
    obtain ⟨⟨⟨⟨hr, hf⟩, hkT⟩, hb⟩, hB'⟩ := hB
    have hr' : k ∈ Region.ready md ops L := by simpa using hr
    obtain ⟨_, o, ho, _⟩ := mem_ready.1 hr'
    have ho' : ops.toList[k]? = some o := by simpa using ho
    have hpk : pickM ops.toList ((k, b) :: ps) = (o, b) :: pickM ops.toList ps := by
      show (match ops.toList[k]? with | some o => (o, b) :: pickM ops.toList ps | none => pickM ops.toList ps) = _
      rw [ho']
    rw [hpk] at h
    unfold wpMix at h
    rw [List.length_cons, Nat.add_right_comm]
    have next : ∀ v, wpMix P ops C (fun a' => ∀ w', C w' → wpList P ops Q (pickO ops.toList T) a' w') (pickM ops.toList ps) (a.put o.dst v) → wpAnyM P md ops C Q T (ps.length + T.length) (L.setIfInBounds k true) (a.put o.dst v) := fun v hv =>
      wpAnyM_lex w0 h0 hs hQ ps _ _ (closed_set hcl hr') hB' hv
    cases b with
    | true =>
      simp only [if_true] at hb h
      have hst : qOp P ops C k (wpMix P ops C (fun a' => ∀ w', C w' → wpList P ops Q (pickO ops.toList T) a' w') (pickM ops.toList ps)) a := by unfold qOp; simp only [ho]; exact h
      obtain ⟨v, hy, hK⟩ := yieldsIn_of_qOp ho hst
      exact wpAnyM_read ho (Region.noSelect_spec hs) hkT hb _ L a hcl (Region.free_spec ho hf) hr' hy (next v hK)
    | false =>
      simp only [Bool.false_eq_true, if_false] at hb h
      rw [ho] at hb
      simp only [Option.map_some, Option.getD_some] at hb
      by_cases hw : Region.wanted o (yielded ops a.tmps) = true
      · rw [if_pos hw] at h
        obtain ⟨v, hv, hK⟩ := h
        have hy : Yields P ops o v a := .inl ⟨hw, fun w => by
          have h1 := hv w trivial
          unfold Oper.quietAt at h1
          generalize hx : (execOp a.eval o).run P w = r at h1
          cases r with
          | ok n w' =>
            obtain ⟨u, rfl⟩ := handsOn_spec hb hx
            obtain ⟨rfl, rfl⟩ := h1
            rfl
          | halt x w' => exact h1.elim⟩
        exact wpAnyM_pure ho (Region.noSelect_spec hs) hkT (fun c a w => hQ c a _ _ w) _ L a (Region.free_spec ho hf) hr' hy (next v hK)
      · rw [if_neg hw] at h
        exact wpAnyM_pure ho (Region.noSelect_spec hs) hkT (fun c a w => hQ c a _ _ w) _ L a (Region.free_spec ho hf) hr' (.inr ⟨by simpa using hw, rfl⟩) (next undef h)

/-- A region that is written out, at the class 'w after some draws'. hs: (number, whether it reads); ts: the tail. -/
theorem wp_region_mix {id : Nat} {a : Act} {w : World} {l : List Oper} (hs : List (Nat × Bool)) (ts : List Nat) (hm : P.follows .mixedOrders = true) (hB : mixB .any l.toArray hs ts = true) (hQ : ∀ c a d v w, Q (.panic c) (Act.put a d v) w → Q (.panic c) a w)
    (h : wpMix P l.toArray (fun w' => ∃ n, w' = w.drewN n) (fun a' => ∀ w', (∃ n, w' = w.drewN n) → wpList P l.toArray Q (pickO l ts) a' w') (pickM l hs) a) : (Code.region id l.toArray true).wp P Q a w := by
  simp only [mixB, Bool.and_eq_true, beq_iff_eq] at hB
  have h1 := wpAnyM_lex (C := fun w' => ∃ n, w' = w.drewN n) (Q := Q) (md := .any) (T := ts) (w.drewN 1) ⟨1, rfl⟩ hB.1.1 hQ hs (Array.replicate l.toArray.size false) a closed_start hB.2 h
  rw [hB.1.2] at h1
  exact wp_region_any hm (wpAny_of_M _ _ _ h1 _ ⟨1, rfl⟩)

end
end Go.Qx
