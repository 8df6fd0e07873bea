/-
  A REGION THAT DRAWS ITS ORDER: as Qxb6500367aQm; beside it operations that read what no writer of the tail turns ('kept': F holds behind every operation): they may be taken first though no writer waits for them.
-/
import Derived.Test.Qxb6500367aQm
namespace Go.Qx
open Go
set_option linter.unusedVariables false
section
variable {P : Program} {ops : Array Oper} {Q : Exit → Act → World → Prop} {md : Region.Mode} {C F : World → Prop} {T : List Nat}

def wpAnyF (P : Program) (md : Region.Mode) (ops : Array Oper) (C F : World → Prop) (Q : Exit → Act → World → Prop) (T : List Nat) : Nat → Array Bool → Act → Prop
  | 0, L, a => Region.ready md ops L = [] ∧ ∀ w, C w → Q .normal a w
  | f + 1, L, a => (Region.ready md ops L = [] → ∀ w, C w → Q .normal a w) ∧
      ∀ j ∈ Region.ready md ops L, (j ∈ T → ∀ w, C w → wpOp P ops Q j (fun a' w' => F w' ∧ wpAnyH P md ops Q F f (L.setIfInBounds j true) a' w') a w) ∧ (j ∉ T → qOp P ops C j (wpAnyF P md ops C F Q T f (L.setIfInBounds j true)) a)

theorem wpAny_of_F : ∀ (f : Nat) (L : Array Bool) (a : Act), wpAnyF P md ops C F Q T f L a → ∀ w, C w → wpAny P md ops Q f L a w
  | 0, _, _, h, w, hw => ⟨h.1, h.2 w hw⟩
  | f + 1, L, a, h, w, hw => ⟨fun h0 => h.1 h0 w hw, fun j hj => by
      by_cases hT : j ∈ T
      · exact wpOp_mono (fun a' w' h' => wpAny_of_held f _ a' w' h'.2) ((h.2 j hj).1 hT w hw)
      · exact wpOp_of_qOp hw (fun a' w' hw' h3 => wpAny_of_F f _ a' h3 w' hw') ((h.2 j hj).2 hT)⟩

theorem wpF_of_any (w0 : World) (h0 : C w0) : ∀ (f : Nat) (L : Array Bool) (a : Act), (∀ j ∈ Region.ready md ops L, j ∈ T) → (∀ w, C w → wpAnyH P md ops Q F f L a w) → wpAnyF P md ops C F Q T f L a
  | 0, _, _, _, h => ⟨(h w0 h0).1, fun w hw => (h w hw).2⟩
  | f + 1, L, a, hT, h => ⟨fun he w hw => (h w hw).1 he, fun j hj => ⟨fun _ w hw => (h w hw).2 j hj, fun hn => absurd (hT j hj) hn⟩⟩

theorem wpAnyF_read {i : Nat} {oi : Oper} {v : Value} (hi : ops[i]? = some oi) (hsel : ∀ (j : Nat) (o : Oper) cs b, ops[j]? = some o → o.op ≠ .select cs b) (hiT : i ∉ T) (hwt : allWait md ops T i = true) :
    ∀ (f : Nat) (L : Array Bool) (a : Act), Closed md ops L →
      (∀ j oj, ops[j]? = some oj → j ≠ i → L.getD j true = false → (∀ e ∈ oj.after, Region.binds md e = true → e.on ≠ i) → oi.apart ops oj = true) →
      i ∈ Region.ready md ops L → YieldsIn P ops C oi v a →
      wpAnyF P md ops C F Q T f (L.setIfInBounds i true) (a.put oi.dst v) → wpAnyF P md ops C F Q T (f + 1) L a := by
  intro f
  induction f with
  | zero =>
    intro L a hcl _ hr hy H
    refine ⟨fun h => (by rw [h] at hr; cases hr), fun j hj => ?_⟩
    by_cases hji : j = i
    · subst hji; exact ⟨fun h => absurd h hiT, fun _ => hy.qOp hi H⟩
    · have := ready_mono hj hji
      rw [H.1] at this
      cases this
  | succ f ih =>
    intro L a hcl hfree hr hy H
    have hL := getD_false_true (mem_ready.1 hr).1
    refine ⟨fun h => (by rw [h] at hr; cases hr), fun j hj => ?_⟩
    by_cases hji : j = i
    · subst hji; exact ⟨fun h => absurd h hiT, fun _ => hy.qOp hi H⟩
    · refine ⟨fun hT => ?_, fun hT => ?_⟩
      · exfalso
        unfold allWait at hwt
        rw [List.all_eq_true] at hwt
        exact not_ready hcl hL hji hj (hwt j hT)
      · obtain ⟨hjun, oj, hoj, _⟩ := mem_ready.1 hj
        have h1 := (H.2 j (ready_mono hj hji)).2 hT
        have h3 := qOp_put hoj (hfree j oj hoj hji hjun (not_on hr hj oj hoj)) (fun cs b => hsel i oi cs b hi) (fun cs b => hsel j oj cs b hoj) hy h1
        have hfree' : ∀ k ok, ops[k]? = some ok → k ≠ i → (L.setIfInBounds j true).getD k true = false →
            (∀ e ∈ ok.after, Region.binds md e = true → e.on ≠ i) → oi.apart ops ok = true := fun k ok hk hki hun hno => by
          refine hfree k ok hk hki ?_ hno
          by_cases hjk : j = k
          · subst hjk; exact hjun
          · rw [getD_set_ne true hjk] at hun; exact hun
        refine qOp_mono (fun a' h4 => ih (L.setIfInBounds j true) a' (closed_set hcl hj) hfree' (ready_mono hr (Ne.symm hji)) h4.1 ?_) h3
        rw [Array.setIfInBounds_comm _ _ hji]
        exact h4.2

theorem yieldsIn_if (hCF : ∀ w, C w → F w) {o : Oper} {v : Value} {a : Act} (h : YieldsIf P ops F o v a) : YieldsIn P ops C o v a :=
  h.imp (fun ⟨hw, hv⟩ => ⟨hw, fun w hC => by unfold Oper.quietAt; rw [hv w (hCF w hC)]; exact ⟨rfl, rfl⟩⟩) id

/-- One that is kept. -/
theorem wpAnyF_kept (hCF : ∀ w, C w → F w) {i : Nat} {oi : Oper} {v : Value} (hi : ops[i]? = some oi) (hsel : ∀ (j : Nat) (o : Oper) cs b, ops[j]? = some o → o.op ≠ .select cs b) (hiT : i ∉ T)
    (hQ : ∀ c a w, Q (.panic c) (a.put oi.dst v) w → Q (.panic c) a w) :
    ∀ (f : Nat) (L : Array Bool) (a : Act),
      (∀ j oj, ops[j]? = some oj → j ≠ i → L.getD j true = false → (∀ e ∈ oj.after, Region.binds md e = true → e.on ≠ i) → oi.apart ops oj = true) →
      i ∈ Region.ready md ops L → YieldsIf P ops F oi v a →
      wpAnyF P md ops C F Q T f (L.setIfInBounds i true) (a.put oi.dst v) → wpAnyF P md ops C F Q T (f + 1) L a := by
  intro f
  induction f with
  | zero =>
    intro L a _ hr hy H
    refine ⟨fun h => (by rw [h] at hr; cases hr), fun j hj => ?_⟩
    by_cases hji : j = i
    · subst hji; exact ⟨fun h => absurd h hiT, fun _ => (yieldsIn_if hCF hy).qOp hi H⟩
    · have := ready_mono hj hji
      rw [H.1] at this
      cases this
  | succ f ih =>
    intro L a hfree hr hy H
    refine ⟨fun h => (by rw [h] at hr; cases hr), fun j hj => ?_⟩
    by_cases hji : j = i
    · subst hji; exact ⟨fun h => absurd h hiT, fun _ => (yieldsIn_if hCF hy).qOp hi H⟩
    · obtain ⟨hjun, oj, hoj, _⟩ := mem_ready.1 hj
      have hap := hfree j oj hoj hji hjun (not_on hr hj oj hoj)
      have hfree' : ∀ k ok, ops[k]? = some ok → k ≠ i → (L.setIfInBounds j true).getD k true = false →
          (∀ e ∈ ok.after, Region.binds md e = true → e.on ≠ i) → oi.apart ops ok = true := fun k ok hk hki hun hno => by
        refine hfree k ok hk hki ?_ hno
        by_cases hjk : j = k
        · subst hjk; exact hjun
        · rw [getD_set_ne true hjk] at hun; exact hun
      have hr' := ready_mono hr (Ne.symm hji)
      refine ⟨fun hT w hw => ?_, fun hT => ?_⟩
      · have h1 := (H.2 j (ready_mono hj hji)).1 hT w hw
        have h2 := wpOp_putIf hoj hap (fun cs b => hsel i oi cs b hi) (fun cs b => hsel j oj cs b hoj) hQ hy h1
        refine wpOp_mono (fun a' w' h3 => ⟨h3.2.1, ?_⟩) h2
        refine wpAnyH_first hi hsel hQ f (L.setIfInBounds j true) a' w' hfree' hr' h3.1 h3.2.1 ?_
        rw [Array.setIfInBounds_comm _ _ hji]
        exact h3.2.2
      · have h1 := (H.2 j (ready_mono hj hji)).2 hT
        have h3 := qOp_put hoj hap (fun cs b => hsel i oi cs b hi) (fun cs b => hsel j oj cs b hoj) (yieldsIn_if (C := C) hCF hy) h1
        have h4 : qOp P ops C j (fun a' => YieldsIf P ops F oi v a' ∧ wpAnyF P md ops C F Q T f ((L.setIfInBounds i true).setIfInBounds j true) (a'.put oi.dst v)) a := by
          obtain ⟨g1, g2, g3⟩ := Oper.apart_spec hap
          unfold qOp at h3 ⊢
          simp only [hoj] at h3 ⊢
          split
          · rename_i hw
            simp only [hw, if_true] at h3
            obtain ⟨u, hu, hn⟩ := h3
            exact ⟨u, hu, hy.of_same (execOp_put oi (fun cs b => hsel i oi cs b hi) a oj.dst u g3) (wanted_put oi a oj.dst u g3), hn.2⟩
          · rename_i hw
            simp only [hw] at h3
            exact ⟨hy.of_same (execOp_put oi (fun cs b => hsel i oi cs b hi) a oj.dst undef g3) (wanted_put oi a oj.dst undef g3), h3.2⟩
        refine qOp_mono (fun a' h5 => ih (L.setIfInBounds j true) a' hfree' hr' h5.1 ?_) h4
        rw [Array.setIfInBounds_comm _ _ hji]
        exact h5.2

/-- The operation hands a value on or halts: it is no call, no store; or it is a load. -/
def handsOnL (o : Oper) : Bool := handsOn o || match o.op with
  | .load .. => true
  | _ => false
theorem handsOnL_spec {o : Oper} {ρ : Operand → Value} {w w' : World} {n : Next} (h : handsOnL o = true) (hr : (execOp ρ o).run P w = .ok n w') : ∃ u, n = .value u := by
  unfold handsOnL at h
  rw [Bool.or_eq_true] at h
  rcases h with h | h
  · exact handsOn_spec h hr
  · have bnd : ∀ (s : Sem Value), (do pure (Next.value (← s)) : Sem Next).run P w = .ok n w' → ∃ u, n = .value u := by
      intro s hs
      simp only [Sem.run_bind] at hs
      cases hx : s.run P w with
      | ok u w2 => rw [hx] at hs; simp [Result.andThen] at hs; exact ⟨u, hs.1.symm⟩
      | halt x w2 => rw [hx] at hs; simp [Result.andThen] at hs
    unfold execOp at hr
    split at h
    · rename_i ho
      simp only [ho] at hr
      exact bnd _ hr
    · cases h

/-- The walk of the head: (an operation, whether it reads what the tail may turn). -/
def wpMixF (P : Program) (ops : Array Oper) (C F : World → Prop) (Q : Act → Prop) : List (Oper × Bool) → Act → Prop
  | [], a => Q a
  | (o, b) :: rest, a => if Region.wanted o (yielded ops a.tmps) then o.quiet P a (if b then C else F) (wpMixF P ops C F Q rest) else wpMixF P ops C F Q rest (a.put o.dst undef)

theorem wpMixF_read {K' : Act → Prop} {a : Act} {o : Oper} {rest : List (Oper × Bool)} (hw : Region.wanted o (yielded ops a.tmps) = true)
    (h : ∀ K : Act → Prop, (∀ a, wpMixF P ops C F K' rest a → K a) → o.quiet P a C K) : wpMixF P ops C F K' ((o, true) :: rest) a := by
  unfold wpMixF; rw [if_pos hw]; exact h _ (fun _ h => h)
theorem wpMixF_kept {K' : Act → Prop} {a : Act} {o : Oper} {rest : List (Oper × Bool)} (hw : Region.wanted o (yielded ops a.tmps) = true)
    (h : ∀ K : Act → Prop, (∀ a, wpMixF P ops C F K' rest a → K a) → o.quiet P a F K) : wpMixF P ops C F K' ((o, false) :: rest) a := by
  unfold wpMixF; rw [if_pos hw]; exact h _ (fun _ h => h)
theorem wpMixF_pure {K' : Act → Prop} {a : Act} {o : Oper} {rest : List (Oper × Bool)} (hw : Region.wanted o (yielded ops a.tmps) = true) (hh : handsOn o = true)
    (h : ∀ K : Act → Prop, (∀ a, wpMixF P ops C F K' rest a → K a) → o.quiet P a (fun _ => True) K) : wpMixF P ops C F K' ((o, false) :: rest) a := by
  unfold wpMixF; rw [if_pos hw]
  obtain ⟨v, hv, hK⟩ := h _ (fun _ h => h)
  refine ⟨v, fun w _ => ?_, hK⟩
  have h1 := hv w trivial
  unfold Oper.quietAt at h1 ⊢
  generalize hx : (execOp a.eval o).run P w = r at h1 ⊢
  cases r with
  | ok n w' =>
    obtain ⟨u, rfl⟩ := handsOn_spec hh hx
    exact h1
  | halt x w' => exact h1
theorem wpMixF_nil {K' : Act → Prop} {a : Act} (h : K' a) : wpMixF P ops C F K' [] a := h

def headF (md : Region.Mode) (ops : Array Oper) (T : List Nat) : List (Nat × Bool) → Array Bool → Bool
  | [], L => tailM md ops T L
  | (k, b) :: r, L => (Region.ready md ops L).contains k && Region.free md ops L k && decide (k ∉ T) && (if b then allWait md ops T k else (ops[k]?.map handsOnL).getD false) && headF md ops T r (L.setIfInBounds k true)

def mixFB (md : Region.Mode) (ops : Array Oper) (hs : List (Nat × Bool)) (T : List Nat) : Bool := Region.noSelect ops && (hs.length + T.length == ops.size) && headF md ops T hs (Array.replicate ops.size false)

/-- The tail, one by one; F behind each. -/
def wpListF (P : Program) (ops : Array Oper) (Q : Exit → Act → World → Prop) (F : World → Prop) : List Oper → Act → World → Prop
  | [], a, w => Q .normal a w
  | o :: rest, a, w => if Region.wanted o (yielded ops a.tmps) then o.wp P a w (fun a' w' => F w' ∧ wpListF P ops Q F rest a' w') Q ∨ (o.asks P a w ∧ LetsOut Q) else F w ∧ wpListF P ops Q F rest (a.put o.dst undef) w

theorem wpListF_step {o : Oper} {rest : List Oper} {a : Act} {w : World} (hw : Region.wanted o (yielded ops a.tmps) = true)
    (h : ∀ K : Act → World → Prop, (∀ a' w', F w' → wpListF P ops Q F rest a' w' → K a' w') → o.wp P a w K Q) : wpListF P ops Q F (o :: rest) a w := by
  unfold wpListF; rw [if_pos hw]; exact .inl (h _ (fun _ _ h1 h2 => ⟨h1, h2⟩))
theorem wpListF_nil {a : Act} {w : World} (h : Q .normal a w) : wpListF P ops Q F [] a w := h

theorem wpAnyH_tailF : ∀ (ts : List Nat) (L : Array Bool) (a : Act) (w : World), tailM md ops ts L = true → wpListF P ops Q F (pickO ops.toList ts) a w → wpAnyH P md ops Q F ts.length L a w
  | [], _, _, _, hB, h => ⟨by simpa [tailM] using hB, h⟩
  | k :: r, L, a, w, hB, h => by
    simp only [tailM, Bool.and_eq_true, beq_iff_eq] at hB
    obtain ⟨hr, hB'⟩ := hB
    refine ⟨fun he => (by rw [hr] at he; cases he), fun i hi => ?_⟩
    rw [hr] at hi
    simp at hi
    subst hi
    obtain ⟨_, o, h0, _⟩ := mem_ready.1 (show i ∈ Region.ready md ops L by rw [hr]; simp)
    have h0' : ops.toList[i]? = some o := by simpa using h0
    unfold wpOp
    simp only [h0]
    unfold pickO at h
    simp only [h0'] at h
    unfold wpListF at h
    split
    · rename_i hw
      simp only [hw, if_true] at h
      exact h.imp (Oper.wp_mono fun a' w' h' => ⟨h'.1, wpAnyH_tailF r _ a' w' hB' h'.2⟩) id
    · rename_i hw
      simp only [hw] at h
      exact ⟨h.1, wpAnyH_tailF r _ _ w hB' h.2⟩

theorem wpAnyF_lex (hCF : ∀ w, C w → F w) (w0 : World) (h0 : C w0) (hs : Region.noSelect ops = true) (hQ : ∀ c a d v w, Q (.panic c) (Act.put a d v) w → Q (.panic c) a w) : ∀ (ps : List (Nat × Bool)) (L : Array Bool) (a : Act), Closed md ops L →
    headF md ops T ps L = true → wpMixF P ops C F (fun a' => ∀ w', C w' → wpListF P ops Q F (pickO ops.toList T) a' w') (pickM ops.toList ps) a → wpAnyF P md ops C F Q T (ps.length + T.length) L a
  | [], L, a, _, hB, h => by
    rw [List.length_nil, Nat.zero_add]
    exact wpF_of_any w0 h0 _ L a (tailM_ready hB) (fun w hw => wpAnyH_tailF T L a w hB (h w hw))
  | (k, b) :: ps, L, a, hcl, hB, h => by
    simp only [headF, Bool.and_eq_true, decide_eq_true_eq] at hB
    obtain ⟨⟨⟨⟨hr, hf⟩, hkT⟩, hb⟩, hB'⟩ := hB
    have hr' : k ∈ Region.ready md ops L := by simpa using hr
    obtain ⟨_, o, ho, _⟩ := mem_ready.1 hr'
    have ho' : ops.toList[k]? = some o := by simpa using ho
    have hpk : pickM ops.toList ((k, b) :: ps) = (o, b) :: pickM ops.toList ps := by
      show (match ops.toList[k]? with | some o => (o, b) :: pickM ops.toList ps | none => pickM ops.toList ps) = _
      rw [ho']
    rw [hpk] at h
    unfold wpMixF at h
    rw [List.length_cons, Nat.add_right_comm]
    have next : ∀ v, wpMixF P ops C F (fun a' => ∀ w', C w' → wpListF P ops Q F (pickO ops.toList T) a' w') (pickM ops.toList ps) (a.put o.dst v) → wpAnyF P md ops C F Q T (ps.length + T.length) (L.setIfInBounds k true) (a.put o.dst v) := fun v hv =>
      wpAnyF_lex hCF w0 h0 hs hQ ps _ _ (closed_set hcl hr') hB' hv
    cases b with
    | true =>
      simp only [if_true] at hb h
      have hst : qOp P ops C k (wpMixF P ops C F (fun a' => ∀ w', C w' → wpListF P ops Q F (pickO ops.toList T) a' w') (pickM ops.toList ps)) a := by unfold qOp; simp only [ho]; exact h
      obtain ⟨v, hy, hK⟩ := yieldsIn_of_qOp ho hst
      exact wpAnyF_read ho (Region.noSelect_spec hs) hkT hb _ L a hcl (Region.free_spec ho hf) hr' hy (next v hK)
    | false =>
      simp only [Bool.false_eq_true, if_false] at hb h
      rw [ho] at hb
      simp only [Option.map_some, Option.getD_some] at hb
      by_cases hw : Region.wanted o (yielded ops a.tmps) = true
      · rw [if_pos hw] at h
        obtain ⟨v, hv, hK⟩ := h
        have hy : YieldsIf P ops F o v a := .inl ⟨hw, fun w hF => by
          have h1 := hv w hF
          unfold Oper.quietAt at h1
          generalize hx : (execOp a.eval o).run P w = r at h1
          cases r with
          | ok n w' =>
            obtain ⟨u, rfl⟩ := handsOnL_spec hb hx
            obtain ⟨rfl, rfl⟩ := h1
            rfl
          | halt x w' => exact h1.elim⟩
        exact wpAnyF_kept hCF ho (Region.noSelect_spec hs) hkT (fun c a w => hQ c a _ _ w) _ L a (Region.free_spec ho hf) hr' hy (next v hK)
      · rw [if_neg hw] at h
        exact wpAnyF_kept hCF ho (Region.noSelect_spec hs) hkT (fun c a w => hQ c a _ _ w) _ L a (Region.free_spec ho hf) hr' (.inr ⟨by simpa using hw, rfl⟩) (next undef h)

/-- A region that is written out, at the class 'w after some draws'. hs: (number, whether it reads what the tail may turn); ts: the tail; F: what stands throughout. -/
theorem wp_region_mixf {id : Nat} {a : Act} {w : World} {l : List Oper} (F : World → Prop) (hs : List (Nat × Bool)) (ts : List Nat) (hm : P.follows .mixedOrders = true) (hB : mixFB .any l.toArray hs ts = true) (hF : ∀ n, F (w.drewN n)) (hQ : ∀ c a d v w, Q (.panic c) (Act.put a d v) w → Q (.panic c) a w)
    (h : wpMixF P l.toArray (fun w' => ∃ n, w' = w.drewN n) F (fun a' => ∀ w', (∃ n, w' = w.drewN n) → wpListF P l.toArray Q F (pickO l ts) a' w') (pickM l hs) a) : (Code.region id l.toArray true).wp P Q a w := by
  simp only [mixFB, Bool.and_eq_true, beq_iff_eq] at hB
  have h1 := wpAnyF_lex (C := fun w' => ∃ n, w' = w.drewN n) (F := F) (Q := Q) (md := .any) (T := ts) (fun w' ⟨n, hn⟩ => by rw [hn]; exact hF n) (w.drewN 1) ⟨1, rfl⟩ hB.1.1 hQ hs (Array.replicate l.toArray.size false) a closed_start hB.2 h
  rw [hB.1.2] at h1
  exact wp_region_any hm (wpAny_of_F _ _ _ h1 _ ⟨1, rfl⟩)

end
end Go.Qx
