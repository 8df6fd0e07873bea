/-
  KEEPS: the walk. (gen6kk.py)
-/
import Derived.Test.Qxb6500366aKh
import Derived.Test.Qxb6500366aRefine
import Derived.Deep.DeepCutAuto
namespace Go.Proofs.Qxb6500366a
open Go.RowKit Go.Qx
set_option linter.unusedVariables false
set_option linter.unusedSimpArgs false

theorem und30 : Try.prog.underlying 30 = some (.slice 3) := by kernel_rfl
def Z24 : Array Value := (List.replicate 24 (Value.int .i64 0)).toArray
theorem made3 : madeCells (Value.int .i64 0).cells (24 * 1) = Z24 := by kernel_rfl
theorem make30 (W : World) : (Instr.makeSlice 30 (.int .i64 1) (.int .i64 24)).run Try.prog W = .ok (.slice (some ⟨W.heap.size, 0, none⟩) 1 24) (W.alloc (.cells Z24 3)) := by
  obtain ⟨i, hi, hz0, hz1, hz2⟩ := info_parts info3
  have := run_make (P := Try.prog) W 30 3 i _ und30 hi hz0 .i64 .i64 1 24 (by omega) (by omega) (by rw [hz2]; omega) (by omega)
  rw [hz1, show Int.toNat 24 * 1 = 24 * 1 from rfl, made3] at this
  exact this

/-- The record made anew. -/
def GN (w wx : World) (gv : Value) : Prop := ∃ g gx gy, gv = .pointer (some ⟨g, 0, none⟩) ∧ Quiet w wx ∧ (∀ k, ownG g gx gy k → w.heap.size ≤ k) ∧ RepG wx g gx gy [(0, 0)] (1, 0)
theorem gn1 (w : World) : GN w (((w.alloc (.cells Z24 3)).alloc (.cells Z24 3)).alloc (.cells #[.slice (some ⟨w.heap.size, 0, none⟩) 1 24, .slice (some ⟨(w.heap.size + 1), 0, none⟩) 1 24, .int .i64 1, .int .i64 0] 32)).drew (.pointer (some ⟨w.heap.size + 1 + 1, 0, none⟩)) := by
  refine ⟨w.heap.size + 1 + 1, w.heap.size, (w.heap.size + 1), rfl, Chg.drew (Chg.alloc (Chg.alloc (Chg.alloc (Chg.refl (fun _ => False) w) _) _) _), ?_, ?_, ⟨List.replicate 24 (.int .i64 0), ?_, by simp, ?_⟩, ⟨List.replicate 24 (.int .i64 0), ?_, by simp, ?_⟩, by simp, by omega, by omega, by omega⟩
  · rintro k (rfl | rfl | rfl) <;> omega
  · exact (Blk.at_new (by simp)).drew
  · exact ((Blk.new w 3 (List.replicate 24 (.int .i64 0))).alloc _).alloc _
  · intro i hi
    have e : i = 0 := by simp at hi; omega
    subst e; rfl
  · exact (blk_two w 3 _ (List.replicate 24 (.int .i64 0))).alloc _
  · intro i hi
    have e : i = 0 := by simp at hi; omega
    subst e; rfl
theorem gn2 (w : World) : GN w (((w.alloc (.cells Z24 3)).alloc (.cells Z24 3)).alloc (.cells #[.slice (some ⟨(w.heap.size + 1), 0, none⟩) 1 24, .slice (some ⟨w.heap.size, 0, none⟩) 1 24, .int .i64 1, .int .i64 0] 32)).drew (.pointer (some ⟨w.heap.size + 1 + 1, 0, none⟩)) := by
  refine ⟨w.heap.size + 1 + 1, (w.heap.size + 1), w.heap.size, rfl, Chg.drew (Chg.alloc (Chg.alloc (Chg.alloc (Chg.refl (fun _ => False) w) _) _) _), ?_, ?_, ⟨List.replicate 24 (.int .i64 0), ?_, by simp, ?_⟩, ⟨List.replicate 24 (.int .i64 0), ?_, by simp, ?_⟩, by simp, by omega, by omega, by omega⟩
  · rintro k (rfl | rfl | rfl) <;> omega
  · exact (Blk.at_new (by simp)).drew
  · exact (blk_two w 3 _ (List.replicate 24 (.int .i64 0))).alloc _
  · intro i hi
    have e : i = 0 := by simp at hi; omega
    subst e; rfl
  · exact ((Blk.new w 3 (List.replicate 24 (.int .i64 0))).alloc _).alloc _
  · intro i hi
    have e : i = 0 := by simp at hi; omega
    subst e; rfl

/-- The real turtle and the record, apart from each other, in the blocks of S, which are new. -/
structure Kept (W : World) (S : Nat → Prop) (w : World) (x g : Nat) (σ : St) : Prop where
  chg : Chg (fun k => W.heap.size ≤ k) W w
  rng : ∀ k, S k → W.heap.size ≤ k ∧ k < w.heap.size
  ok : σ.Ok
  reps : ∃ tb mb gx gy, RepS w x tb mb σ ∧ RepG w g gx gy σ.tr σ.d ∧ (∀ k, own x tb mb k → ¬ ownG g gx gy k) ∧ (∀ k, own x tb mb k → S k) ∧ ∀ k, ownG g gx gy k → S k

theorem Kept.quiet {W w w' : World} {S : Nat → Prop} {x g : Nat} {σ : St} (h : Kept W S w x g σ) (qu : Quiet w w') : Kept W S w' x g σ := by
  obtain ⟨h1, h5, I, tb, mb, gx, gy, R, G, h2, h3, h4⟩ := h
  exact ⟨h1.trans (qu.chg _), fun k hk => ⟨(h5 k hk).1, Nat.lt_of_lt_of_le (h5 k hk).2 qu.size⟩, I, tb, mb, gx, gy, R.quiet qu, G.quiet qu, h2, h3, h4⟩

theorem kept_new {w w1 w2 : World} {x tb mb g gx gy : Nat} (q1 : Quiet w w1) (ho1 : ∀ k, own x tb mb k → w.heap.size ≤ k) (R1 : Rep w1 x tb mb [(0, 0)] (1, 0)) (q2 : Quiet w1 w2) (ho2 : ∀ k, ownG g gx gy k → w1.heap.size ≤ k) (G2 : RepG w2 g gx gy [(0, 0)] (1, 0)) : Kept w (fun k => w.heap.size ≤ k ∧ k < w2.heap.size) w2 x g St.first := by
  have R2 := R1.quiet q2
  have hz := q1.size
  refine ⟨((q1.trans q2).chg _), fun k hk => hk, inv_first, tb, mb, gx, gy, R2, G2, ?_, ?_, ?_⟩
  · intro k hk hm
    have h1 := R1.lts k hk
    have h2 := ho2 k hm
    omega
  · intro k hk
    exact ⟨ho1 k hk, R2.lts k hk⟩
  · intro k hk
    exact ⟨Nat.le_trans hz (ho2 k hk), G2.lts k hk⟩

theorem Kept.holds {W w : World} {S : Nat → Prop} {x g : Nat} {σ : St} (h : Kept W S w x g σ) : Calls Try.prog 12 #[.pointer (some ⟨x, 0, none⟩), .pointer (some ⟨g, 0, none⟩)] w (okPost w true) := by
  obtain ⟨h1, h5, I, tb, mb, gx, gy, R, G, h2, h3, h4⟩ := h
  exact holds_any w x tb mb g gx gy σ.tr σ.d R G I

/-- An op played, and then held against the record. -/
theorem kept_step {W w : World} {S : Nat → Prop} {x g : Nat} {σ : St} (h : Kept W S w x g σ) (p : Opr) :
    ∃ X : An, Calls Try.prog 13 #[.pointer (some ⟨x, 0, none⟩), .agg #[.int .i64 p.k, .int .i64 p.a, .int .i64 p.b, .int .i64 p.c, .string p.s, .string p.t]] w fun e w1 => e = .returned (.agg #[.int .i64 X.e, .int .i64 X.n, .int .i64 X.m, .string X.s]) ∧
      Chg S w w1 ∧
      ∀ w2, Quiet w1 w2 → Calls Try.prog 14 #[.pointer (some ⟨x, 0, none⟩), .pointer (some ⟨g, 0, none⟩), .agg #[.int .i64 p.k, .int .i64 p.a, .int .i64 p.b, .int .i64 p.c, .string p.s, .string p.t], .agg #[.int .i64 X.e, .int .i64 X.n, .int .i64 X.m, .string X.s]] w2 fun e w3 => e = .returned (.bool true) ∧
        ∃ S', Kept W S' w3 x g (nextP σ p) := by
  obtain ⟨h1, h5, I, tb, mb, gx, gy, R, G, h2, h3, h4⟩ := h
  refine ⟨ansP σ p, ?_⟩
  refine Calls.mono (do_any w x tb mb σ R I p) ?_
  rintro e w1 ⟨rfl, hch, tb', mb', ho, R1⟩
  have G1 : RepG w1 g gx gy σ.tr σ.d := G.of_chg hch h2
  refine ⟨rfl, hch.mono (fun k _ h => h3 k h), ?_⟩
  intro w2 q2
  refine Calls.mono (step_any w2 x tb' mb' g gx gy σ p (G1.quiet q2) I (R1.quiet q2)) ?_
  rintro e w3 ⟨rfl, hchm, G3⟩
  have hap : ∀ k, own x tb' mb' k → ¬ ownG g gx gy k := fun k hk hm => by
    rcases ho k hk with h | h
    · exact h2 k h hm
    · have := G.lts k hm; omega
  have R3 : RepS w3 x tb' mb' (nextP σ p) := RepR.of_chg (R1.quiet q2) hchm (fun k hx hr => hap k hr hx)
  have z0 := h1.size
  have z1 := hch.size
  have z2 := q2.size
  have z3 := hchm.size
  refine ⟨rfl, fun k => S k ∨ (w.heap.size ≤ k ∧ k < w1.heap.size), ((h1.trans (hch.mono (fun k _ h => (h5 k (h3 k h)).1))).trans (q2.chg _)).trans (hchm.mono (fun k _ h => (h5 k (h4 k h)).1)), fun k hk => ?_, inv_next I p, tb', mb', gx, gy, R3, G3, hap, fun k hk => ?_, fun k hk => .inl (h4 k hk)⟩
  · rcases hk with hk | hk
    · exact ⟨(h5 k hk).1, by have := (h5 k hk).2; omega⟩
    · omega
  · rcases ho k hk with h | h
    · exact .inl (h3 k h)
    · exact .inr ⟨by omega, R1.lts k hk⟩

def keepPost (w : World) (e : Ending) (w' : World) : Prop := e = .returned (.int .i64 (-1)) ∧ Below w.heap.size w w'

set_option maxHeartbeats 4000000 in
set_option maxRecDepth 100000 in
theorem keepsUpTo_any (w : World) (a : Option Addr) (len cap : Nat) (ops : List Opr) (ho : IsOps w a len cap ops) :
    Calls Try.prog 7 #[.slice a len cap] w (keepPost w) := by
  have hlen := ho.small
  have hnew := new_any w
  unfold newPost at hnew
  go_enter Try.func7, Try.ntmps7
  go_wp2_with fail
  refine hnew.mono ?_
  clear hnew
  rintro e w1 ⟨x, tb, mb, rfl, q1, ho1, R1⟩
  have q1H := hide (⟨q1, ho1, R1⟩ : _ ∧ _ ∧ _)
  clear q1 ho1 R1
  have hmk := make30
  go_wp2
  go_cut [4] (fun gv wx => GN w1 wx gv)
  case first =>
    go_region
    all_goals
      go_wp2
      go_meet
      case rel => first | with_reducible exact gn1 w1 | with_reducible exact gn2 w1
  case rest =>
    obtain ⟨g, gx, gy, rfl, q2, ho2, G2⟩ := hcut
    have hk3 := kept_new (unhide q1H).1 (unhide q1H).2.1 (unhide q1H).2.2 q2 ho2 G2
    clear q1H q2 ho2 G2 hmk
    have hfa := hide (facts_any wc)
    have hk3H := hide hk3
    clear hk3
    unfold okPost at hfa
    go_wp2_with fail
    refine (unhide hfa).mono ?_
    clear hfa
    rintro e w3 ⟨rfl, q3⟩
    have hk4 := (unhide hk3H).quiet q3
    clear q3 hk3H
    have hho := hide hk4.holds
    have hk4H := hide hk4
    clear hk4
    unfold okPost at hho
    go_wp2_with fail
    refine (unhide hho).mono ?_
    clear hho
    rintro e w4 ⟨rfl, q4⟩
    have hk5 : Hid (∃ S σ, Kept w S w4 x g σ) := ⟨_, _, (unhide hk4H).quiet q4⟩
    clear q4 hk4H
    go_wp2
    go_loopw [5] (fun i wr => ∃ (j : Nat) (S : Nat → Prop) (σ : St), j ≤ len ∧ i = .int .i64 j ∧ Kept w S wr x g σ) (fun i _ => len - (intOf i).toNat)
    case atStart =>
      obtain ⟨S, σ, hb⟩ := unhide hk5
      exact ⟨0, S, σ, Nat.zero_le _, rfl, hb⟩
    case round =>
      clear hk5
      obtain ⟨j, S, σ, hj, rfl, hb⟩ := hrel
      have hbel : Below w.heap.size w wr := hb.chg.below _ (Nat.le_refl _) (fun _ h => h)
      have hbelH := hide hbel
      clear hbel
      by_cases hlt : j < len
      · by_cases hmax : (j : Int) < 4398046511104
        · have hjo : j < ops.length := by rw [ho.count]; exact hlt
          obtain ⟨sb, so, rfl, hsb, k0, k1, k2, k3, k4, k5⟩ := ho.cells j hjo
          generalize ops[j] = o at *
          obtain ⟨ok, oa, ob, oc, os, ot⟩ := o
          simp only at k0 k1 k2 k3 k4 k5
          have i1 : (0 : Int) ≤ (j : Int) := by omega
          have i2 : (j : Int) < (len : Int) := by omega
          have g1 : decide (j < len) = true := by simpa using hlt
          have hbl := unhide hbelH
          rw [← hbl.cell (p := ⟨sb, so + j * 6, none⟩) hsb] at k0
          rw [← hbl.cell (p := ⟨sb, so + j * 6 + 1, none⟩) hsb] at k1
          rw [← hbl.cell (p := ⟨sb, so + j * 6 + 2, none⟩) hsb] at k2
          rw [← hbl.cell (p := ⟨sb, so + j * 6 + 3, none⟩) hsb] at k3
          rw [← hbl.cell (p := ⟨sb, so + j * 6 + 4, none⟩) hsb] at k4
          rw [← hbl.cell (p := ⟨sb, so + j * 6 + 5, none⟩) hsb] at k5
          have nS : ¬ S sb := fun h => by have := (hb.rng _ h).1; omega
          clear hbl
          have jH := hide (And.intro hlt hmax)
          obtain ⟨⟨ye, yn, ym, ys⟩, hdo⟩ := kept_step hb ⟨ok, oa, ob, oc, os, ot⟩
          simp only at hdo
          have hdoH := hide hdo
          clear hdo hb hj hjo hbelH hlt
          go_wp2_with fail
          refine (unhide hdoH).mono ?_
          clear hdoH
          rintro e w5 ⟨rfl, hch5, hst⟩
          have q6 : Quiet w5 (w5.alloc (.cells #[.int .i64 ye, .int .i64 yn, .int .i64 ym, .string ys] 36)) := (Chg.refl _ _).alloc _
          have l0 := Quiet.cell q6 (hch5.cell k0 nS)
          have l1 := Quiet.cell q6 (hch5.cell k1 nS)
          have l2 := Quiet.cell q6 (hch5.cell k2 nS)
          have l3 := Quiet.cell q6 (hch5.cell k3 nS)
          have l4 := Quiet.cell q6 (hch5.cell k4 nS)
          have l5 := Quiet.cell q6 (hch5.cell k5 nS)
          have bx : Hid (Blk (w5.alloc (.cells #[.int .i64 ye, .int .i64 yn, .int .i64 ym, .string ys] 36)) w5.heap.size 36 [.int .i64 ye, .int .i64 yn, .int .i64 ym, .string ys]) := Blk.new w5 36 [.int .i64 ye, .int .i64 yn, .int .i64 ym, .string ys]
          have hstH : Hid (∀ n, _) := fun n => hst ((w5.alloc (.cells #[.int .i64 ye, .int .i64 yn, .int .i64 ym, .string ys] 36)).drewN n) (Chg.drewN q6 n)
          clear k0 k1 k2 k3 k4 k5 hch5 hst q6 nS
          go_wp2
          generalize w5.alloc (.cells #[.int .i64 ye, .int .i64 yn, .int .i64 ym, .string ys] 36) = W6 at *
          have x0 := (unhide bx).cell 0
          have x1 := (unhide bx).cell 1
          have x2 := (unhide bx).cell 2
          have x3 := (unhide bx).cell 3
          simp at x0 x1 x2 x3
          refine wp_region_noPanic ?_
          try simp only [List.append_eq, List.cons_append, List.nil_append]
          refine wp_region_mix [(0, true), (1, true), (2, true), (3, true), (4, true), (5, true), (6, true)] [7, 8] (by kernel_rfl) (by kernel_rfl) (fun _ _ _ _ _ h => h) ?_
          simp only [pickM, pickO, List.getElem?_cons_zero, List.getElem?_cons_succ]
          repeat (first | (refine wpMix_read rfl (fun K hK => ?_)) | (refine wpMix_pure rfl (fun K hK => ?_))
                  go_big_quiet_op
                  first | (refine hK _ ?_; clear hK K))
          refine wpMix_nil ?_
          intro _ hw'
          obtain ⟨nq, hw''⟩ := hw'
          subst hw''
          clear l0 l1 l2 l3 l4 l5 x0 x1 x2 x3 bx
          have hs2 := hide (unhide hstH nq)
          clear hstH
          go_wp2_with fail
          refine (unhide hs2).mono ?_
          clear hs2
          rintro e w7 ⟨rfl, S7, hk7⟩
          have hho := hide hk7.holds
          have hk7H := hide hk7
          clear hk7
          unfold okPost at hho
          go_wp2
          refine NoPanic.normal ?_
          go_wp2_with fail
          refine (unhide hho).mono ?_
          clear hho
          rintro e w8 ⟨rfl, q8⟩
          have hk8 := hide ((unhide hk7H).quiet q8)
          clear q8 hk7H
          go_wp2
          go_roundw
          case rel => exact ⟨j + 1, _, _, (unhide jH).1, by go_num, unhide hk8⟩
          case measure =>
            obtain ⟨h1, h2⟩ := unhide jH
            simp [intOf]; omega
        · have g1 : decide (j < len) = true := by simpa using hlt
          have g2 : ¬ (j : Int) < 4398046511104 := hmax
          have g3 : ¬ (len : Int) < 4398046511104 := by omega
          clear hb hmax
          unfold keepPost
          go_wp2
          go_ret
          exact ⟨rfl, unhide hbelH⟩
      · have g1 : decide (j < len) = false := by simpa using hlt
        have g2 : ¬ (j : Int) < (len : Int) := by omega
        clear hb
        by_cases g3 : (len : Int) < 4398046511104
        · unfold keepPost
          go_wp2
          go_ret
          exact ⟨rfl, unhide hbelH⟩
        · unfold keepPost
          go_wp2
          go_ret
          exact ⟨rfl, unhide hbelH⟩

theorem keeps_any (w : World) (a : Option Addr) (len cap : Nat) (ops : List Opr) (ho : IsOps w a len cap ops) :
    Calls Try.prog 3 #[.slice a len cap] w fun e w' => e = .returned (.bool true) ∧ Below w.heap.size w w' := by
  have h := keepsUpTo_any w a len cap ops ho
  unfold keepPost at h
  go_enter Try.func3, Try.ntmps3
  go_wp2_with fail
  refine h.mono ?_
  rintro e w1 ⟨rfl, bel⟩
  go_wp2
  go_ret
  exact ⟨rfl, bel⟩
end Go.Proofs.Qxb6500366a
