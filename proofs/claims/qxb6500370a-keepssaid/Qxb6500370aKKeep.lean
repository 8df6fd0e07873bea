/-
  THE WALK OF Keeps. (gen70kkeep.py)
-/
import Derived.Test.Qxb6500370aKStep
import Derived.Test.Qxb6500370aRefine
namespace Go.Proofs.Qxb6500370a
open Go.RowKit Go.Qx
set_option linter.unusedSimpArgs false
set_option linter.unusedVariables false

/-! ### The words stay words of letters. -/
theorem kok_next {σ : St} (h : KOk σ) (o : Opr) : KOk (nextP σ o) := by
  refine ⟨ok_next h.ok o, ?_, ?_, ?_⟩
  · unfold nextP
    split
    · unfold putS
      split
      · exact h.ws
      · split
        · exact h.ws
        · rename_i h1 h2
          have hl := parse_LW o.s (by omega)
          intro l hm
          dsimp only at hm
          split at hm
          · rcases List.mem_append.1 hm with h' | h'
            · exact h.ws l h'
            · rw [List.mem_singleton.1 h']; exact hl
          · rcases List.mem_or_eq_of_mem_set hm with h' | h'
            · exact h.ws l h'
            · rw [h']; exact hl
    · split
      · unfold startP; split <;> exact h.ws
      · split
        · unfold guessP
          repeat' split
          all_goals exact h.ws
        · exact h.ws
  · unfold nextP
    split
    · unfold putS
      repeat' split
      all_goals exact h.ts
    · split
      · unfold startP
        split
        · exact h.ts
        · intro l hl; simp at hl
      · split
        · unfold guessP
          split
          · exact h.ts
          · rename_i h1
            split
            · exact h.ts
            · split
              · exact h.ts
              · intro l hm
                dsimp only at hm
                rcases List.mem_append.1 hm with h' | h'
                · exact h.ts l h'
                · rw [List.mem_singleton.1 h']
                  have hj : o.a.toNat < σ.ws.length := by omega
                  rw [List.getD_eq_getElem?_getD, List.getElem?_eq_getElem hj]
                  exact h.ws _ (List.getElem_mem hj)
        · exact h.ts
  · unfold nextP
    split
    · unfold putS
      repeat' split
      all_goals exact h.sec
    · split
      · unfold startP
        split
        · exact h.sec
        · rename_i h1
          intro _
          have hj : o.a.toNat < σ.ws.length := by omega
          dsimp only
          rw [List.getD_eq_getElem?_getD, List.getElem?_eq_getElem hj]
          exact h.ws _ (List.getElem_mem hj)
      · split
        · unfold guessP
          repeat' split
          all_goals exact h.sec
        · exact h.sec
theorem kok_none : KOk St.none := ⟨St.none_ok, by simp [St.none], by simp [St.none], by simp [St.none]⟩

/-- The real game and the ghosts, apart from each other, in the blocks of S, which are new. -/
structure KB (W : World) (S : Nat → Prop) (w : World) (x g : Nat) (σ : St) : Prop where
  chg : Chg (fun k => W.heap.size ≤ k) W w
  rng : ∀ k, S k → W.heap.size ≤ k ∧ k < w.heap.size
  ok : KOk σ
  reps : ∃ O OH, RRep w O x σ ∧ GhR w OH g σ ∧ (∀ k, O k → ¬ OH k) ∧ (∀ k, O k → S k) ∧ ∀ k, OH k → S k
theorem KB.quiet {W w w' : World} {S : Nat → Prop} {x g : Nat} {σ : St} (h : KB W S w x g σ) (qu : Quiet w w') : KB W S w' x g σ := by
  obtain ⟨h1, h5, I, O, OM, R, M, h2, h3, h4⟩ := h
  exact ⟨h1.trans (qu.chg _), fun k hk => ⟨(h5 k hk).1, Nat.lt_of_lt_of_le (h5 k hk).2 qu.size⟩, I, O, OM, R.quiet qu, M.quiet qu, h2, h3, h4⟩
theorem kb_new {W w1 : World} {x : Nat} {O : Nat → Prop} (R1 : RRep w1 O x St.none) (q1 : Quiet W w1) (ho1 : ∀ k, O k → W.heap.size ≤ k) : KB W (fun k => W.heap.size ≤ k ∧ k < w1.heap.size + 1) (w1.alloc (.cells #[.slice none 0 0, .slice none 0 0, .slice none 0 0, .string ⟨#[]⟩, .bool false, .bool false] 35)) x w1.heap.size St.none := by
  have q2 : Quiet w1 (w1.alloc (.cells #[.slice none 0 0, .slice none 0 0, .slice none 0 0, .string ⟨#[]⟩, .bool false, .bool false] 35)) := (Chg.refl _ _).alloc _
  have hz := q1.size
  have hsz : (w1.alloc (.cells #[.slice none 0 0, .slice none 0 0, .slice none 0 0, .string ⟨#[]⟩, .bool false, .bool false] 35)).heap.size = w1.heap.size + 1 := by simp
  refine ⟨Quiet.chg (q1.trans q2) _, fun k hk => ⟨hk.1, by rw [hsz]; exact hk.2⟩, kok_none, _, fun k => k = w1.heap.size, R1.tight.quiet q2, ⟨.slice none 0 0, .slice none 0 0, .slice none 0 0, ⟨Blk.new w1 35 (hcs (.slice none 0 0) (.slice none 0 0) (.slice none 0 0) St.none), Row.nil _ _ _, Row.nil _ _ _, Row.nil _ _ _, by simp [Value.ownBlock], by simp [Value.ownBlock], by simp [Value.ownBlock], by simp [Value.ownBlock], by simp [Value.ownBlock], by simp [Value.ownBlock]⟩, ?_⟩, ?_, ?_, ?_⟩
  · rintro k (rfl | h | h | h)
    · rfl
    · simp [Value.ownBlock] at h
    · simp [Value.ownBlock] at h
    · simp [Value.ownBlock] at h
  · rintro k ⟨_, h1⟩ rfl; omega
  · rintro k ⟨hk, h1⟩; exact ⟨ho1 k hk, by omega⟩
  · rintro k rfl; exact ⟨hz, by omega⟩

/-! ### looks. -/
set_option maxHeartbeats 4000000 in
set_option maxRecDepth 100000 in
theorem looks_any (W w : World) (S : Nat → Prop) (x g : Nat) (σ : St) (hb : KB W S w x g σ) : Calls Try.prog 16 #[.pointer (some ⟨x, 0, none⟩), .pointer (some ⟨g, 0, none⟩)] w fun e w' => e = .returned (.bool true) ∧ KB W S w' x g σ := by
  have I := hb.ok
  obtain ⟨O, OH, R, M, _, _, _⟩ := hb.reps
  have h1 : Hid (Calls Try.prog 21 #[.pointer (some ⟨x, 0, none⟩)] w fun e w' => e = .returned (.string (str (candP σ))) ∧ Quiet w w') := by
    obtain ⟨vb, vt, vs, L, R1, _⟩ := R
    exact cands_any w x vb vt vs L σ I.ok R1
  have h2 : Hid (∀ w1, Quiet w w1 → Calls Try.prog 27 #[.pointer (some ⟨g, 0, none⟩)] w1 fun e w' => e = .returned (.string (str (candP σ))) ∧ Quiet w1 w') := by
    show ∀ w1, _
    intro w1 q
    obtain ⟨vb, vt, vs, R1, _⟩ := M.quiet q
    exact kcands_any w1 g vb vt vs σ I R1
  have h3 : Hid (∀ w1, Quiet w w1 → Calls Try.prog 23 #[.pointer (some ⟨x, 0, none⟩)] w1 fun e w' => e = .returned (.string (str (showP σ))) ∧ Quiet w1 w') := by
    show ∀ w1, _
    intro w1 q
    obtain ⟨vb, vt, vs, L, R1, _⟩ := R.quiet q
    exact show_any w1 x vb vt vs L σ I.ok R1
  have h4 : Hid (∀ w1, Quiet w w1 → Calls Try.prog 29 #[.pointer (some ⟨g, 0, none⟩)] w1 fun e w' => e = .returned (.string (str (showP σ))) ∧ Quiet w1 w') := by
    show ∀ w1, _
    intro w1 q
    obtain ⟨vb, vt, vs, R1, _⟩ := M.quiet q
    exact kshow_any w1 g vb vt vs σ I R1
  have hbH := hide hb
  clear hb R M I
  have hX : ((str (showP σ)).toList == (str (showP σ)).toList) = true := by simp
  have hY : ((str (candP σ)).toList == (str (candP σ)).toList) = true := by simp
  generalize str (showP σ) = ss at *
  generalize str (candP σ) = cc at *
  go_enter Try.func16, Try.ntmps16
  go_wp2_with fail
  refine (unhide h1).mono ?_
  clear h1
  rintro e w1 ⟨rfl, q1⟩
  have h2' := hide (unhide h2 w1 q1)
  clear h2
  have Q1 := hide q1
  clear q1
  go_wp2_with fail
  refine (unhide h2').mono ?_
  clear h2'
  rintro e w2 ⟨rfl, q2⟩
  have Q2 := hide (Quiet.trans (unhide Q1) q2)
  have h3' := hide (unhide h3 w2 (unhide Q2))
  clear h3 q2 Q1
  go_wp2_with fail
  refine (unhide h3').mono ?_
  clear h3'
  rintro e w3 ⟨rfl, q3⟩
  have Q3 := hide (Quiet.trans (unhide Q2) q3)
  have h4' := hide (unhide h4 w3 (unhide Q3))
  clear h4 q3 Q2
  go_wp2_with fail
  refine (unhide h4').mono ?_
  clear h4'
  rintro e w4 ⟨rfl, q4⟩
  have hb4 := hide ((unhide hbH).quiet (Quiet.trans (unhide Q3) q4))
  clear q4 Q3 hbH
  go_wp2
  go_ret
  exact ⟨rfl, unhide hb4⟩

/-! ### step. -/
theorem kstep_any (w : World) (O OH : Nat → Prop) (x g : Nat) (σ : St) (p : Opr) (hs : p.s.size ≤ maxLen) (ok : KOk σ) (R : RRep w O x (nextP σ p)) (H : GhR w OH g σ) (hd : ∀ k, O k → ¬ OH k) (lO : ∀ k, O k → k < w.heap.size) (lH : ∀ k, OH k → k < w.heap.size) :
    Calls Try.prog 15 #[ptr x, ptr g, opv p.k p.a p.b p.c p.s p.t, ansv (ansP σ p).e (ansP σ p).n (ansP σ p).s] w (KPost w O OH x g (nextP σ p)) := by
  obtain ⟨pk, pa, pb, pc, ps, pt⟩ := p
  have same : nextP σ ⟨pk, pa, pb, pc, ps, pt⟩ = σ → ∀ e w', e = .returned (.bool true) ∧ Quiet w w' → KPost w O OH x g (nextP σ ⟨pk, pa, pb, pc, ps, pt⟩) e w' := by
    intro h e w' hq
    rw [h] at R ⊢
    exact KPost.same R H hd hq.2 hq.1
  have lift : ∀ {Q : Prop}, Q → Q := fun h => h
  by_cases h1 : pk = 1
  · subst h1
    have e1 : ansP σ ⟨1, pa, pb, pc, ps, pt⟩ = ⟨(putS σ pa ps).2.1, 0, str (putS σ pa ps).1⟩ := by simp [ansP]
    have e2 : nextP σ ⟨1, pa, pb, pc, ps, pt⟩ = (putS σ pa ps).2.2 := by simp [nextP]
    rw [e2] at R ⊢
    rw [e1]
    exact kstep1 w x g pa pb pc ps pt _ _ _ (fun W => KPost W O OH x g (putS σ pa ps).2.2) (fun W e w' q h => KPost.from q h) (fun W e w' h => h.1)
      (fun W q => kput_any W O OH x g σ pa pb pc ps pt hs ok (R.quiet q) (H.quiet q) hd (fun k hk => Nat.lt_of_lt_of_le (lO k hk) q.size) (fun k hk => Nat.lt_of_lt_of_le (lH k hk) q.size))
  by_cases h2 : pk = 2
  · subst h2
    have e1 : ansP σ ⟨2, pa, pb, pc, ps, pt⟩ = ⟨(startP σ pa pb).1, 0, ⟨#[]⟩⟩ := by simp [ansP]
    have e2 : nextP σ ⟨2, pa, pb, pc, ps, pt⟩ = (startP σ pa pb).2 := by simp [nextP]
    rw [e2] at R ⊢
    rw [e1]
    exact (kstep2 w OH x g σ pa pb pc ps pt ok H lH).mono fun e w' h => HPost.keep (Chg.refl _ _) R lO hd h
  by_cases h3 : pk = 3
  · subst h3
    have e1 : ansP σ ⟨3, pa, pb, pc, ps, pt⟩ = ⟨(guessP σ pa).2.1, 0, str (guessP σ pa).1⟩ := by simp [ansP]
    have e2 : nextP σ ⟨3, pa, pb, pc, ps, pt⟩ = (guessP σ pa).2.2 := by simp [nextP]
    rw [e2] at R ⊢
    rw [e1]
    exact kstep3 w x g pa pb pc ps pt _ _ _ (KPost w O OH x g (guessP σ pa).2.2) (fun e w' h => h.1)
      (fun W q => (kguess_any W OH g σ pa pb pc ps pt ok (H.quiet q) (fun k hk => Nat.lt_of_lt_of_le (lH k hk) q.size)).mono fun e w' h => HPost.keep q R lO hd h)
  have e2 : nextP σ ⟨pk, pa, pb, pc, ps, pt⟩ = σ := by simp [nextP, h1, h2, h3]
  by_cases h4 : pk = 4
  · subst h4
    have e1 : ansP σ ⟨4, pa, pb, pc, ps, pt⟩ = ⟨0, 0, str (candP σ)⟩ := by simp [ansP]
    rw [e1]
    exact (kstep4 w x g pa pb pc ps pt _ (fun W q => by obtain ⟨vb, vt, vs, R1, _⟩ := H.quiet q; exact kcands_any W g vb vt vs σ ok R1)).mono (same e2)
  by_cases h5 : pk = 5
  · subst h5
    have e1 : ansP σ ⟨5, pa, pb, pc, ps, pt⟩ = ⟨(shareP σ).2, 0, str (shareP σ).1⟩ := by simp [ansP]
    rw [e1]
    exact (kstep5 w x g pa pb pc ps pt _ _ (fun W q => by obtain ⟨vb, vt, vs, R1, _⟩ := H.quiet q; exact kshare_any W g vb vt vs σ ok R1)).mono (same e2)
  by_cases h6 : pk = 6
  · subst h6
    have e1 : ansP σ ⟨6, pa, pb, pc, ps, pt⟩ = ⟨0, 0, str (showP σ)⟩ := by simp [ansP]
    rw [e1]
    exact (kstep6 w x g pa pb pc ps pt _ (fun W q => by obtain ⟨vb, vt, vs, R1, _⟩ := H.quiet q; exact kshow_any W g vb vt vs σ ok R1)).mono (same e2)
  by_cases h7 : pk = 7
  · subst h7
    have e1 : ansP σ ⟨7, pa, pb, pc, ps, pt⟩ = ⟨0, 1, ⟨#[]⟩⟩ := by simp [ansP]
    rw [e1]
    exact (kstep7 w x g pa pb pc ps pt).mono (same e2)
  have e1 : ansP σ ⟨pk, pa, pb, pc, ps, pt⟩ = ⟨0, 0, ⟨#[]⟩⟩ := by simp [ansP, h1, h2, h3, h4, h5, h6, h7]
  rw [e1]
  exact (kstep0 w x g pk pa pb pc ps pt (by simpa using h1) (by simpa using h2) (by simpa using h3) (by simpa using h4) (by simpa using h5) (by simpa using h6) (by simpa using h7)).mono (same e2)

/-- A step that is played and kept. -/
theorem kb_step {W w : World} {S : Nat → Prop} {x g : Nat} {σ : St} (h : KB W S w x g σ) (p : Opr) (hs : p.s.size ≤ maxLen) :
    ∃ X : An, Calls Try.prog 14 #[.pointer (some ⟨x, 0, none⟩), .agg #[.int .i64 p.k, .int .i64 p.a, .int .i64 p.b, .int .i64 p.c, .string p.s, .string p.t]] w fun e w1 => e = .returned (.agg #[.int .i64 X.e, .int .i64 X.n, .string X.s]) ∧
      Chg S w w1 ∧
      ∀ w2, Quiet w1 w2 → Calls Try.prog 15 #[.pointer (some ⟨x, 0, none⟩), .pointer (some ⟨g, 0, none⟩), .agg #[.int .i64 p.k, .int .i64 p.a, .int .i64 p.b, .int .i64 p.c, .string p.s, .string p.t], .agg #[.int .i64 X.e, .int .i64 X.n, .string X.s]] w2 fun e w3 => e = .returned (.bool true) ∧
        ∃ S', KB W S' w3 x g (nextP σ p) := by
  obtain ⟨h1, h5, I, O, OH, R, M, h2, h3, h4⟩ := h
  refine ⟨ansP σ p, ?_⟩
  have lO : ∀ k, O k → k < w.heap.size := fun k hk => (h5 k (h3 k hk)).2
  have lH : ∀ k, OH k → k < w.heap.size := fun k hk => (h5 k (h4 k hk)).2
  refine Calls.mono (do_any w O x σ R lO I.ok p hs) ?_
  rintro e w1 ⟨rfl, hch, O', R1', ho⟩
  have R1 := R1'.tight
  have M1 : GhR w1 OH g σ := M.of_chg hch (fun k hk ho => h2 k ho hk)
  refine ⟨rfl, hch.mono (fun k _ h => h3 k h), ?_⟩
  intro w2 q2
  have z0 := h1.size
  have z1 := hch.size
  have z2 := q2.size
  have hd2 : ∀ k, (O' k ∧ k < w1.heap.size) → ¬ OH k := by
    rintro k ⟨hk, _⟩ hh
    rcases ho k hk with h | h
    · exact h2 k h hh
    · have := lH k hh; omega
  refine Calls.mono (kstep_any w2 (fun k => O' k ∧ k < w1.heap.size) OH x g σ p hs I (R1.quiet q2) (M1.quiet q2) hd2 (fun k hk => by have := hk.2; omega) (fun k hk => by have := lH k hk; omega)) ?_
  rintro e w3 ⟨rfl, O3, OH3, R3, M3, c3, o3, oh3, d3⟩
  refine ⟨rfl, ?_⟩
  have z3 := c3.size
  have Z : ∀ k, (O' k ∧ k < w1.heap.size) → S k ∨ w.heap.size ≤ k := by
    rintro k ⟨hk, _⟩
    rcases ho k hk with h | h
    · exact .inl (h3 k h)
    · exact .inr (by omega)
  refine ⟨fun k => (S k ∨ w.heap.size ≤ k) ∧ k < w3.heap.size, ((h1.trans (hch.mono (fun k _ h => (h5 k (h3 k h)).1))).trans (q2.chg _)).trans (c3.mono (fun k _ h => ?_)), fun k hk => ?_, kok_next I p, _, _, R3.tight, M3.tight, ?_, ?_, ?_⟩
  · rcases h with h | h
    · rcases Z k h with h | h
      · exact (h5 k h).1
      · omega
    · exact (h5 k (h4 k h)).1
  · refine ⟨?_, hk.2⟩
    rcases hk.1 with h | h
    · exact (h5 k h).1
    · omega
  · rintro k ⟨hk, _⟩ ⟨hh, _⟩; exact d3 k hk hh
  · rintro k ⟨hk, hlt⟩
    refine ⟨?_, hlt⟩
    rcases o3 k hk with h | h
    · exact Z k h
    · exact .inr (by omega)
  · rintro k ⟨hk, hlt⟩
    refine ⟨?_, hlt⟩
    rcases oh3 k hk with h | h
    · exact .inl (h4 k h)
    · exact .inr (by omega)
theorem quiet_of_below {w w' : World} (h : Below w.heap.size w w') : Quiet w w' := Chg.of_below h _

set_option maxHeartbeats 4000000 in
set_option maxRecDepth 100000 in
theorem keepsUpTo_any (w : World) (a : Option Addr) (len cap : Nat) (ops : List Opr) (ho : IsOps w a len cap ops) :
    Calls Try.prog 8 #[.slice a len cap] w fun e w' => e = .returned (.int .i64 (-1)) ∧ Below w.heap.size w w' := by
  have hlen := ho.small
  have hnew := new_rep w
  unfold ptr at hnew
  go_enter Try.func8, Try.ntmps8
  go_wp2_with fail
  refine hnew.mono ?_
  clear hnew
  rintro e w1 ⟨x, O, rfl, R1, q1, ho1⟩
  have hb1 := kb_new R1 q1 ho1
  clear R1 q1 ho1
  obtain ⟨W1, hW1⟩ : ∃ W, w1.alloc (.cells #[.slice none 0 0, .slice none 0 0, .slice none 0 0, .string ⟨#[]⟩, .bool false, .bool false] 35) = W := ⟨_, rfl⟩
  rw [hW1] at hb1
  obtain ⟨g, hg⟩ : ∃ g, w1.heap.size = g := ⟨_, rfl⟩
  rw [hg] at hb1
  have htx := hide (texts_any W1)
  have hb1H := hide hb1
  clear hb1
  go_wp2_with fail
  refine (unhide htx).mono ?_
  clear htx hW1 hg
  rintro e w2 ⟨rfl, bel2⟩
  have hb2H := hide ((unhide hb1H).quiet (quiet_of_below bel2))
  have hrg := hide (ranges_any w2)
  clear bel2 hb1H
  go_wp2_with fail
  refine (unhide hrg).mono ?_
  clear hrg
  rintro e w3 ⟨rfl, bel3⟩
  have hb4 : Hid (∃ S σ, KB w S w3 x g σ) := ⟨_, _, (unhide hb2H).quiet (quiet_of_below bel3)⟩
  clear bel3 hb2H
  go_wp2
  go_loopw [5] (fun i wr => ∃ (j : Nat) (S : Nat → Prop) (σ : St), j ≤ len ∧ i = .int .i64 j ∧ KB w S wr x g σ) (fun i _ => len - (intOf i).toNat)
  case atStart =>
    obtain ⟨S, σ, hb⟩ := unhide hb4
    exact ⟨0, S, σ, Nat.zero_le _, rfl, hb⟩
  case round =>
    clear hb4
    obtain ⟨j, S, σ, hj, rfl, hb⟩ := hrel
    have hbel : Below w.heap.size w wr := hb.chg.below _ (Nat.le_refl _) (fun _ h => h)
    have hbelH := hide hbel
    clear hbel
    by_cases hlt : j < len
    · by_cases hmax : (j : Int) < 4398046511104
      · have hjo : j < ops.length := by rw [ho.count]; exact hlt
        obtain ⟨sb, so, rfl, hsb, k0, k1, k2, k3, k4, k5⟩ := ho.cells j hjo
        have hst := ho.strs j hjo
        generalize ops[j] = o at *
        obtain ⟨ok, oa, ob, oc, os, ot⟩ := o
        simp only at k0 k1 k2 k3 k4 k5 hst
        have i1 : (0 : Int) ≤ (j : Int) := by omega
        have i2 : (j : Int) < (len : Int) := by omega
        have g1 : decide (j < len) = true := by simpa using hlt
        have hbl := unhide hbelH
        rw [← hbl.cell (p := ⟨sb, so + j * 6, none⟩) hsb] at k0
        rw [← hbl.cell (p := ⟨sb, so + j * 6 + 1, none⟩) hsb] at k1
        rw [← hbl.cell (p := ⟨sb, so + j * 6 + 2, none⟩) hsb] at k2
        rw [← hbl.cell (p := ⟨sb, so + j * 6 + 3, none⟩) hsb] at k3
        rw [← hbl.cell (p := ⟨sb, so + j * 6 + 4, none⟩) hsb] at k4
        rw [← hbl.cell (p := ⟨sb, so + j * 6 + 5, none⟩) hsb] at k5
        clear hbl
        have jH := hide (And.intro hlt hmax)
        have hb0 := hb.quiet (w' := wr.alloc (.cells #[.int .i64 ok, .int .i64 oa, .int .i64 ob, .int .i64 oc, .string os, .string ot] 37)) ((Chg.refl _ _).alloc _)
        obtain ⟨⟨ye, yn, ys⟩, hdo⟩ := kb_step hb0 ⟨ok, oa, ob, oc, os, ot⟩ hst
        simp only at hdo
        have hdoH := hide hdo
        have bo := Blk.new wr 37 [.int .i64 ok, .int .i64 oa, .int .i64 ob, .int .i64 oc, .string os, .string ot]
        have nS : ¬ S wr.heap.size := fun h => by have := (hb.rng _ h).2; omega
        clear hdo hb hj hjo hb0 hst
        go_wp2_with fail
        refine (unhide hdoH).mono ?_
        clear hdoH k0 k1 k2 k3 k4 k5
        rintro e w5 ⟨rfl, hch5, hdom⟩
        have bo5 := hch5.blk bo nS
        obtain ⟨W6, hW6⟩ : ∃ W, w5.alloc (.cells #[.int .i64 ye, .int .i64 yn, .string ys] 39) = W := ⟨_, rfl⟩
        have bo6 : Blk W6 wr.heap.size 37 [.int .i64 ok, .int .i64 oa, .int .i64 ob, .int .i64 oc, .string os, .string ot] := by rw [← hW6]; exact bo5.alloc _
        have bx : Blk W6 w5.heap.size 39 [.int .i64 ye, .int .i64 yn, .string ys] := by rw [← hW6]; exact Blk.new w5 39 [.int .i64 ye, .int .i64 yn, .string ys]
        have q56 : Quiet w5 W6 := by rw [← hW6]; exact (Chg.refl _ _).alloc _
        have hdm := hide (hdom W6 q56)
        have o0 : W6.cell? ⟨wr.heap.size, 0, none⟩ = some (.int .i64 ok) := bo6.cell 0
        have o1 : W6.cell? ⟨wr.heap.size, 1, none⟩ = some (.int .i64 oa) := bo6.cell 1
        have o2 : W6.cell? ⟨wr.heap.size, 2, none⟩ = some (.int .i64 ob) := bo6.cell 2
        have o3 : W6.cell? ⟨wr.heap.size, 3, none⟩ = some (.int .i64 oc) := bo6.cell 3
        have o4 : W6.cell? ⟨wr.heap.size, 4, none⟩ = some (.string os) := bo6.cell 4
        have o5 : W6.cell? ⟨wr.heap.size, 5, none⟩ = some (.string ot) := bo6.cell 5
        have x0 : W6.cell? ⟨w5.heap.size, 0, none⟩ = some (.int .i64 ye) := bx.cell 0
        have x1 : W6.cell? ⟨w5.heap.size, 1, none⟩ = some (.int .i64 yn) := bx.cell 1
        have x2 : W6.cell? ⟨w5.heap.size, 2, none⟩ = some (.string ys) := bx.cell 2
        clear hdom hch5 bo bo5 bo6 bx q56
        go_wp2_with fail
        refine (unhide hdm).mono ?_
        clear hdm o0 o1 o2 o3 o4 o5 x0 x1 x2 hW6
        rintro e w7 ⟨rfl, S7, hb7⟩
        have hlk := hide (looks_any w w7 _ x g _ hb7)
        clear hb7
        go_wp2_with fail
        refine (unhide hlk).mono ?_
        clear hlk
        rintro e w9 ⟨rfl, hb9⟩
        have hb9H := hide hb9
        clear hb9
        go_wp2
        go_roundw
        case rel => exact ⟨j + 1, _, _, (unhide jH).1, by go_num, unhide hb9H⟩
        case measure =>
          obtain ⟨h1, h2⟩ := unhide jH
          simp [intOf]; omega
      · have g1 : decide (j < len) = true := by simpa using hlt
        have g2 : ¬ (j : Int) < 4398046511104 := hmax
        clear hb hmax
        go_wp2
        go_ret
        exact ⟨rfl, unhide hbelH⟩
    · have g1 : decide (j < len) = false := by simpa using hlt
      have g2 : ¬ (j : Int) < (len : Int) := by omega
      clear hb
      go_wp2
      go_ret
      exact ⟨rfl, unhide hbelH⟩
theorem keeps_any (w : World) (a : Option Addr) (len cap : Nat) (ops : List Opr) (ho : IsOps w a len cap ops) :
    Calls Try.prog 3 #[.slice a len cap] w fun e w' => e = .returned (.bool true) ∧ Below w.heap.size w w' := by
  go_enter Try.func3, Try.ntmps3
  go_wp2_with fail
  refine (keepsUpTo_any w a len cap ops ho).mono ?_
  rintro e w1 ⟨rfl, bel⟩
  go_wp2
  go_ret
  exact ⟨rfl, bel⟩
end Go.Proofs.Qxb6500370a
