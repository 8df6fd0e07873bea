/-
  THE MODEL: Guess. (gen70modx.py)
-/
import Derived.Test.Qxb6500370aModW
namespace Go.Proofs.Qxb6500370a
open Go.RowKit Go.Qx Go.Qx.Mk
set_option linter.unusedVariables false
set_option linter.unusedSimpArgs false

set_option maxHeartbeats 4000000 in
set_option maxRecDepth 100000 in
theorem mguess_any (w : World) (O : Nat → Prop) (M : Nat) (st : St) (ok : st.Ok) (h : MRep w O M st) (i : Int) : Calls Try.prog 45 #[ptr M, .int .i64 i] w (MPost w O M (guessP st i)) := by
  have hh := hide h
  obtain ⟨vb, vt, R, hO⟩ := h
  have hM := R.b.lt
  have cb : w.cell? ⟨M, 0, none⟩ = some vb := R.b.cell 0
  obtain ⟨x, cp, hx⟩ := R.rb.sl
  rw [hx] at cb
  unfold ptr
  by_cases hbad : i < 0 ∨ (st.ws.length : Int) ≤ i
  · have hp : guessP st i = ([], 5, st) := by unfold guessP; rw [if_pos hbad]
    rw [hp]
    have fin : Hid (∀ e, e = .returned (.tuple #[.string (str []), .int .i64 5]) → MPost w O M ([], 5, st) e w) := fun e he => MPost.same (unhide hh) (Chg.refl _ _) _ _ he
    clear R hO hp ok hh
    generalize st.ws.length = n at *
    rcases hbad with h1 | h1
    · clear cb hx
      go_enter Try.func45, Try.ntmps45
      go_wp2
      go_ret2
      exact unhide fin _ rfl
    · by_cases h0 : i < 0
      · clear cb hx
        go_enter Try.func45, Try.ntmps45
        go_wp2
        go_ret2
        exact unhide fin _ rfl
      · go_enter Try.func45, Try.ntmps45
        go_wp2
        go_ret2
        exact unhide fin _ rfl
  · obtain ⟨j, rfl⟩ : ∃ j : Nat, i = j := ⟨i.toNat, by omega⟩
    have hjl : j < st.ws.length := by omega
    have k1 : ¬ (j : Int) < 0 := by omega
    have k2 : ¬ (st.ws.length : Int) ≤ (j : Int) := by omega
    have k3 : (j : Int) < (st.ws.length : Int) := by omega
    have k4 : (0 : Int) ≤ (j : Int) := by omega
    have hon := on_any w M vb vt st ok R
    unfold ptr at hon
    by_cases hidle : idleB st = true
    · have hp : guessP st j = ([], 6, st) := by unfold guessP; rw [if_neg hbad, if_pos hidle]
      rw [hp]
      rw [hidle] at hon
      have fin : Hid (∀ e w', Quiet w w' → e = .returned (.tuple #[.string (str []), .int .i64 6]) → MPost w O M ([], 6, st) e w') := fun e w' q he => MPost.same (unhide hh) q _ _ he
      have honH := hide hon
      clear R hO hp ok hh hidle hbad hx hon
      generalize st.ws.length = n at *
      go_enter Try.func45, Try.ntmps45
      go_wp2_with fail
      refine (unhide honH).mono ?_
      clear honH
      rintro e w1 ⟨rfl, q1⟩
      have Q1 := hide q1
      clear q1
      go_wp2
      go_ret2
      exact unhide fin _ _ (unhide Q1) rfl
    · have hidle : idleB st = false := by simpa using hidle
      obtain ⟨hb, h6⟩ := idle_false hidle
      rw [hidle] at hon
      obtain ⟨g, cap, l, hlj, hv, r0, r1, r2, r3, r4, r5⟩ := R.rb.cells j hjl
      obtain ⟨h1, h2⟩ : x = some ⟨g, 0, none⟩ ∧ cp = cap := by
        have := hx.symm.trans hv
        simp at this; exact this
      subst h1; subst h2
      have hp : guessP st j = if st.hd && !agreeB st l then ([], 7, st) else (marksL (fw st.sec) (fw l), 0, { st with ts := st.ts ++ [l] }) := by
        have hgd : st.ws.getD (j : Int).toNat [] = l := by rw [Int.toNat_natCast, List.getD_eq_getElem?_getD, hlj]; rfl
        unfold guessP
        rw [if_neg hbad, if_neg (by rw [hidle]; simp), hgd]
      rw [hp]
      have hw : ∀ p, p < 5 → 0 ≤ fw l p := word_nonneg (ok.ws l (List.mem_of_getElem? hlj))
      have hMk : Hid (∀ W, Calls Try.prog 54 #[.agg #[Value.int .i64 (fw st.sec 0), Value.int .i64 (fw st.sec 1), Value.int .i64 (fw st.sec 2), Value.int .i64 (fw st.sec 3), Value.int .i64 (fw st.sec 4)], .agg #[Value.int .i64 (fw l 0), Value.int .i64 (fw l 1), Value.int .i64 (fw l 2), Value.int .i64 (fw l 3), Value.int .i64 (fw l 4)]] W fun e w' => e = .returned (.string (str (marksL (fw st.sec) (fw l)))) ∧ Quiet W w') := fun W => marksM_any W (fw st.sec) (fw l) hw
      have RH := hide (⟨R, hO, ok, hh⟩ : _ ∧ _ ∧ _ ∧ _)
      obtain ⟨N, hN⟩ : ∃ N, st.ws.length = N := ⟨_, rfl⟩
      rw [hN] at cb k2 k3 hv
      have hrest : Hid (∀ W0, Quiet w W0 → W0.cell? ⟨M, 0, none⟩ = some (.slice (some ⟨g, 0, none⟩) N cp) ∧ W0.cell? ⟨g, j * 6, none⟩ = some (.int .i64 (fw l 0)) ∧ W0.cell? ⟨g, j * 6 + 1, none⟩ = some (.int .i64 (fw l 1)) ∧ W0.cell? ⟨g, j * 6 + 2, none⟩ = some (.int .i64 (fw l 2)) ∧ W0.cell? ⟨g, j * 6 + 3, none⟩ = some (.int .i64 (fw l 3)) ∧ W0.cell? ⟨g, j * 6 + 4, none⟩ = some (.int .i64 (fw l 4)) ∧ W0.cell? ⟨g, j * 6 + 5, none⟩ = some (.string (str (txt l)))) :=
        fun W0 q => ⟨Quiet.cell q cb, Quiet.cell q r0, Quiet.cell q r1, Quiet.cell q r2, Quiet.cell q r3, Quiet.cell q r4, Quiet.cell q r5⟩
      have hvo : Hid (vb.ownBlock = some g) := by show _ = _; rw [hv]; rfl
      have honH := hide hon
      obtain ⟨x2, cp2, hx2⟩ := R.rt.sl
      obtain ⟨n, hn⟩ : ∃ n, st.ts.length = n := ⟨_, rfl⟩
      rw [hn] at hx2 h6
      have hnH := hide hn
      subst hx2
      clear R hO hp hh hidle hbad hx hon hb hlj hw hv hN hn ok
      have key : ∀ hdv agv, st.hd = hdv → agreeB st l = agv → Calls Try.prog 45 #[.pointer (some ⟨M, 0, none⟩), .int .i64 (j : Int)] w (MPost w O M (if hdv && !agv then ([], 7, st) else (marksL (fw st.sec) (fw l), 0, { st with ts := st.ts ++ [l] }))) := by
        intro hdv agv hhd hag
        have hhc : Hid (∀ W, Quiet w W → W.cell? ⟨M, 8, none⟩ = some (.bool hdv)) := by show ∀ W, _; rw [← hhd]; exact fun W q => Quiet.cell q ((unhide RH).1.b.cell 8)
        have hagr : Hid (∀ W, Quiet w W → Calls Try.prog 53 #[.pointer (some ⟨M, 0, none⟩), .agg #[.int .i64 (fw l 0), .int .i64 (fw l 1), .int .i64 (fw l 2), .int .i64 (fw l 3), .int .i64 (fw l 4), .string (str (txt l))]] W fun e w' => e = .returned (.bool agv) ∧ Quiet W w') := by
          show ∀ W, _
          intro W q
          rw [← hag]
          exact agrees_any W M _ _ st (unhide RH).2.2.1 ((unhide RH).1.quiet q) l (str (txt l))
        clear hhd hag
        have start : Hid True := trivial
        obtain ⟨tl, htl⟩ : ∃ t, str (txt l) = t := ⟨_, rfl⟩
        rw [htl] at hagr hrest r5
        have htlH := hide htl
        clear htl
        cases hdv with
        | false =>
          simp only [Bool.false_and, Bool.false_eq_true, if_false]
          go_enter Try.func45, Try.ntmps45
          go_wp2_with fail
          refine (unhide honH).mono ?_
          clear honH r0 r1 r2 r3 r4 r5 cb
          rintro e w1 ⟨rfl, q1⟩
          obtain ⟨cb, r0, r1, r2, r3, r4, r5⟩ := unhide hrest w1 q1
          have hal := hide (unhide hagr w1 q1)
          have Q1 := hide q1
          clear q1 hagr
          go_wp2_with fail
          refine (unhide hal).mono ?_
          clear hal cb r0 r1 r2 r3 r4 r5
          rintro e w2 ⟨rfl, q2⟩
          have Q2 := hide (Quiet.trans (unhide Q1) q2)
          have c8 := unhide hhc w2 (unhide Q2)
          clear q2 Q1 hhc
          go_wp2
          clear c8
          have R2 := (unhide RH).1.quiet (unhide Q2)
          obtain ⟨cb, r0, r1, r2, r3, r4, r5⟩ := unhide hrest w2 (unhide Q2)
          have bG := R2.b
          have hMW := bG.lt
          have c1 : w2.cell? ⟨M, 1, none⟩ = some (.slice x2 n cp2) := bG.cell 1
          have f1 := bG.frozen 1
          have row2 : Row w2 85 6 (.slice x2 n cp2) n (flatM st.ts) := by
            have h := R2.rt
            unfold MRow at h
            rwa [show st.ts.length = n from unhide hnH] at h
          have hgt := R2.gt
          have hgg : g < w2.heap.size := World.block_lt_of_cell? _ _ r0
          have hvg : (Value.slice x2 n cp2).ownBlock ≠ some g := R2.bt g (unhide hvo)
          have hgM : g ≠ M := fun e => R2.gb (by rw [unhide hvo, e])
          obtain ⟨i0', hi0, hz0, hz1, hz2⟩ := info_parts info85
          go_region_law
            ((refine step_append_row (by rfl) _ _ _ (by rfl) 85 i0' _ 6 56 und82 hi0 hz0 hz1 hz2 rfl (by omega) (.slice x2 n cp2) n (flatM st.ts) (by rfl) (row2.quiet (((Chg.refl _ _).alloc _).drew))
                ⟨w2.heap.size, 0, none⟩ 1 1 [Value.int .i64 (fw l 0), .int .i64 (fw l 1), .int .i64 (fw l 2), .int .i64 (fw l 3), .int .i64 (fw l 4), .string tl] (by rfl) (by rfl) (World.news_of_block (cs := #[.int .i64 (fw l 0), .int .i64 (fw l 1), .int .i64 (fw l 2), .int .i64 (fw l 3), .int .i64 (fw l 4), .string tl]) (t := 85) (fr := (0, 0)) (heap_alloc_new w2 _)) (by simp [Value.oneCell'])
                (by omega) (by unfold maxLen; omega) (by omega) (w2.heap.size + 1) (by simp) ?_
              intro g3 cap3 w3 row3 hch3 hat hlt
              have bG3 := hch3.blk ((bG.alloc (.cells #[.int .i64 (fw l 0), .int .i64 (fw l 1), .int .i64 (fw l 2), .int .i64 (fw l 3), .int .i64 (fw l 4), .string tl] 85)).drew) hgt
              have c3 : w3.cell? ⟨M, 1, none⟩ = some (.slice x2 n cp2) := bG3.cell 1
              have f3 := bG3.frozen 1))
          all_goals
            have hg3M : g3 ≠ M := fun e => by
              rcases hat with h | h
              · exact hgt (by rw [h, e])
              · omega
            have c4 : Chg (fun x' => x' = M ∨ (Value.slice x2 n cp2).ownBlock = some x') w2 (w3.setCell ⟨M, 1, none⟩ (.slice (some ⟨g3, 0, none⟩) (n + 1) cap3)) := ((((Chg.refl _ w2).alloc _).drew).trans (hch3.mono (fun _ _ h => .inr h))).setCell (.inl (.inl rfl)) _
            have b4 : Blk (w3.setCell ⟨M, 1, none⟩ (.slice (some ⟨g3, 0, none⟩) (n + 1) cap3)) M 87 (mcells vb (.slice (some ⟨g3, 0, none⟩) (n + 1) cap3) (fw st.sec) (secT st) st.hd) := bG3.set 1 _
            have rw4 : MRow (w3.setCell ⟨M, 1, none⟩ (.slice (some ⟨g3, 0, none⟩) (n + 1) cap3)) (.slice (some ⟨g3, 0, none⟩) (n + 1) cap3) (st.ts ++ [l]) := by
              have h := Row.of_chg row3 ((Chg.refl (fun x => x = M) w3).setCell (p := ⟨M, 1, none⟩) (.inl rfl) (.slice (some ⟨g3, 0, none⟩) (n + 1) cap3)) (fun x' hx' e => by simp [Value.ownBlock] at hx'; exact hg3M (by rw [hx', e]))
              rw [← unhide htlH] at h
              unfold MRow
              rw [List.length_append, show st.ts.length = n from unhide hnH, flatM_append]
              exact h
            have R4 := R2.tries c4 b4 rw4 (by rcases hat with h | h; exact .inl h; right; omega)
            have C4 : Hid (Chg O w (w3.setCell ⟨M, 1, none⟩ (.slice (some ⟨g3, 0, none⟩) (n + 1) cap3))) := Chg.trans' ((unhide Q2).chg O) c4 (fun x' _ h => (unhide RH).2.1 x' (by rcases h with h | h; exact .inl h; exact .inr (.inr h)))
            have hg3H : Hid ((Value.slice x2 n cp2).ownBlock = some g3 ∨ w.heap.size ≤ g3) := by
              rcases hat with h | h
              · exact .inl h
              · right; have := (unhide Q2).size; omega
            have hcell : ∀ o v, w2.cell? ⟨g, o, none⟩ = some v → (w3.setCell ⟨M, 1, none⟩ (.slice (some ⟨g3, 0, none⟩) (n + 1) cap3)).cell? ⟨g, o, none⟩ = some v := fun o v hc => Chg.cell c4 hc (by rintro (h | h); exact hgM h; exact hvg h)
            have p0 := hcell _ _ r0
            have p1 := hcell _ _ r1
            have p2 := hcell _ _ r2
            have p3 := hcell _ _ r3
            have p4 := hcell _ _ r4
            have cB4 : (w3.setCell ⟨M, 1, none⟩ (.slice (some ⟨g3, 0, none⟩) (n + 1) cap3)).cell? ⟨M, 0, none⟩ = some (.slice (some ⟨g, 0, none⟩) N cp) := by
              rw [b4.cell 0]
              rw [bG.cell 0] at cb
              exact cb
            clear c1 f1 row2 hgt row3 hch3 hat hlt bG3 c3 f3 hg3M c4 b4 rw4 bG R2 r0 r1 r2 r3 r4 r5 cb hcell
            generalize w3.setCell ⟨M, 1, none⟩ (.slice (some ⟨g3, 0, none⟩) (n + 1) cap3) = W4 at *
            have y0 : ∀ q : QW W4, q.w.cell? ⟨M, 0, none⟩ = some (.slice (some ⟨g, 0, none⟩) N cp) := fun q => Quiet.cell (QW.q q) cB4
            have y2 : ∀ q : QW W4, q.w.cell? ⟨M, 2, none⟩ = some (.int .i64 (fw st.sec 0)) := fun q => QW.blk R4.b q 2
            have y3 : ∀ q : QW W4, q.w.cell? ⟨M, 3, none⟩ = some (.int .i64 (fw st.sec 1)) := fun q => QW.blk R4.b q 3
            have y4 : ∀ q : QW W4, q.w.cell? ⟨M, 4, none⟩ = some (.int .i64 (fw st.sec 2)) := fun q => QW.blk R4.b q 4
            have y5 : ∀ q : QW W4, q.w.cell? ⟨M, 5, none⟩ = some (.int .i64 (fw st.sec 3)) := fun q => QW.blk R4.b q 5
            have y6 : ∀ q : QW W4, q.w.cell? ⟨M, 6, none⟩ = some (.int .i64 (fw st.sec 4)) := fun q => QW.blk R4.b q 6
            have u0 : ∀ q : QW W4, q.w.cell? ⟨g, j * 6, none⟩ = some (.int .i64 (fw l 0)) := fun q => Quiet.cell (QW.q q) p0
            have u1 : ∀ q : QW W4, q.w.cell? ⟨g, j * 6 + 1, none⟩ = some (.int .i64 (fw l 1)) := fun q => Quiet.cell (QW.q q) p1
            have u2 : ∀ q : QW W4, q.w.cell? ⟨g, j * 6 + 2, none⟩ = some (.int .i64 (fw l 2)) := fun q => Quiet.cell (QW.q q) p2
            have u3 : ∀ q : QW W4, q.w.cell? ⟨g, j * 6 + 3, none⟩ = some (.int .i64 (fw l 3)) := fun q => Quiet.cell (QW.q q) p3
            have u4 : ∀ q : QW W4, q.w.cell? ⟨g, j * 6 + 4, none⟩ = some (.int .i64 (fw l 4)) := fun q => Quiet.cell (QW.q q) p4
            have R4H := hide R4
            clear R4 p0 p1 p2 p3 p4 cB4
            obtain ⟨MM, hMM⟩ : ∃ m, str (marksL (fw st.sec) (fw l)) = m := ⟨_, rfl⟩
            rw [hMM] at hMk
            have hMMH := hide hMM
            clear hMM
            go_wp2
            refine wp_region_noPanic ?_
            try simp only [List.append_eq, List.cons_append, List.nil_append]
            refine wp_region_mixq [(0, true), (1, true), (2, true), (3, true), (4, true), (5, true), (6, true), (7, true), (8, true), (9, true), (10, true), (11, true), (12, true), (13, true), (14, true), (15, true)] [] (by kernel_rfl) (by kernel_rfl) (fun _ _ _ _ _ h => h) ?_
            simp only [pickM, pickO, List.getElem?_cons_zero, List.getElem?_cons_succ]
            repeat (first | (refine wpMix_read rfl (fun K hK => ?_)) | (refine wpMix_pure rfl (fun K hK => ?_))
                    go_big_quiet_op
                    first | (refine hK _ ?_; clear hK K) | (apply Exists.intro; refine ⟨fun _ => ?_, ?_⟩; (· (first | (go_at_call 54; exact Calls.in_qw (unhide hMk _)))); refine hK _ ?_; clear hK K))
            refine wpMix_nil ?_
            intro _ hw'
            obtain ⟨qq, hw''⟩ := hw'
            subst hw''
            have hqq := qq.q
            generalize qq.w = wq at *
            clear hMk y0 y2 y3 y4 y5 y6 u0 u1 u2 u3 u4
            have R5 := hide ((unhide R4H).quiet hqq)
            have C5 := hide ((unhide C4).trans (hqq.chg _))
            clear R4H C4 hqq
            go_wp2
            refine NoPanic.normal ?_
            go_wp2
            go_ret2
            exact mguess_fin (unhide RH).2.1 (unhide R5) (unhide C5) (unhide hg3H) _ _ _ (by rw [unhide hMMH]; rfl)
        | true =>
          cases agv with
          | true =>
            simp only [Bool.not_true, Bool.and_false, Bool.false_eq_true, if_false]
            go_enter Try.func45, Try.ntmps45
            go_wp2_with fail
            refine (unhide honH).mono ?_
            clear honH r0 r1 r2 r3 r4 r5 cb
            rintro e w1 ⟨rfl, q1⟩
            obtain ⟨cb, r0, r1, r2, r3, r4, r5⟩ := unhide hrest w1 q1
            have hal := hide (unhide hagr w1 q1)
            have Q1 := hide q1
            clear q1 hagr
            go_wp2_with fail
            refine (unhide hal).mono ?_
            clear hal cb r0 r1 r2 r3 r4 r5
            rintro e w2 ⟨rfl, q2⟩
            have Q2 := hide (Quiet.trans (unhide Q1) q2)
            have c8 := unhide hhc w2 (unhide Q2)
            clear q2 Q1 hhc
            go_wp2
            clear c8
            have R2 := (unhide RH).1.quiet (unhide Q2)
            obtain ⟨cb, r0, r1, r2, r3, r4, r5⟩ := unhide hrest w2 (unhide Q2)
            have bG := R2.b
            have hMW := bG.lt
            have c1 : w2.cell? ⟨M, 1, none⟩ = some (.slice x2 n cp2) := bG.cell 1
            have f1 := bG.frozen 1
            have row2 : Row w2 85 6 (.slice x2 n cp2) n (flatM st.ts) := by
              have h := R2.rt
              unfold MRow at h
              rwa [show st.ts.length = n from unhide hnH] at h
            have hgt := R2.gt
            have hgg : g < w2.heap.size := World.block_lt_of_cell? _ _ r0
            have hvg : (Value.slice x2 n cp2).ownBlock ≠ some g := R2.bt g (unhide hvo)
            have hgM : g ≠ M := fun e => R2.gb (by rw [unhide hvo, e])
            obtain ⟨i0', hi0, hz0, hz1, hz2⟩ := info_parts info85
            go_region_law
              ((refine step_append_row (by rfl) _ _ _ (by rfl) 85 i0' _ 6 56 und82 hi0 hz0 hz1 hz2 rfl (by omega) (.slice x2 n cp2) n (flatM st.ts) (by rfl) (row2.quiet (((Chg.refl _ _).alloc _).drew))
                  ⟨w2.heap.size, 0, none⟩ 1 1 [Value.int .i64 (fw l 0), .int .i64 (fw l 1), .int .i64 (fw l 2), .int .i64 (fw l 3), .int .i64 (fw l 4), .string tl] (by rfl) (by rfl) (World.news_of_block (cs := #[.int .i64 (fw l 0), .int .i64 (fw l 1), .int .i64 (fw l 2), .int .i64 (fw l 3), .int .i64 (fw l 4), .string tl]) (t := 85) (fr := (0, 0)) (heap_alloc_new w2 _)) (by simp [Value.oneCell'])
                  (by omega) (by unfold maxLen; omega) (by omega) (w2.heap.size + 1) (by simp) ?_
                intro g3 cap3 w3 row3 hch3 hat hlt
                have bG3 := hch3.blk ((bG.alloc (.cells #[.int .i64 (fw l 0), .int .i64 (fw l 1), .int .i64 (fw l 2), .int .i64 (fw l 3), .int .i64 (fw l 4), .string tl] 85)).drew) hgt
                have c3 : w3.cell? ⟨M, 1, none⟩ = some (.slice x2 n cp2) := bG3.cell 1
                have f3 := bG3.frozen 1))
            all_goals
              have hg3M : g3 ≠ M := fun e => by
                rcases hat with h | h
                · exact hgt (by rw [h, e])
                · omega
              have c4 : Chg (fun x' => x' = M ∨ (Value.slice x2 n cp2).ownBlock = some x') w2 (w3.setCell ⟨M, 1, none⟩ (.slice (some ⟨g3, 0, none⟩) (n + 1) cap3)) := ((((Chg.refl _ w2).alloc _).drew).trans (hch3.mono (fun _ _ h => .inr h))).setCell (.inl (.inl rfl)) _
              have b4 : Blk (w3.setCell ⟨M, 1, none⟩ (.slice (some ⟨g3, 0, none⟩) (n + 1) cap3)) M 87 (mcells vb (.slice (some ⟨g3, 0, none⟩) (n + 1) cap3) (fw st.sec) (secT st) st.hd) := bG3.set 1 _
              have rw4 : MRow (w3.setCell ⟨M, 1, none⟩ (.slice (some ⟨g3, 0, none⟩) (n + 1) cap3)) (.slice (some ⟨g3, 0, none⟩) (n + 1) cap3) (st.ts ++ [l]) := by
                have h := Row.of_chg row3 ((Chg.refl (fun x => x = M) w3).setCell (p := ⟨M, 1, none⟩) (.inl rfl) (.slice (some ⟨g3, 0, none⟩) (n + 1) cap3)) (fun x' hx' e => by simp [Value.ownBlock] at hx'; exact hg3M (by rw [hx', e]))
                rw [← unhide htlH] at h
                unfold MRow
                rw [List.length_append, show st.ts.length = n from unhide hnH, flatM_append]
                exact h
              have R4 := R2.tries c4 b4 rw4 (by rcases hat with h | h; exact .inl h; right; omega)
              have C4 : Hid (Chg O w (w3.setCell ⟨M, 1, none⟩ (.slice (some ⟨g3, 0, none⟩) (n + 1) cap3))) := Chg.trans' ((unhide Q2).chg O) c4 (fun x' _ h => (unhide RH).2.1 x' (by rcases h with h | h; exact .inl h; exact .inr (.inr h)))
              have hg3H : Hid ((Value.slice x2 n cp2).ownBlock = some g3 ∨ w.heap.size ≤ g3) := by
                rcases hat with h | h
                · exact .inl h
                · right; have := (unhide Q2).size; omega
              have hcell : ∀ o v, w2.cell? ⟨g, o, none⟩ = some v → (w3.setCell ⟨M, 1, none⟩ (.slice (some ⟨g3, 0, none⟩) (n + 1) cap3)).cell? ⟨g, o, none⟩ = some v := fun o v hc => Chg.cell c4 hc (by rintro (h | h); exact hgM h; exact hvg h)
              have p0 := hcell _ _ r0
              have p1 := hcell _ _ r1
              have p2 := hcell _ _ r2
              have p3 := hcell _ _ r3
              have p4 := hcell _ _ r4
              have cB4 : (w3.setCell ⟨M, 1, none⟩ (.slice (some ⟨g3, 0, none⟩) (n + 1) cap3)).cell? ⟨M, 0, none⟩ = some (.slice (some ⟨g, 0, none⟩) N cp) := by
                rw [b4.cell 0]
                rw [bG.cell 0] at cb
                exact cb
              clear c1 f1 row2 hgt row3 hch3 hat hlt bG3 c3 f3 hg3M c4 b4 rw4 bG R2 r0 r1 r2 r3 r4 r5 cb hcell
              generalize w3.setCell ⟨M, 1, none⟩ (.slice (some ⟨g3, 0, none⟩) (n + 1) cap3) = W4 at *
              have y0 : ∀ q : QW W4, q.w.cell? ⟨M, 0, none⟩ = some (.slice (some ⟨g, 0, none⟩) N cp) := fun q => Quiet.cell (QW.q q) cB4
              have y2 : ∀ q : QW W4, q.w.cell? ⟨M, 2, none⟩ = some (.int .i64 (fw st.sec 0)) := fun q => QW.blk R4.b q 2
              have y3 : ∀ q : QW W4, q.w.cell? ⟨M, 3, none⟩ = some (.int .i64 (fw st.sec 1)) := fun q => QW.blk R4.b q 3
              have y4 : ∀ q : QW W4, q.w.cell? ⟨M, 4, none⟩ = some (.int .i64 (fw st.sec 2)) := fun q => QW.blk R4.b q 4
              have y5 : ∀ q : QW W4, q.w.cell? ⟨M, 5, none⟩ = some (.int .i64 (fw st.sec 3)) := fun q => QW.blk R4.b q 5
              have y6 : ∀ q : QW W4, q.w.cell? ⟨M, 6, none⟩ = some (.int .i64 (fw st.sec 4)) := fun q => QW.blk R4.b q 6
              have u0 : ∀ q : QW W4, q.w.cell? ⟨g, j * 6, none⟩ = some (.int .i64 (fw l 0)) := fun q => Quiet.cell (QW.q q) p0
              have u1 : ∀ q : QW W4, q.w.cell? ⟨g, j * 6 + 1, none⟩ = some (.int .i64 (fw l 1)) := fun q => Quiet.cell (QW.q q) p1
              have u2 : ∀ q : QW W4, q.w.cell? ⟨g, j * 6 + 2, none⟩ = some (.int .i64 (fw l 2)) := fun q => Quiet.cell (QW.q q) p2
              have u3 : ∀ q : QW W4, q.w.cell? ⟨g, j * 6 + 3, none⟩ = some (.int .i64 (fw l 3)) := fun q => Quiet.cell (QW.q q) p3
              have u4 : ∀ q : QW W4, q.w.cell? ⟨g, j * 6 + 4, none⟩ = some (.int .i64 (fw l 4)) := fun q => Quiet.cell (QW.q q) p4
              have R4H := hide R4
              clear R4 p0 p1 p2 p3 p4 cB4
              obtain ⟨MM, hMM⟩ : ∃ m, str (marksL (fw st.sec) (fw l)) = m := ⟨_, rfl⟩
              rw [hMM] at hMk
              have hMMH := hide hMM
              clear hMM
              go_wp2
              refine wp_region_noPanic ?_
              try simp only [List.append_eq, List.cons_append, List.nil_append]
              refine wp_region_mixq [(0, true), (1, true), (2, true), (3, true), (4, true), (5, true), (6, true), (7, true), (8, true), (9, true), (10, true), (11, true), (12, true), (13, true), (14, true), (15, true)] [] (by kernel_rfl) (by kernel_rfl) (fun _ _ _ _ _ h => h) ?_
              simp only [pickM, pickO, List.getElem?_cons_zero, List.getElem?_cons_succ]
              repeat (first | (refine wpMix_read rfl (fun K hK => ?_)) | (refine wpMix_pure rfl (fun K hK => ?_))
                      go_big_quiet_op
                      first | (refine hK _ ?_; clear hK K) | (apply Exists.intro; refine ⟨fun _ => ?_, ?_⟩; (· (first | (go_at_call 54; exact Calls.in_qw (unhide hMk _)))); refine hK _ ?_; clear hK K))
              refine wpMix_nil ?_
              intro _ hw'
              obtain ⟨qq, hw''⟩ := hw'
              subst hw''
              have hqq := qq.q
              generalize qq.w = wq at *
              clear hMk y0 y2 y3 y4 y5 y6 u0 u1 u2 u3 u4
              have R5 := hide ((unhide R4H).quiet hqq)
              have C5 := hide ((unhide C4).trans (hqq.chg _))
              clear R4H C4 hqq
              go_wp2
              refine NoPanic.normal ?_
              go_wp2
              go_ret2
              exact mguess_fin (unhide RH).2.1 (unhide R5) (unhide C5) (unhide hg3H) _ _ _ (by rw [unhide hMMH]; rfl)
          | false =>
            simp only [Bool.not_false, Bool.and_true, if_true]
            go_enter Try.func45, Try.ntmps45
            go_wp2_with fail
            refine (unhide honH).mono ?_
            clear honH r0 r1 r2 r3 r4 r5 cb
            rintro e w1 ⟨rfl, q1⟩
            obtain ⟨cb, r0, r1, r2, r3, r4, r5⟩ := unhide hrest w1 q1
            have hal := hide (unhide hagr w1 q1)
            have Q1 := hide q1
            clear q1 hagr
            go_wp2_with fail
            refine (unhide hal).mono ?_
            clear hal cb r0 r1 r2 r3 r4 r5
            rintro e w2 ⟨rfl, q2⟩
            have Q2 := hide (Quiet.trans (unhide Q1) q2)
            have c8 := unhide hhc w2 (unhide Q2)
            clear q2 Q1 hhc
            go_wp2
            clear c8
            go_ret2
            exact MPost.same (unhide (unhide RH).2.2.2) (unhide Q2) _ _ rfl
      exact key st.hd _ rfl rfl
end Go.Proofs.Qxb6500370a
