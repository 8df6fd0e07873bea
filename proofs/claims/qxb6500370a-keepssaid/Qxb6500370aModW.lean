/-
  THE MODEL: Put, Guess. (gen70modw.py)
-/
import Derived.Test.Qxb6500370aMod
namespace Go.Proofs.Qxb6500370a
open Go.RowKit Go.Qx Go.Qx.Mk
set_option linter.unusedVariables false
set_option linter.unusedSimpArgs false

theorem info85 : (Try.prog.info? 85).map (fun i => (i.zero, i.size, i.bytes)) = some (some (.agg #[.int .i64 0, .int .i64 0, .int .i64 0, .int .i64 0, .int .i64 0, .string ⟨#[]⟩]), 6, 56) := by kernel_rfl
theorem und82 : Try.prog.underlying 82 = some (.slice 85) := by kernel_rfl
theorem flatM_set6 : ∀ (us : List (List Int)) (spare : List Value) (j : Nat) (l : List Int), j < us.length →
    ((((((flatM us ++ spare).set (j * 6) (.int .i64 (fw l 0))).set (j * 6 + 1) (.int .i64 (fw l 1))).set (j * 6 + 2) (.int .i64 (fw l 2))).set (j * 6 + 3) (.int .i64 (fw l 3))).set (j * 6 + 4) (.int .i64 (fw l 4))).set (j * 6 + 5) (.string (str (txt l))) = flatM (us.set j l) ++ spare
  | [], _, _, _, h => by simp at h
  | x :: us, spare, 0, l, _ => by
    show ((((((mwc x ++ flatM us ++ spare).set (0 * 6) _).set (0 * 6 + 1) _).set (0 * 6 + 2) _).set (0 * 6 + 3) _).set (0 * 6 + 4) _).set (0 * 6 + 5) _ = (mwc l ++ flatM us) ++ spare
    rfl
  | x :: us, spare, j + 1, l, h => by
    have ih := flatM_set6 us spare j l (by simpa using h)
    show ((((((mwc x ++ flatM us ++ spare).set ((j + 1) * 6) _).set ((j + 1) * 6 + 1) _).set ((j + 1) * 6 + 2) _).set ((j + 1) * 6 + 3) _).set ((j + 1) * 6 + 4) _).set ((j + 1) * 6 + 5) _ = (mwc x ++ flatM (us.set j l)) ++ spare
    rw [List.append_assoc, List.append_assoc, ← ih]
    have e6 : (j + 1) * 6 = j * 6 + 6 := by omega
    rw [e6]
    simp [mwc, ic]
theorem set_lastM (ws : List (List Int)) (x : List Int) : (ws ++ [x]).set ws.length x = ws ++ [x] := set_last ws x
theorem mrow_there {w : World} {g : Nat} {ws : List (List Int)} {spare : List Value} (h : Blk w g 85 (flatM ws ++ spare)) (j : Nat) (hj : j < ws.length) : ∀ i, i < 6 → ∃ u, w.cell? ⟨g, j * 6 + i, none⟩ = some u := by
  have hl := flatM_len ws
  intro i hi
  rw [h.cell, List.getElem?_append_left (by omega)]
  exact ⟨_, List.getElem?_eq_getElem (by omega)⟩
section
variable {w w' : World} {M : Nat} {vb vt : Value} {st : St}
theorem MG.words (h : MG w M vb vt st) (c : Chg (fun x => x = M ∨ vb.ownBlock = some x) w w') {g n cap : Nat} {WS : List (List Int)} (b' : Blk w' M 87 (mcells (.slice (some ⟨g, 0, none⟩) n cap) vt (fw st.sec) (secT st) st.hd)) (r' : MRow w' (.slice (some ⟨g, 0, none⟩) n cap) WS) (hg : vb.ownBlock = some g ∨ w.heap.size ≤ g) :
    MG w' M (.slice (some ⟨g, 0, none⟩) n cap) vt { st with ws := WS } := by
  have far : ∀ x, x < w.heap.size → vb.ownBlock ≠ some x → (Value.slice (some ⟨g, 0, none⟩) n cap).ownBlock ≠ some x := by
    intro x hx hn e
    simp [Value.ownBlock] at e
    subst e
    rcases hg with h | h
    · exact hn h
    · omega
  refine ⟨b', r', Row.of_chg h.rt c ?_, far _ h.b.lt h.gb, h.gt, fun x hx e => far _ (Row.lt h.rt e) (fun e2 => h.bt x e2 e) hx⟩
  rintro x hx (e | e)
  · exact h.gt (by rw [hx, e])
  · exact h.bt x e hx
theorem MG.tries (h : MG w M vb vt st) (c : Chg (fun x => x = M ∨ vt.ownBlock = some x) w w') {g n cap : Nat} {TS : List (List Int)} (b' : Blk w' M 87 (mcells vb (.slice (some ⟨g, 0, none⟩) n cap) (fw st.sec) (secT st) st.hd)) (r' : MRow w' (.slice (some ⟨g, 0, none⟩) n cap) TS) (hg : vt.ownBlock = some g ∨ w.heap.size ≤ g) :
    MG w' M vb (.slice (some ⟨g, 0, none⟩) n cap) { st with ts := TS } := by
  have far : ∀ x, x < w.heap.size → vt.ownBlock ≠ some x → (Value.slice (some ⟨g, 0, none⟩) n cap).ownBlock ≠ some x := by
    intro x hx hn e
    simp [Value.ownBlock] at e
    subst e
    rcases hg with h | h
    · exact hn h
    · omega
  refine ⟨b', Row.of_chg h.rb c ?_, r', h.gb, far _ h.b.lt h.gt, fun x hx => far _ (Row.lt h.rb hx) (h.bt x hx)⟩
  rintro x hx (e | e)
  · exact h.gb (by rw [hx, e])
  · exact h.bt x hx e
end
theorem mput_fin {w w5 : World} {O : Nat → Prop} {M : Nat} {st : St} {vb vt : Value} (R : MG w M vb vt st) (hO : ∀ x, MO M vb vt x → O x) {g n cap : Nat} {WS : List (List Int)}
    (R5 : MG w5 M (.slice (some ⟨g, 0, none⟩) n cap) vt { st with ws := WS }) (C5 : Chg (fun x => x = M ∨ vb.ownBlock = some x) w w5) (hg : vb.ownBlock = some g ∨ w.heap.size ≤ g) (l : List UInt8) (k : Int) (e : Ending) (he : e = .returned (.tuple #[.string (str l), .int .i64 k])) :
    MPost w O M (l, k, { st with ws := WS }) e w5 := by
  refine ⟨he, MO M (.slice (some ⟨g, 0, none⟩) n cap) vt, ⟨_, _, R5, fun x hx => hx⟩, C5.mono (fun x _ hx => hO x (by rcases hx with h | h; exact .inl h; exact .inr (.inl h))), ?_⟩
  rintro x (rfl | h | h)
  · exact .inl (hO _ (.inl rfl))
  · simp [Value.ownBlock] at h
    subst h
    rcases hg with h | h
    · exact .inl (hO _ (.inr (.inl h)))
    · exact .inr h
  · exact .inl (hO _ (.inr (.inr h)))
theorem mguess_fin {w w5 : World} {O : Nat → Prop} {M : Nat} {st : St} {vb vt : Value} (hO : ∀ x, MO M vb vt x → O x) {g n cap : Nat} {TS : List (List Int)}
    (R5 : MG w5 M vb (.slice (some ⟨g, 0, none⟩) n cap) { st with ts := TS }) (C5 : Chg O w w5) (hg : vt.ownBlock = some g ∨ w.heap.size ≤ g) (l : List UInt8) (k : Int) (e : Ending) (he : e = .returned (.tuple #[.string (str l), .int .i64 k])) :
    MPost w O M (l, k, { st with ts := TS }) e w5 := by
  refine ⟨he, MO M vb (.slice (some ⟨g, 0, none⟩) n cap), ⟨_, _, R5, fun x hx => hx⟩, C5, ?_⟩
  rintro x (rfl | h | h)
  · exact .inl (hO _ (.inl rfl))
  · exact .inl (hO _ (.inr (.inl h)))
  · simp [Value.ownBlock] at h
    subst h
    rcases hg with h | h
    · exact .inl (hO _ (.inr (.inr h)))
    · exact .inr h

set_option maxHeartbeats 4000000 in
set_option maxRecDepth 100000 in
theorem mput_any (w : World) (O : Nat → Prop) (M : Nat) (st : St) (ok : st.Ok) (h : MRep w O M st) (i : Int) (s : ByteArray) (hs : s.size ≤ maxLen) : Calls Try.prog 43 #[ptr M, .int .i64 i, .string s] w (MPost w O M (putS st i s)) := by
  have hh := hide h
  obtain ⟨vb, vt, R, hO⟩ := h
  have hM := R.b.lt
  have few := ok.few
  have c0 : w.cell? ⟨M, 0, none⟩ = some vb := R.b.cell 0
  obtain ⟨x, cp, hx⟩ := R.rb.sl
  rw [hx] at c0
  have h1 := hide (mparse_any w s hs)
  unfold ptr
  by_cases he : (parseP s).2 = 0
  · have hmc : mparseC s = mwc (parseP s).1 := by unfold mparseC; rw [if_pos he]
    rw [hmc, he] at h1
    obtain ⟨l, hl⟩ : ∃ l, (parseP s).1 = l := ⟨_, rfl⟩
    rw [hl, show (mwc l).toArray = m6 (fw l) (str (txt l)) from rfl] at h1
    by_cases hbad : i < 0 ∨ (st.ws.length : Int) < i ∨ 8 ≤ i
    · have hp : putS st i s = ([], 5, st) := by unfold putS; rw [if_neg (by omega), if_pos hbad]
      rw [hp]
      have fin : Hid (∀ e w', Quiet w w' → e = .returned (.tuple #[.string (str []), .int .i64 5]) → MPost w O M ([], 5, st) e w') := fun e w' q he => MPost.same (unhide hh) q _ _ he
      have cs : i < 0 ∨ (0 ≤ i ∧ (st.ws.length : Int) < i) ∨ (0 ≤ i ∧ i ≤ (st.ws.length : Int) ∧ 8 ≤ i) := by omega
      clear R hO hp ok few hh hbad hx hl hmc he
      generalize st.ws.length = k at *
      generalize str (txt l) = tl at *
      unfold m6 at h1
      rcases cs with hi | ⟨hi, hi2⟩ | ⟨hi, hi2, hi3⟩
      all_goals
        go_enter Try.func43, Try.ntmps43
        go_wp2_with fail
        refine (unhide h1).mono ?_
        clear h1
        rintro e w1 ⟨rfl, hq⟩
        have c1 := Quiet.cell hq c0
        have hM1 : M < w1.heap.size := Nat.lt_of_lt_of_le hM hq.size
        have hqH := hide hq
        clear hq c0
        go_wp2
        go_ret2
        exact unhide fin _ _ (Chg.alloc (unhide hqH) _) rfl
    · obtain ⟨j, rfl⟩ : ∃ j : Nat, i = j := ⟨i.toNat, by omega⟩
      have hj8 : (j : Int) < 8 := by omega
      have hjk : j ≤ st.ws.length := by omega
      have hp : putS st j s = (txt l, 0, { st with ws := if j = st.ws.length then st.ws ++ [l] else st.ws.set j l }) := by
        unfold putS
        rw [if_neg (by omega), if_neg (by omega), hl]
        by_cases h : j = st.ws.length
        · rw [if_pos h, if_pos (by omega)]
        · rw [if_neg h, if_neg (by omega), Int.toNat_natCast]
      rw [hp]
      have i0 : (0 : Int) ≤ (j : Int) := by omega
      have RH := hide (⟨R, hO, ok⟩ : _ ∧ _ ∧ _)
      by_cases hj : j = st.ws.length
      · rw [if_pos hj]
        have ig : ((j : Int) == (j : Int)) = true := by simp
        rw [← hj] at c0 hx
        have hnH : Hid (st.ws.length = j) := hj.symm
        subst hx
        clear R hO hp ok hh hbad hl hmc he hj hjk few
        unfold m6 at h1
        go_enter Try.func43, Try.ntmps43
        go_wp2_with fail
        refine (unhide h1).mono ?_
        clear h1
        rintro e w1 ⟨rfl, hq⟩
        obtain ⟨W, hW⟩ : ∃ W, w1.alloc (.cells #[.int .i64 (fw l 0), .int .i64 (fw l 1), .int .i64 (fw l 2), .int .i64 (fw l 3), .int .i64 (fw l 4), .string (str (txt l))] 85) = W := ⟨_, rfl⟩
        have q2 : Quiet w W := by rw [← hW]; exact Chg.alloc hq _
        have bd : Blk W w1.heap.size 85 (mwc l) := by rw [← hW]; exact Blk.new w1 85 (mwc l)
        have hDw : Hid (w.heap.size ≤ w1.heap.size) := hq.size
        obtain ⟨D, hD⟩ : ∃ D, w1.heap.size = D := ⟨_, rfl⟩
        rw [hD] at bd hDw
        have R2 := (unhide RH).1.quiet q2
        have cW : W.cell? ⟨M, 0, none⟩ = some (.slice x j cp) := R2.b.cell 0
        have hMW := R2.b.lt
        have q2H := hide q2
        have bdH := hide bd
        clear hq c0 R2 q2 bd
        go_wp2
        clear hW
        have R2 := (unhide RH).1.quiet (unhide q2H)
        have bd := unhide bdH
        have bG := R2.b
        have row2 : Row W 85 6 (.slice x j cp) j (flatM st.ws) := by
          have h := R2.rb
          unfold MRow at h
          rwa [show st.ws.length = j from unhide hnH] at h
        have hgb := R2.gb
        have hvD : (Value.slice x j cp).ownBlock ≠ some D := fun h => by have h1 := Row.lt (unhide RH).1.rb h; have h2 := unhide hDw; omega
        have hDM : D ≠ M := by have h2 := unhide hDw; omega
        have f0 := bG.frozen 0
        have d0 : W.cell? ⟨D, 0, none⟩ = some (.int .i64 (fw l 0)) := bd.cell 0
        have d1 : W.cell? ⟨D, 1, none⟩ = some (.int .i64 (fw l 1)) := bd.cell 1
        have d2 : W.cell? ⟨D, 2, none⟩ = some (.int .i64 (fw l 2)) := bd.cell 2
        have d3 : W.cell? ⟨D, 3, none⟩ = some (.int .i64 (fw l 3)) := bd.cell 3
        have d4 : W.cell? ⟨D, 4, none⟩ = some (.int .i64 (fw l 4)) := bd.cell 4
        have d5 : W.cell? ⟨D, 5, none⟩ = some (.string (str (txt l))) := bd.cell 5
        have hDW := bd.lt
        obtain ⟨i0', hi0, hz0, hz1, hz2⟩ := info_parts info85
        go_region_law
          ((refine step_append_row (by rfl) _ _ _ (by rfl) 85 i0' _ 6 56 und82 hi0 hz0 hz1 hz2 rfl (by omega) (.slice x j cp) j (flatM st.ws) (by rfl) (row2.quiet (((Chg.refl _ _).alloc _).drew))
              ⟨W.heap.size, 0, none⟩ 1 1 (mwc l) (by rfl) (by rfl) (World.news_of_block (cs := #[.int .i64 (fw l 0), .int .i64 (fw l 1), .int .i64 (fw l 2), .int .i64 (fw l 3), .int .i64 (fw l 4), .string (str (txt l))]) (t := 85) (fr := (0, 0)) (heap_alloc_new W _)) (by simp [Value.oneCell', mwc, ic])
              (by omega) (by unfold maxLen; omega) (by omega) (W.heap.size + 1) (by simp) ?_
            intro g cap w3 row3 hch3 hat hlt
            have bG3 := hch3.blk ((bG.alloc (.cells #[.int .i64 (fw l 0), .int .i64 (fw l 1), .int .i64 (fw l 2), .int .i64 (fw l 3), .int .i64 (fw l 4), .string (str (txt l))] 85)).drew) hgb
            have c3 : w3.cell? ⟨M, 0, none⟩ = some (.slice x j cp) := bG3.cell 0
            have f3 := bG3.frozen 0))
        all_goals
          have hgM : g ≠ M := fun e => by
            rcases hat with h | h
            · exact hgb (by rw [h, e])
            · omega
          have hgD : g ≠ D := fun e => by
            rcases hat with h | h
            · exact hvD (by rw [h, e])
            · omega
          have c4 : Chg (fun x' => x' = M ∨ (Value.slice x j cp).ownBlock = some x') W (w3.setCell ⟨M, 0, none⟩ (.slice (some ⟨g, 0, none⟩) (j + 1) cap)) := ((((Chg.refl _ W).alloc _).drew).trans (hch3.mono (fun _ _ h => .inr h))).setCell (.inl (.inl rfl)) _
          have b4 : Blk (w3.setCell ⟨M, 0, none⟩ (.slice (some ⟨g, 0, none⟩) (j + 1) cap)) M 87 (mcells (.slice (some ⟨g, 0, none⟩) (j + 1) cap) vt (fw st.sec) (secT st) st.hd) := bG3.set 0 _
          have r4 : Row (w3.setCell ⟨M, 0, none⟩ (.slice (some ⟨g, 0, none⟩) (j + 1) cap)) 85 6 (.slice (some ⟨g, 0, none⟩) (j + 1) cap) (j + 1) (flatM st.ws ++ mwc l) := Row.of_chg row3 ((Chg.refl (fun x => x = M) w3).setCell (p := ⟨M, 0, none⟩) (.inl rfl) (.slice (some ⟨g, 0, none⟩) (j + 1) cap)) (fun x' hx' e => by simp [Value.ownBlock] at hx'; exact hgM (by rw [hx', e]))
          have bd4 : Blk (w3.setCell ⟨M, 0, none⟩ (.slice (some ⟨g, 0, none⟩) (j + 1) cap)) D 85 (mwc l) := (hch3.blk ((bd.alloc _).drew) hvD).set_other hDM _
          have hgH : Hid ((Value.slice x j cp).ownBlock = some g ∨ w.heap.size ≤ g) := by
            rcases hat with h | h
            · exact .inl h
            · right; have := (unhide q2H).size; omega
          have c4w : Hid (Chg (fun x' => x' = M ∨ (Value.slice x j cp).ownBlock = some x') w (w3.setCell ⟨M, 0, none⟩ (.slice (some ⟨g, 0, none⟩) (j + 1) cap))) := ((unhide q2H).chg _).trans c4
          have hg2 : (Value.slice x j cp).ownBlock = some g ∨ W.heap.size ≤ g := by rcases hat with h | h; exact .inl h; right; omega
          have R2H := hide R2
          clear cW f0 d0 d1 d2 d3 d4 d5 row2 row3 hch3 hat hlt bG3 c3 f3 bG bd R2
          generalize w3.setCell ⟨M, 0, none⟩ (.slice (some ⟨g, 0, none⟩) (j + 1) cap) = W4 at *
          rw [← flatM_append] at r4
          have r4' : MRow W4 (.slice (some ⟨g, 0, none⟩) (j + 1) cap) (st.ws ++ [l]) := by unfold MRow; rw [List.length_append, show st.ws.length = j from unhide hnH]; exact r4
          have R4 := (unhide R2H).words c4 b4 r4' hg2
          clear c4 R2H r4'
          obtain ⟨spare, bR, hcap1, hcap2, hcap3⟩ := r4.some_form
          have jl : j < (st.ws ++ [l]).length := by rw [List.length_append, show st.ws.length = j from unhide hnH, List.length_singleton]; omega
          have t0 := mrow_there bR j jl 0 (by omega)
          have t1 := mrow_there bR j jl 1 (by omega)
          have t2 := mrow_there bR j jl 2 (by omega)
          have t3 := mrow_there bR j jl 3 (by omega)
          have t4 := mrow_there bR j jl 4 (by omega)
          have t5 := mrow_there bR j jl 5 (by omega)
          rw [Nat.add_zero] at t0
          obtain ⟨o0, t0⟩ := t0
          obtain ⟨o1, t1⟩ := t1
          obtain ⟨o2, t2⟩ := t2
          obtain ⟨o3, t3⟩ := t3
          obtain ⟨o4, t4⟩ := t4
          obtain ⟨o5, t5⟩ := t5
          have g0 := bR.frozen (j * 6)
          have g1 := bR.frozen (j * 6 + 1)
          have g2 := bR.frozen (j * 6 + 2)
          have g3 := bR.frozen (j * 6 + 3)
          have g4 := bR.frozen (j * 6 + 4)
          have g5 := bR.frozen (j * 6 + 5)
          have c4 : W4.cell? ⟨M, 0, none⟩ = some (.slice (some ⟨g, 0, none⟩) (j + 1) cap) := b4.cell 0
          have a0 : W4.cell? ⟨D, 0, none⟩ = some (.int .i64 (fw l 0)) := bd4.cell 0
          have a1 : W4.cell? ⟨D, 1, none⟩ = some (.int .i64 (fw l 1)) := bd4.cell 1
          have a2 : W4.cell? ⟨D, 2, none⟩ = some (.int .i64 (fw l 2)) := bd4.cell 2
          have a3 : W4.cell? ⟨D, 3, none⟩ = some (.int .i64 (fw l 3)) := bd4.cell 3
          have a4 : W4.cell? ⟨D, 4, none⟩ = some (.int .i64 (fw l 4)) := bd4.cell 4
          have a5 : W4.cell? ⟨D, 5, none⟩ = some (.string (str (txt l))) := bd4.cell 5
          have k3 : (j : Int) < (j : Int) + 1 := by omega
          have S4 := hide (⟨R4, r4, bd4, b4, bR, hcap1, hcap2, hcap3, jl⟩ : _ ∧ _ ∧ _ ∧ _ ∧ _ ∧ _ ∧ _ ∧ _ ∧ _)
          clear R4 r4 bd4 b4 bR hcap1 hcap2 hcap3 jl
          obtain ⟨tl, htl⟩ : ∃ t, str (txt l) = t := ⟨_, rfl⟩
          rw [htl] at a5
          have htlH := hide htl
          clear htl
          go_wp2
          refine wp_region_noPanic ?_
          try simp only [List.append_eq, List.cons_append, List.nil_append]
          refine wp_region_mix [(0, true), (1, true), (2, true), (3, true), (4, true), (5, true), (6, true)] [7] (by kernel_rfl) (by kernel_rfl) (fun _ _ _ _ _ h => h) ?_
          simp only [pickM, pickO, List.getElem?_cons_zero, List.getElem?_cons_succ]
          repeat (first | (refine wpMix_read rfl (fun K hK => ?_)) | (refine wpMix_pure rfl (fun K hK => ?_))
                  go_big_quiet_op
                  first | (refine hK _ ?_; clear hK K))
          refine wpMix_nil ?_
          intro _ hw'
          obtain ⟨nq, hw''⟩ := hw'
          subst hw''
          obtain ⟨W5, hW5⟩ : ∃ W, ((((((W4.drewN nq).setCell ⟨g, j * 6, none⟩ (.int .i64 (fw l 0))).setCell ⟨g, j * 6 + 1, none⟩ (.int .i64 (fw l 1))).setCell ⟨g, j * 6 + 2, none⟩ (.int .i64 (fw l 2))).setCell ⟨g, j * 6 + 3, none⟩ (.int .i64 (fw l 3))).setCell ⟨g, j * 6 + 4, none⟩ (.int .i64 (fw l 4))).setCell ⟨g, j * 6 + 5, none⟩ (.string tl) = W := ⟨_, rfl⟩
          obtain ⟨R4, r4, bd4, b4, bR, hcap1, hcap2, hcap3, jl⟩ := unhide S4
          have bd5 : Blk W5 D 85 (mwc l) := by
            rw [← hW5]; exact ((((((bd4.drewN nq).set_other (Ne.symm hgD) _).set_other (Ne.symm hgD) _).set_other (Ne.symm hgD) _).set_other (Ne.symm hgD) _).set_other (Ne.symm hgD) _).set_other (Ne.symm hgD) _
          have c5 : Chg (fun x' => x' = M ∨ (Value.slice (some ⟨g, 0, none⟩) (j + 1) cap).ownBlock = some x') W4 W5 := by
            rw [← hW5]; exact (((((((Chg.refl (fun x' => x' = M ∨ (Value.slice (some ⟨g, 0, none⟩) (j + 1) cap).ownBlock = some x') W4).drewN nq).setCell (p := ⟨g, j * 6, none⟩) (.inl (.inr rfl)) _).setCell (p := ⟨g, j * 6 + 1, none⟩) (.inl (.inr rfl)) _).setCell (p := ⟨g, j * 6 + 2, none⟩) (.inl (.inr rfl)) _).setCell (p := ⟨g, j * 6 + 3, none⟩) (.inl (.inr rfl)) _).setCell (p := ⟨g, j * 6 + 4, none⟩) (.inl (.inr rfl)) _).setCell (p := ⟨g, j * 6 + 5, none⟩) (.inl (.inr rfl)) _
          have bR5 : Blk W5 g 85 (flatM ((st.ws ++ [l]).set j l) ++ spare) := by
            have h := ((((((bR.drewN nq).set (j * 6) (.int .i64 (fw l 0))).set (j * 6 + 1) (.int .i64 (fw l 1))).set (j * 6 + 2) (.int .i64 (fw l 2))).set (j * 6 + 3) (.int .i64 (fw l 3))).set (j * 6 + 4) (.int .i64 (fw l 4))).set (j * 6 + 5) (.string (str (txt l)))
            rw [flatM_set6 _ _ j l jl] at h
            rw [← hW5, ← unhide htlH]; exact h
          have b5 : Blk W5 M 87 (mcells (.slice (some ⟨g, 0, none⟩) (j + 1) cap) vt (fw st.sec) (secT st) st.hd) := by
            rw [← hW5]; exact ((((((b4.drewN nq).set_other (Ne.symm hgM) _).set_other (Ne.symm hgM) _).set_other (Ne.symm hgM) _).set_other (Ne.symm hgM) _).set_other (Ne.symm hgM) _).set_other (Ne.symm hgM) _
          have r5 : MRow W5 (.slice (some ⟨g, 0, none⟩) (j + 1) cap) ((st.ws ++ [l]).set j l) := by
            unfold MRow
            have hle : ((st.ws ++ [l]).set j l).length = (j + 1) := by rw [List.length_set]; rw [List.length_append, show st.ws.length = j from unhide hnH, List.length_singleton]
            rw [hle]
            exact Row.of_blk bR5 (by rw [flatM_len, hle]) hcap1 hcap2 (by rw [← hcap3, List.length_append, List.length_append, flatM_len, flatM_len, List.length_set])
          have R5 : MG W5 M (.slice (some ⟨g, 0, none⟩) (j + 1) cap) vt { st with ws := (st.ws ++ [l]).set j l } := R4.words c5 b5 r5 (.inl rfl)
          have C5 := Chg.trans' (unhide c4w) c5 (fun x' hx' h => by rcases h with h | h; exact .inl h; simp [Value.ownBlock] at h; subst h; rcases unhide hgH with h1 | h1; exact .inr h1; omega)
          have e5 : W5.cell? ⟨D, 5, none⟩ = some (.string tl) := by rw [← unhide htlH]; exact bd5.cell 5
          have fin : Hid (∀ e, e = .returned (.tuple #[.string (str (txt l)), .int .i64 0]) → MPost w O M (txt l, 0, { st with ws := st.ws ++ [l] }) e W5) := by
            show ∀ e, _
            intro e he
            have h := mput_fin (unhide RH).1 (unhide RH).2.1 R5 C5 (unhide hgH) (txt l) 0 e he
            rw [show (st.ws ++ [l]).set j l = st.ws ++ [l] by rw [show j = st.ws.length from (unhide hnH).symm]; exact set_lastM _ _] at h
            exact h
          clear R4 r4 bd4 b4 bR hcap1 hcap2 hcap3 jl bd5 c5 bR5 b5 r5 R5 C5
          go_wp2
          refine NoPanic.normal ?_
          go_wp2
          go_ret2
          exact unhide fin _ (by rw [unhide htlH]; rfl)
      · rw [if_neg hj]
        have hjlt : j < st.ws.length := by omega
        rcases Row.form R.rb with ⟨h, hn, _⟩ | ⟨g, cap, spare, h, hR, hcap1, hcap2, hcap3⟩
        · omega
        · have ig : ((j : Int) == (st.ws.length : Int)) = false := by rw [beq_eq_false_iff_ne]; omega
          have i1 : ¬ (st.ws.length : Int) < (j : Int) := by omega
          obtain ⟨n, hn⟩ : ∃ n, st.ws.length = n := ⟨_, rfl⟩
          rw [hn] at c0 hx ig i1 h hjlt
          have hxx : x = some ⟨g, 0, none⟩ ∧ cp = cap := by
            have := hx.symm.trans h
            simp at this; exact this
          obtain ⟨e1, e2⟩ := hxx
          subst e1; subst e2
          have hnH := hide hn
          subst hx
          clear R hO hp ok hh hbad hl hmc he hn hjk h hj few
          unfold m6 at h1
          go_enter Try.func43, Try.ntmps43
          go_wp2_with fail
          refine (unhide h1).mono ?_
          clear h1
          rintro e w1 ⟨rfl, hq⟩
          obtain ⟨W4, hW⟩ : ∃ W, w1.alloc (.cells #[.int .i64 (fw l 0), .int .i64 (fw l 1), .int .i64 (fw l 2), .int .i64 (fw l 3), .int .i64 (fw l 4), .string (str (txt l))] 85) = W := ⟨_, rfl⟩
          have q2 : Quiet w W4 := by rw [← hW]; exact Chg.alloc hq _
          have bd4 : Blk W4 w1.heap.size 85 (mwc l) := by rw [← hW]; exact Blk.new w1 85 (mwc l)
          have hDw : Hid (w.heap.size ≤ w1.heap.size) := hq.size
          obtain ⟨D, hD⟩ : ∃ D, w1.heap.size = D := ⟨_, rfl⟩
          rw [hD] at bd4 hDw
          have R4 := (unhide RH).1.quiet q2
          have cW : W4.cell? ⟨M, 0, none⟩ = some (.slice (some ⟨g, 0, none⟩) n cp) := R4.b.cell 0
          have hMW := R4.b.lt
          have hgM : g ≠ M := fun e => R4.gb (by simp [Value.ownBlock, e])
          have hgD : g ≠ D := fun e => by have h1 := hR.lt; have h2 := unhide hDw; omega
          have hDM : D ≠ M := by have h2 := unhide hDw; omega
          have c4w : Hid (Chg (fun x' => x' = M ∨ (Value.slice (some ⟨g, 0, none⟩) n cp).ownBlock = some x') w W4) := q2.chg _
          have hgH : Hid ((Value.slice (some ⟨g, 0, none⟩) n cp).ownBlock = some g ∨ w.heap.size ≤ g) := .inl rfl
          have r4 : Row W4 85 6 (.slice (some ⟨g, 0, none⟩) n cp) n (flatM st.ws) := by
            have h := R4.rb
            unfold MRow at h
            rwa [show st.ws.length = n from unhide hnH] at h
          have b4 := R4.b
          clear hq c0 q2 hR
          have R4H := hide R4
          have r4H := hide r4
          have bd4H := hide bd4
          have b4H := hide b4
          clear R4 r4 bd4 b4
          go_wp2
          clear hW cW
          have R4 := unhide R4H
          have r4 := unhide r4H
          have bd4 := unhide bd4H
          have b4 := unhide b4H
          clear R4H r4H bd4H b4H
          obtain ⟨spare, bR, hcap1, hcap2, hcap3⟩ := r4.some_form
          have jl : j < (st.ws).length := by rw [show st.ws.length = n from unhide hnH]; exact hjlt
          have t0 := mrow_there bR j jl 0 (by omega)
          have t1 := mrow_there bR j jl 1 (by omega)
          have t2 := mrow_there bR j jl 2 (by omega)
          have t3 := mrow_there bR j jl 3 (by omega)
          have t4 := mrow_there bR j jl 4 (by omega)
          have t5 := mrow_there bR j jl 5 (by omega)
          rw [Nat.add_zero] at t0
          obtain ⟨o0, t0⟩ := t0
          obtain ⟨o1, t1⟩ := t1
          obtain ⟨o2, t2⟩ := t2
          obtain ⟨o3, t3⟩ := t3
          obtain ⟨o4, t4⟩ := t4
          obtain ⟨o5, t5⟩ := t5
          have g0 := bR.frozen (j * 6)
          have g1 := bR.frozen (j * 6 + 1)
          have g2 := bR.frozen (j * 6 + 2)
          have g3 := bR.frozen (j * 6 + 3)
          have g4 := bR.frozen (j * 6 + 4)
          have g5 := bR.frozen (j * 6 + 5)
          have c4 : W4.cell? ⟨M, 0, none⟩ = some (.slice (some ⟨g, 0, none⟩) n cp) := b4.cell 0
          have a0 : W4.cell? ⟨D, 0, none⟩ = some (.int .i64 (fw l 0)) := bd4.cell 0
          have a1 : W4.cell? ⟨D, 1, none⟩ = some (.int .i64 (fw l 1)) := bd4.cell 1
          have a2 : W4.cell? ⟨D, 2, none⟩ = some (.int .i64 (fw l 2)) := bd4.cell 2
          have a3 : W4.cell? ⟨D, 3, none⟩ = some (.int .i64 (fw l 3)) := bd4.cell 3
          have a4 : W4.cell? ⟨D, 4, none⟩ = some (.int .i64 (fw l 4)) := bd4.cell 4
          have a5 : W4.cell? ⟨D, 5, none⟩ = some (.string (str (txt l))) := bd4.cell 5
          have k3 : (j : Int) < (n : Int) := by omega
          have S4 := hide (⟨R4, r4, bd4, b4, bR, hcap1, hcap2, hcap3, jl⟩ : _ ∧ _ ∧ _ ∧ _ ∧ _ ∧ _ ∧ _ ∧ _ ∧ _)
          clear R4 r4 bd4 b4 bR hcap1 hcap2 hcap3 jl
          obtain ⟨tl, htl⟩ : ∃ t, str (txt l) = t := ⟨_, rfl⟩
          rw [htl] at a5
          have htlH := hide htl
          clear htl
          go_wp2
          refine wp_region_noPanic ?_
          try simp only [List.append_eq, List.cons_append, List.nil_append]
          refine wp_region_mix [(0, true), (1, true), (2, true), (3, true), (4, true), (5, true), (6, true)] [7] (by kernel_rfl) (by kernel_rfl) (fun _ _ _ _ _ h => h) ?_
          simp only [pickM, pickO, List.getElem?_cons_zero, List.getElem?_cons_succ]
          repeat (first | (refine wpMix_read rfl (fun K hK => ?_)) | (refine wpMix_pure rfl (fun K hK => ?_))
                  go_big_quiet_op
                  first | (refine hK _ ?_; clear hK K))
          refine wpMix_nil ?_
          intro _ hw'
          obtain ⟨nq, hw''⟩ := hw'
          subst hw''
          obtain ⟨W5, hW5⟩ : ∃ W, ((((((W4.drewN nq).setCell ⟨g, j * 6, none⟩ (.int .i64 (fw l 0))).setCell ⟨g, j * 6 + 1, none⟩ (.int .i64 (fw l 1))).setCell ⟨g, j * 6 + 2, none⟩ (.int .i64 (fw l 2))).setCell ⟨g, j * 6 + 3, none⟩ (.int .i64 (fw l 3))).setCell ⟨g, j * 6 + 4, none⟩ (.int .i64 (fw l 4))).setCell ⟨g, j * 6 + 5, none⟩ (.string tl) = W := ⟨_, rfl⟩
          obtain ⟨R4, r4, bd4, b4, bR, hcap1, hcap2, hcap3, jl⟩ := unhide S4
          have bd5 : Blk W5 D 85 (mwc l) := by
            rw [← hW5]; exact ((((((bd4.drewN nq).set_other (Ne.symm hgD) _).set_other (Ne.symm hgD) _).set_other (Ne.symm hgD) _).set_other (Ne.symm hgD) _).set_other (Ne.symm hgD) _).set_other (Ne.symm hgD) _
          have c5 : Chg (fun x' => x' = M ∨ (Value.slice (some ⟨g, 0, none⟩) n cp).ownBlock = some x') W4 W5 := by
            rw [← hW5]; exact (((((((Chg.refl (fun x' => x' = M ∨ (Value.slice (some ⟨g, 0, none⟩) n cp).ownBlock = some x') W4).drewN nq).setCell (p := ⟨g, j * 6, none⟩) (.inl (.inr rfl)) _).setCell (p := ⟨g, j * 6 + 1, none⟩) (.inl (.inr rfl)) _).setCell (p := ⟨g, j * 6 + 2, none⟩) (.inl (.inr rfl)) _).setCell (p := ⟨g, j * 6 + 3, none⟩) (.inl (.inr rfl)) _).setCell (p := ⟨g, j * 6 + 4, none⟩) (.inl (.inr rfl)) _).setCell (p := ⟨g, j * 6 + 5, none⟩) (.inl (.inr rfl)) _
          have bR5 : Blk W5 g 85 (flatM ((st.ws).set j l) ++ spare) := by
            have h := ((((((bR.drewN nq).set (j * 6) (.int .i64 (fw l 0))).set (j * 6 + 1) (.int .i64 (fw l 1))).set (j * 6 + 2) (.int .i64 (fw l 2))).set (j * 6 + 3) (.int .i64 (fw l 3))).set (j * 6 + 4) (.int .i64 (fw l 4))).set (j * 6 + 5) (.string (str (txt l)))
            rw [flatM_set6 _ _ j l jl] at h
            rw [← hW5, ← unhide htlH]; exact h
          have b5 : Blk W5 M 87 (mcells (.slice (some ⟨g, 0, none⟩) n cp) vt (fw st.sec) (secT st) st.hd) := by
            rw [← hW5]; exact ((((((b4.drewN nq).set_other (Ne.symm hgM) _).set_other (Ne.symm hgM) _).set_other (Ne.symm hgM) _).set_other (Ne.symm hgM) _).set_other (Ne.symm hgM) _).set_other (Ne.symm hgM) _
          have r5 : MRow W5 (.slice (some ⟨g, 0, none⟩) n cp) ((st.ws).set j l) := by
            unfold MRow
            have hle : ((st.ws).set j l).length = n := by rw [List.length_set]; exact unhide hnH
            rw [hle]
            exact Row.of_blk bR5 (by rw [flatM_len, hle]) hcap1 hcap2 (by rw [← hcap3, List.length_append, List.length_append, flatM_len, flatM_len, List.length_set])
          have R5 : MG W5 M (.slice (some ⟨g, 0, none⟩) n cp) vt { st with ws := (st.ws).set j l } := R4.words c5 b5 r5 (.inl rfl)
          have C5 := Chg.trans' (unhide c4w) c5 (fun x' hx' h => h)
          have e5 : W5.cell? ⟨D, 5, none⟩ = some (.string tl) := by rw [← unhide htlH]; exact bd5.cell 5
          have fin : Hid (∀ e, e = .returned (.tuple #[.string (str (txt l)), .int .i64 0]) → MPost w O M (txt l, 0, { st with ws := st.ws.set j l }) e W5) := by
            show ∀ e, _
            intro e he
            have h := mput_fin (unhide RH).1 (unhide RH).2.1 R5 C5 (unhide hgH) (txt l) 0 e he
            skip
            exact h
          clear R4 r4 bd4 b4 bR hcap1 hcap2 hcap3 jl bd5 c5 bR5 b5 r5 R5 C5
          go_wp2
          refine NoPanic.normal ?_
          go_wp2
          go_ret2
          exact unhide fin _ (by rw [unhide htlH]; rfl)
  · have hp : putS st i s = ([], (parseP s).2, st) := by unfold putS; rw [if_pos he]
    rw [hp]
    have fin : Hid (∀ e w', Quiet w w' → e = .returned (.tuple #[.string (str []), .int .i64 (parseP s).2]) → MPost w O M ([], (parseP s).2, st) e w') := fun e w' q he => MPost.same (unhide hh) q _ _ he
    have he' : ((parseP s).2 == 0) = false := by simpa using he
    have hmc : mparseC s = mzc := by unfold mparseC; rw [if_neg he]
    rw [hmc, show mzc.toArray = #[.int .i64 0, .int .i64 0, .int .i64 0, .int .i64 0, .int .i64 0, .string ⟨#[]⟩] from rfl] at h1
    clear R hO hp ok few hh hx hmc he c0
    generalize (parseP s).2 = pe at *
    go_enter Try.func43, Try.ntmps43
    go_wp2_with fail
    refine (unhide h1).mono ?_
    clear h1
    rintro e w1 ⟨rfl, hq⟩
    have hqH := hide hq
    clear hq
    go_wp2
    go_ret2
    exact unhide fin _ _ (Chg.alloc (unhide hqH) _) rfl
end Go.Proofs.Qxb6500370a
