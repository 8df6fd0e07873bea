/-
  THE MODEL: Cands, Show, Check, Start. (gen70modc.py)
-/
import Derived.Test.Qxb6500370aMod
import Derived.Test.Qxb6500370aShare
namespace Go.Proofs.Qxb6500370a
open Go.RowKit Go.Qx Go.Qx.Mk
set_option linter.unusedVariables false
set_option linter.unusedSimpArgs false

set_option maxHeartbeats 4000000 in
set_option maxRecDepth 100000 in
theorem mcands_any (w : World) (M : Nat) (vb vt : Value) (st : St) (ok : st.Ok) (R : MG w M vb vt st) : Calls Try.prog 46 #[ptr M] w fun e w' => e = .returned (.string (str (candP st))) ∧ Quiet w w' := by
  have few := ok.few
  have hM := R.b.lt
  obtain ⟨x, cp, hx⟩ := R.rb.sl
  have cb : w.cell? ⟨M, 0, none⟩ = some vb := R.b.cell 0
  rw [hx] at cb
  have hmk := makeB w st.ws.length (by omega)
  have S0 : Hid (CR w (w.alloc (.cells (List.replicate st.ws.length (Value.int .u8 0)).toArray 5)) st 0) := ⟨Chg.alloc (Chg.refl (fun _ => False) w) _, by
    have := Blk.new w 5 (List.replicate st.ws.length (Value.int .u8 0))
    exact this⟩
  have cb2 : (w.alloc (.cells (List.replicate st.ws.length (Value.int .u8 0)).toArray 5)).cell? ⟨M, 0, none⟩ = some (.slice x st.ws.length cp) := Quiet.cell (Chg.alloc (Chg.refl (fun _ => False) w) _) cb
  have RH := hide (⟨R, ok⟩ : _ ∧ _)
  have hxH := hide hx
  have fewH := hide few
  clear R ok hx few
  obtain ⟨W0, hW0⟩ : ∃ W, w.alloc (.cells (List.replicate st.ws.length (Value.int .u8 0)).toArray 5) = W := ⟨_, rfl⟩
  rw [hW0] at hmk S0 cb2
  have hG0 : M < W0.heap.size := by rw [← hW0]; simp; omega
  clear hW0
  obtain ⟨n, hn⟩ : ∃ n, st.ws.length = n := ⟨_, rfl⟩
  rw [hn] at hmk cb cb2 fewH hxH
  have hnH := hide hn
  clear hn
  unfold ptr
  go_enter Try.func46, Try.ntmps46
  go_wp2
  clear hmk cb cb2
  go_loopw [18] (fun z wr => ∃ j : Nat, j ≤ n ∧ z = .int .i64 (j : Int) ∧ CR w wr st j) (fun z _ => n + 1 - (intOf z).toNat)
  case atStart => exact ⟨0, by omega, rfl, unhide S0⟩
  case round =>
    clear S0
    obtain ⟨j, hj, rfl, A⟩ := hrel
    by_cases hlt : j < n
    · have few := unhide fewH
      have k1 : (j : Int) < (n : Int) := by omega
      have j0 : (0 : Int) ≤ (j : Int) := by omega
      have wj : wrap64 ((j : Int) + 1) = (j : Int) + 1 := wrap_small (j + 1) (by omega)
      obtain ⟨R, ok⟩ := unhide RH
      have hn := unhide hnH
      obtain ⟨g, cap, l, hlj, hv, r0, r1, r2, r3, r4, r5⟩ := (R.quiet A.q).rb.cells j (by omega)
      obtain ⟨h1, h2⟩ : x = some ⟨g, 0, none⟩ ∧ cp = cap := by
        have := (unhide hxH).symm.trans hv
        simp at this; exact ⟨this.1, this.2.2⟩
      subst h1; subst h2
      obtain ⟨v0, hv0⟩ := candR_get st j (by omega)
      have hB : w.heap.size < wr.heap.size := A.b.lt
      obtain ⟨WA, hWA⟩ : ∃ W, wr.alloc (.cells (m6 (fw l) (str (txt l))) 85) = W := ⟨_, rfl⟩
      have BA : Blk WA w.heap.size 5 (candR st j) := by rw [← hWA]; exact A.b.alloc _
      have BW : Blk WA wr.heap.size 85 (m6 (fw l) (str (txt l))).toList := by rw [← hWA]; exact Blk.new wr 85 _
      have QA : Quiet w WA := by rw [← hWA]; exact Chg.alloc A.q _
      have y0 : WA.cell? ⟨wr.heap.size, 0, none⟩ = some (.int .i64 (fw l 0)) := BW.cell 0
      have y1 : WA.cell? ⟨wr.heap.size, 1, none⟩ = some (.int .i64 (fw l 1)) := BW.cell 1
      have y2 : WA.cell? ⟨wr.heap.size, 2, none⟩ = some (.int .i64 (fw l 2)) := BW.cell 2
      have y3 : WA.cell? ⟨wr.heap.size, 3, none⟩ = some (.int .i64 (fw l 3)) := BW.cell 3
      have y4 : WA.cell? ⟨wr.heap.size, 4, none⟩ = some (.int .i64 (fw l 4)) := BW.cell 4
      have y5 : WA.cell? ⟨wr.heap.size, 5, none⟩ = some (.string (str (txt l))) := BW.cell 5
      have hcl := agrees_any WA M vb vt st ok (R.quiet QA) l (str (txt l))
      unfold ptr m6 at hcl
      unfold m6 at hWA
      have hclH := hide hcl
      have BBH := hide BA
      have QBH := hide QA
      have hltH := hide hlt
      have hstep : Hid (∀ wv, Quiet w wv → Blk wv w.heap.size 5 ((candR st j).set j (u8 (candB st l))) → CR w wv st (j + 1)) := fun wv q b => ⟨q, by rw [candR_set st j l hlj] at b; exact b⟩
      have hlen : Hid ((candR st j).length = n ∧ j < n ∧ (candR st j)[j]? = some v0) := ⟨by rw [candR_len st j (by omega)]; exact hn, hlt, hv0⟩
      clear A hj hlt R ok hv hlj hv0 BA BW QA hcl few hn
      generalize str (txt l) = tl at *
      go_wp2_with fail
      refine (unhide hclH).mono ?_
      clear hclH y0 y1 y2 y3 y4 y5 r0 r1 r2 r3 r4 r5
      rintro e w2 ⟨rfl, q2⟩
      have b1 := q2.blk (unhide BBH)
      have Q1 := (unhide QBH).trans q2
      have ca : w2.cell? ⟨w.heap.size, j, none⟩ = some v0 := (b1.cell j).trans (unhide hlen).2.2
      have fa := b1.frozen j
      obtain ⟨w3, hw3⟩ : ∃ W, w2.setCell ⟨w.heap.size, j, none⟩ (.int .u8 48) = W := ⟨_, rfl⟩
      have b2 : Blk w3 w.heap.size 5 ((candR st j).set j (.int .u8 48)) := by rw [← hw3]; exact b1.set j _
      have Q2 : Quiet w w3 := by rw [← hw3]; exact Chg.setCell Q1 (p := ⟨w.heap.size, j, none⟩) (.inr (Nat.le_refl _)) _
      have c2 : w3.cell? ⟨w.heap.size, j, none⟩ = some (.int .u8 48) := (b2.cell j).trans (by rw [List.getElem?_set_self (by rw [(unhide hlen).1]; exact (unhide hlen).2.1)])
      have f2 := b2.frozen j
      clear b1 Q1 q2
      by_cases hag : agreeB st l = true
      · have b3 := b2.set j (.int .u8 49)
        rw [List.set_set] at b3
        have fin := hide (unhide hstep (w3.setCell ⟨w.heap.size, j, none⟩ (.int .u8 49)) (Chg.setCell Q2 (p := ⟨w.heap.size, j, none⟩) (.inr (Nat.le_refl _)) _) (by unfold candB; rw [hag]; exact b3))
        rw [hag]
        clear b2 b3 Q2 hstep hag BBH QBH
        go_wp2
        go_roundw
        case rel => exact ⟨j + 1, unhide hltH, by simp; try exact wj, unhide fin⟩
        case measure =>
          have h := unhide hltH
          first
            | exact meas_list h
            | (rw [wj]; exact meas_list h)
      · have hag : agreeB st l = false := by simpa using hag
        have fin := hide (unhide hstep w3 Q2 (by unfold candB; rw [hag]; exact b2))
        rw [hag]
        clear b2 Q2 hstep hag BBH QBH
        go_wp2
        go_roundw
        case rel => exact ⟨j + 1, unhide hltH, by simp; try exact wj, unhide fin⟩
        case measure =>
          have h := unhide hltH
          first
            | exact meas_list h
            | (rw [wj]; exact meas_list h)
    · have k1 : ¬ (j : Int) < (n : Int) := by omega
      obtain rfl : j = n := by omega
      have hn := unhide hnH
      have hcv : (convert 31 9 (.slice (some ⟨w.heap.size, 0, none⟩) j j)).run Try.prog wr = .ok (.string (str (candP st))) wr :=
        run_str_of_cells (P := Try.prog) wr 31 5 und31 Try.underlying5 w.heap.size 0 j j (candP st) (by unfold candP; simp [hn]) (fun i hi => by
          have hi' : i < st.ws.length := by omega
          rw [Nat.zero_add, A.b.cell i]
          unfold candR candP
          rw [List.getElem?_append_left (by simp; omega), List.getElem?_map, List.getElem?_take, if_pos hi, List.getElem?_eq_getElem hi']
          rw [List.getElem?_map, List.getElem?_eq_getElem hi']
          rfl) 9 Try.underlying9
      have qH := hide A.q
      clear A hlt hj hn
      go_wp2
      go_ret
      exact ⟨rfl, unhide qH⟩

/-! ### Check. -/
theorem mcheck_any (w : World) (M : Nat) (vb vt : Value) (st : St) (ok : st.Ok) (R : MG w M vb vt st) : Calls Try.prog 48 #[ptr M] w fun e w' => e = .returned (.bool true) ∧ Quiet w w' := by
  have few := ok.few
  have six := ok.six
  obtain ⟨x, cp, hx⟩ := R.rb.sl
  obtain ⟨x2, cp2, hx2⟩ := R.rt.sl
  have c0 : w.cell? ⟨M, 0, none⟩ = some vb := R.b.cell 0
  have c1 : w.cell? ⟨M, 1, none⟩ = some vt := R.b.cell 1
  have hM := R.b.lt
  rw [hx] at c0
  rw [hx2] at c1
  have d0 : (st.ws.length : Int) ≤ 8 := by omega
  have d1 : (st.ts.length : Int) ≤ 6 := by omega
  clear R hx hx2 ok few six
  generalize st.ws.length = n at *
  generalize st.ts.length = m at *
  unfold ptr
  go_enter Try.func48, Try.ntmps48
  go_wp2
  go_ret
  exact ⟨rfl, Chg.refl _ _⟩

/-! ### Start. -/
set_option maxHeartbeats 4000000 in
set_option maxRecDepth 100000 in
theorem mstart_any (w : World) (O : Nat → Prop) (M : Nat) (st : St) (ok : st.Ok) (h : MRep w O M st) (i hard : Int) : Calls Try.prog 44 #[ptr M, .int .i64 i, .int .i64 hard] w fun e w' => e = .returned (.int .i64 (startP st i hard).1) ∧ ∃ O', MRep w' O' M (startP st i hard).2 ∧ Chg O w w' ∧ ∀ x, O' x → O x ∨ w.heap.size ≤ x := by
  obtain ⟨vb, vt, R, hO⟩ := h
  have hM := R.b.lt
  have cb : w.cell? ⟨M, 0, none⟩ = some vb := R.b.cell 0
  obtain ⟨x, cp, hx⟩ := R.rb.sl
  rw [hx] at cb
  unfold ptr
  by_cases hbad : i < 0 ∨ (st.ws.length : Int) ≤ i
  · have hp : startP st i hard = (5, st) := by unfold startP; rw [if_pos hbad]
    rw [hp]
    have fin : Hid (∃ O', MRep w O' M st ∧ Chg O w w ∧ ∀ x, O' x → O x ∨ w.heap.size ≤ x) := ⟨O, ⟨vb, vt, R, hO⟩, Chg.refl _ _, fun x hx => .inl hx⟩
    clear R hO hp ok
    generalize st.ws.length = n at *
    rcases hbad with h1 | h1
    · clear cb hx
      go_enter Try.func44, Try.ntmps44
      go_wp2
      go_ret
      exact ⟨rfl, unhide fin⟩
    · by_cases h0 : i < 0
      · clear cb hx
        go_enter Try.func44, Try.ntmps44
        go_wp2
        go_ret
        exact ⟨rfl, unhide fin⟩
      · go_enter Try.func44, Try.ntmps44
        go_wp2
        go_ret
        exact ⟨rfl, unhide fin⟩
  · obtain ⟨j, rfl⟩ : ∃ j : Nat, i = j := ⟨i.toNat, by omega⟩
    have hjl : j < st.ws.length := by omega
    obtain ⟨g, cap, l, hlj, hv, r0, r1, r2, r3, r4, r5⟩ := R.rb.cells j hjl
    obtain ⟨h1, h2⟩ : x = some ⟨g, 0, none⟩ ∧ cp = cap := by
      have := hx.symm.trans hv
      simp at this; exact this
    subst h1; subst h2
    have k1 : ¬ (j : Int) < 0 := by omega
    have k2 : ¬ (st.ws.length : Int) ≤ (j : Int) := by omega
    have k3 : (j : Int) < (st.ws.length : Int) := by omega
    have k4 : (0 : Int) ≤ (j : Int) := by omega
    have hgM : g ≠ M := fun e => R.gb (by rw [hv]; simp [Value.ownBlock, e])
    have hp : startP st j hard = (0, ⟨st.ws, [], l, true, decide (hard ≠ 0)⟩) := by
      unfold startP; rw [if_neg (by omega)]
      rw [Int.toNat_natCast, List.getD_eq_getElem?_getD, hlj]; rfl
    rw [hp]
    have RH := hide (⟨R, hO, ok⟩ : _ ∧ _ ∧ _)
    obtain ⟨z0, z1, z2, z3, z4, zt, zh, BB⟩ : ∃ z0 z1 z2 z3 z4 zt zh, Blk w M 87 [vb, vt, .int .i64 z0, .int .i64 z1, .int .i64 z2, .int .i64 z3, .int .i64 z4, .string zt, .bool zh] := ⟨_, _, _, _, _, _, _, R.b⟩
    have c1 : w.cell? ⟨M, 1, none⟩ = some vt := BB.cell 1
    have c2 : w.cell? ⟨M, 2, none⟩ = some (.int .i64 z0) := BB.cell 2
    have c3 : w.cell? ⟨M, 3, none⟩ = some (.int .i64 z1) := BB.cell 3
    have c4 : w.cell? ⟨M, 4, none⟩ = some (.int .i64 z2) := BB.cell 4
    have c5 : w.cell? ⟨M, 5, none⟩ = some (.int .i64 z3) := BB.cell 5
    have c6 : w.cell? ⟨M, 6, none⟩ = some (.int .i64 z4) := BB.cell 6
    have c7 : w.cell? ⟨M, 7, none⟩ = some (.string zt) := BB.cell 7
    have c8 : w.cell? ⟨M, 8, none⟩ = some (.bool zh) := BB.cell 8
    have f1 := BB.frozen 1
    have f2 := BB.frozen 2
    have f3 := BB.frozen 3
    have f4 := BB.frozen 4
    have f5 := BB.frozen 5
    have f6 := BB.frozen 6
    have f7 := BB.frozen 7
    have f8 := BB.frozen 8
    have hvH := hide hv
    have BBH := hide BB
    have hT : Hid (txt l = txt l) := rfl
    clear R hO ok hx hv hbad hp BB hlj
    generalize st.ws.length = n at *
    obtain ⟨tl, htl⟩ : ∃ t, str (txt l) = t := ⟨_, rfl⟩
    rw [htl] at r5
    have htlH := hide htl
    clear htl
    go_enter Try.func44, Try.ntmps44
    go_wp2
    go_ret
    obtain ⟨R, hO, ok⟩ := unhide RH
    have B9 := ((((((((unhide BBH).set 2 (.int .i64 (fw l 0))).set 3 (.int .i64 (fw l 1))).set 4 (.int .i64 (fw l 2))).set 5 (.int .i64 (fw l 3))).set 6 (.int .i64 (fw l 4))).set 7 (.string tl)).set 8 (.bool (hard != 0))).set 1 (.slice none 0 0)
    have C9 := ((((((((Chg.refl (fun x => x = M) w).setCell (p := ⟨M, 2, none⟩) (.inl rfl) (.int .i64 (fw l 0))).setCell (p := ⟨M, 3, none⟩) (.inl rfl) (.int .i64 (fw l 1))).setCell (p := ⟨M, 4, none⟩) (.inl rfl) (.int .i64 (fw l 2))).setCell (p := ⟨M, 5, none⟩) (.inl rfl) (.int .i64 (fw l 3))).setCell (p := ⟨M, 6, none⟩) (.inl rfl) (.int .i64 (fw l 4))).setCell (p := ⟨M, 7, none⟩) (.inl rfl) (.string tl)).setCell (p := ⟨M, 8, none⟩) (.inl rfl) (.bool (hard != 0))).setCell (p := ⟨M, 1, none⟩) (.inl rfl) (.slice none 0 0)
    refine ⟨rfl, MO M vb (.slice none 0 0), ⟨vb, .slice none 0 0, ⟨?_, ?_, ?_, R.gb, by simp [Value.ownBlock], fun x hx => by simp [Value.ownBlock]⟩, fun x hx => hx⟩, C9.mono (fun x _ hx => hO x (.inl hx)), ?_⟩
    · have e : (hard != 0) = !decide (hard = 0) := by
        by_cases h : hard = 0 <;> simp [h]
      rw [e, ← unhide htlH] at B9
      rw [e, ← unhide htlH]
      exact B9
    · exact Row.of_chg R.rb C9 (fun x hx e => R.gb (by rw [hx, e]))
    · exact Row.nil _ _ _
    · rintro x (rfl | h | h)
      · exact .inl (hO _ (.inl rfl))
      · exact .inl (hO _ (.inr (.inl h)))
      · simp [Value.ownBlock] at h

/-! ### Show. -/
set_option maxHeartbeats 4000000 in
set_option maxRecDepth 100000 in
theorem mshow_any (w : World) (M : Nat) (vb vt : Value) (st : St) (ok : st.Ok) (R : MG w M vb vt st) : Calls Try.prog 42 #[ptr M] w fun e w' => e = .returned (.string (str (showP st))) ∧ Quiet w w' := by
  have few := ok.few
  have six := ok.six
  have hM := R.b.lt
  obtain ⟨x, cp, hx⟩ := R.rb.sl
  obtain ⟨x2, cp2, hx2⟩ := R.rt.sl
  have c0 : w.cell? ⟨M, 0, none⟩ = some vb := R.b.cell 0
  have c7 : w.cell? ⟨M, 7, none⟩ = some (.string (str (secT st))) := R.b.cell 7
  have c8 : w.cell? ⟨M, 8, none⟩ = some (.bool st.hd) := R.b.cell 8
  rw [hx] at c0
  have zt : (str (secT st)).size ≤ 20 := by
    rw [str_size]
    unfold secT
    split
    · have := txt_len st.sec; rw [ok.sec] at this; exact this
    · simp
  have RH := hide (⟨R, ok⟩ : _ ∧ _)
  have fewH := hide (⟨few, six⟩ : _ ∧ _)
  have hSS : Hid (headS st = secT st ++ headP1 st) := rfl
  have hdl : Hid ((headS st).length ≤ 22) := by
    show _ ≤ _
    have h1 : (secT st).length ≤ 20 := by rw [← str_size]; exact zt
    rw [unhide hSS, List.length_append]
    unfold headP1
    split <;> simp <;> omega
  obtain ⟨n, hn⟩ : ∃ n, st.ws.length = n := ⟨_, rfl⟩
  rw [hn] at c0 hx
  have hnH := hide hn
  have hxH := hide (⟨hx, hx2⟩ : _ ∧ _)
  clear R ok hx hx2 few six hn
  unfold ptr
  have key : ∀ hdv, st.hd = hdv → Calls Try.prog 42 #[.pointer (some ⟨M, 0, none⟩)] w fun e w' => e = .returned (.string (str (showP st))) ∧ Quiet w w' := by
    intro hdv hhd
    rw [hhd] at c8
    have hS : Hid (str (headS st) = str (secT st) ++ (if hdv then str [42, 59] else str [59])) := by
      show _ = _
      rw [unhide hSS, ← str_append]
      unfold headP1; rw [hhd]; cases hdv <;> rfl
    clear hhd
    generalize hG : str (secT st) = ss at *
    clear hG
    cases hdv with
    | false =>
      have hS0 : Hid (∀ s1, s1 = ss ++ ⟨#[59]⟩ → s1 = str (headS st)) := by
        show ∀ s1, _
        rintro s1 rfl
        rw [unhide hS]
        rfl
      go_enter Try.func42, Try.ntmps42
      go_wp2
      clear c0 c7 c8 zt
      go_loopw [3, 27] (fun s z wr => ∃ j : Nat, j ≤ n ∧ z = .int .i64 (j : Int) ∧ s = .string (str (wordsTo (headS st) st.ws j)) ∧ Quiet w wr) (fun _ z _ => n + 1 - (intOf z).toNat)
      case atStart => exact ⟨0, by omega, rfl, by rw [show wordsTo (headS st) st.ws 0 = headS st from rfl, ← unhide hS0 _ rfl], Chg.refl _ _⟩
      case round =>
        clear hS hS0
        obtain ⟨j, hj, rfl, rfl, q⟩ := hrel
        by_cases hlt : j < n
        · obtain ⟨few, six⟩ := unhide fewH
          have hn := unhide hnH
          have k1 : (j : Int) < (n : Int) := by omega
          have j0 : (0 : Int) ≤ (j : Int) := by omega
          have wj : wrap64 ((j : Int) + 1) = (j : Int) + 1 := wrap_small (j + 1) (by omega)
          obtain ⟨R, ok⟩ := unhide RH
          obtain ⟨g, cap, l, hlj, hv, r0, r1, r2, r3, r4, r5⟩ := (R.quiet q).rb.cells j (by omega)
          obtain ⟨h1, h2⟩ : x = some ⟨g, 0, none⟩ ∧ cp = cap := by
            have := (unhide hxH).1.symm.trans hv
            simp at this; first | exact ⟨this.1, this.2.2⟩ | exact ⟨this.1, this.2⟩
          subst h1; subst h2
          have hw := ok.ws l (List.mem_of_getElem? hlj)
          obtain ⟨WA, hWA⟩ : ∃ W, wr.alloc (.cells (m6 (fw l) (str (txt l))) 85) = W := ⟨_, rfl⟩
          have BW : Blk WA wr.heap.size 85 (m6 (fw l) (str (txt l))).toList := by rw [← hWA]; exact Blk.new wr 85 _
          have QA : Quiet w WA := by rw [← hWA]; exact Chg.alloc q _
          have e5 : WA.cell? ⟨wr.heap.size, 5, none⟩ = some (.string (str (txt l))) := BW.cell 5
          have hl1 := wordsTo_len (headS st) st.ws ok.ws j
          have hl2 := txt_len l
          rw [hw.1] at hl2
          have hd22 := unhide hdl
          have z1 : (str (wordsTo (headS st) st.ws j)).size ≤ 500 := by rw [str_size]; omega
          have z2 : (str (txt l)).size ≤ 20 := by rw [str_size]; omega
          have hsuc : Hid (str (wordsTo (headS st) st.ws (j + 1)) = str (wordsTo (headS st) st.ws j) ++ str (txt l) ++ ⟨#[44]⟩) := by
            show _ = _
            rw [wordsTo, List.getD_eq_getElem?_getD, hlj, ← str_append, ← str_append, ← ByteArray.append_assoc]; rfl
          have hltH := hide hlt
          have QAH := hide QA
          unfold m6 at hWA
          clear q hlt R ok hv hlj BW QA hw hl1 hl2 hd22 hj few six hn
          generalize str (wordsTo (headS st) st.ws j) = s1 at *
          generalize str (txt l) = s2 at *
          go_wp2
          go_roundw
          case rel => exact ⟨j + 1, unhide hltH, by simp; try exact wj, by rw [unhide hsuc], unhide QAH⟩
          case measure =>
            have h := unhide hltH
            first
              | exact meas_list h
              | (rw [wj]; exact meas_list h)
        · have k1 : ¬ (j : Int) < (n : Int) := by omega
          obtain rfl : j = n := by omega
          obtain ⟨R, ok⟩ := unhide RH
          have Q1 := hide q
          have ct : wr.cell? ⟨M, 1, none⟩ = some vt := Quiet.cell q (R.b.cell 1)
          rw [(unhide hxH).2] at ct
          obtain ⟨m, hm⟩ : ∃ m, st.ts.length = m := ⟨_, rfl⟩
          rw [hm] at ct hxH
          have hmH := hide hm
          have hn := unhide hnH
          have hl1 := wordsTo_len (headS st) st.ws ok.ws j
          have hd22 := unhide hdl
          have few := (unhide fewH).1
          have z1 : (str (wordsTo (headS st) st.ws j)).size ≤ 500 := by rw [str_size]; omega
          have hS2 : Hid (str (wordsTo (wordsTo (headS st) st.ws st.ws.length ++ [59]) st.ts 0) = str (wordsTo (headS st) st.ws j) ++ ⟨#[59]⟩) := by
            show _ = _
            rw [wordsTo, hn, ← str_append]; rfl
          clear R ok q hlt hj hm hn hl1 hd22 few
          generalize str (wordsTo (headS st) st.ws j) = s0 at *
          go_wp2
          clear ct z1
          go_loopw [3, 44] (fun s z wr => ∃ j : Nat, j ≤ m ∧ z = .int .i64 (j : Int) ∧ s = .string (str (wordsTo (wordsTo (headS st) st.ws st.ws.length ++ [59]) st.ts j)) ∧ Quiet w wr) (fun _ z _ => m + 1 - (intOf z).toNat)
          case atStart => exact ⟨0, by omega, rfl, by rw [unhide hS2], unhide Q1⟩
          case round =>
            clear Q1 hS2
            obtain ⟨j, hj, rfl, rfl, q⟩ := hrel
            by_cases hlt : j < m
            · obtain ⟨few, six⟩ := unhide fewH
              have hn := unhide hmH
              have k1 : (j : Int) < (m : Int) := by omega
              have j0 : (0 : Int) ≤ (j : Int) := by omega
              have wj : wrap64 ((j : Int) + 1) = (j : Int) + 1 := wrap_small (j + 1) (by omega)
              obtain ⟨R, ok⟩ := unhide RH
              obtain ⟨g, cap, l, hlj, hv, r0, r1, r2, r3, r4, r5⟩ := (R.quiet q).rt.cells j (by omega)
              obtain ⟨h1, h2⟩ : x2 = some ⟨g, 0, none⟩ ∧ cp2 = cap := by
                have := (unhide hxH).2.symm.trans hv
                simp at this; first | exact ⟨this.1, this.2.2⟩ | exact ⟨this.1, this.2⟩
              subst h1; subst h2
              have hw := ok.ts l (List.mem_of_getElem? hlj)
              obtain ⟨WA, hWA⟩ : ∃ W, wr.alloc (.cells (m6 (fw l) (str (txt l))) 85) = W := ⟨_, rfl⟩
              have BW : Blk WA wr.heap.size 85 (m6 (fw l) (str (txt l))).toList := by rw [← hWA]; exact Blk.new wr 85 _
              have QA : Quiet w WA := by rw [← hWA]; exact Chg.alloc q _
              have e5 : WA.cell? ⟨wr.heap.size, 5, none⟩ = some (.string (str (txt l))) := BW.cell 5
              have hl1 := wordsTo_len (wordsTo (headS st) st.ws st.ws.length ++ [59]) st.ts ok.ts j
              have hl2 := txt_len l
              rw [hw.1] at hl2
              have hd22 := unhide hdl
              have hl0 := wordsTo_len (headS st) st.ws ok.ws st.ws.length
              rw [List.length_append, List.length_singleton] at hl1
              have z1 : (str (wordsTo (wordsTo (headS st) st.ws st.ws.length ++ [59]) st.ts j)).size ≤ 500 := by rw [str_size]; omega
              have z2 : (str (txt l)).size ≤ 20 := by rw [str_size]; omega
              have hsuc : Hid (str (wordsTo (wordsTo (headS st) st.ws st.ws.length ++ [59]) st.ts (j + 1)) = str (wordsTo (wordsTo (headS st) st.ws st.ws.length ++ [59]) st.ts j) ++ str (txt l) ++ ⟨#[44]⟩) := by
                show _ = _
                rw [wordsTo, List.getD_eq_getElem?_getD, hlj, ← str_append, ← str_append, ← ByteArray.append_assoc]; rfl
              have hltH := hide hlt
              have QAH := hide QA
              unfold m6 at hWA
              clear q hlt R ok hv hlj BW QA hw hl1 hl2 hd22 hj few six hn hl0
              generalize str (wordsTo (wordsTo (headS st) st.ws st.ws.length ++ [59]) st.ts j) = s1 at *
              generalize str (txt l) = s2 at *
              go_wp2
              go_roundw
              case rel => exact ⟨j + 1, unhide hltH, by simp; try exact wj, by rw [unhide hsuc], unhide QAH⟩
              case measure =>
                have h := unhide hltH
                first
                  | exact meas_list h
                  | (rw [wj]; exact meas_list h)
            · have k1 : ¬ (j : Int) < (m : Int) := by omega
              obtain rfl : j = m := by omega
              obtain ⟨R, ok⟩ := unhide RH
              obtain ⟨few, six⟩ := unhide fewH
              have hn := unhide hnH
              have hm := unhide hmH
              have hcl := mcands_any wr M vb vt st ok (R.quiet q)
              unfold ptr at hcl
              have hclH := hide hcl
              have hd22 := unhide hdl
              have hl0 := wordsTo_len (headS st) st.ws ok.ws st.ws.length
              have hl1 := wordsTo_len (wordsTo (headS st) st.ws st.ws.length ++ [59]) st.ts ok.ts j
              rw [List.length_append, List.length_singleton] at hl1
              have z1 : (str (wordsTo (wordsTo (headS st) st.ws st.ws.length ++ [59]) st.ts j)).size ≤ 500 := by rw [str_size]; omega
              have z2 : (str (candP st)).size ≤ 8 := by rw [str_size]; unfold candP; rw [List.length_map]; exact few
              have fin : Hid (str (showP st) = (str (wordsTo (wordsTo (headS st) st.ws st.ws.length ++ [59]) st.ts j) ++ ⟨#[59]⟩) ++ str (candP st)) := by
                show _ = _
                unfold showP
                rw [hm, ← str_append, ← str_append]; rfl
              have qH := hide q
              clear q hlt R ok hj few six hn hm hcl hd22 hl0 hl1
              generalize str (wordsTo (wordsTo (headS st) st.ws st.ws.length ++ [59]) st.ts j) = s1 at *
              generalize str (candP st) = s2 at *
              go_wp2_with fail
              refine (unhide hclH).mono ?_
              clear hclH
              rintro e w2 ⟨rfl, q2⟩
              have Q2 := hide ((unhide qH).trans q2)
              clear qH q2
              go_wp2
              go_ret
              exact ⟨by rw [unhide fin]; rfl, unhide Q2⟩
    | true =>
      have hS0 : Hid (∀ s1, s1 = ss ++ ⟨#[42]⟩ ++ ⟨#[59]⟩ → s1 = str (headS st)) := by
        show ∀ s1, _
        rintro s1 rfl
        rw [unhide hS]
        rw [ByteArray.append_assoc]; rfl
      go_enter Try.func42, Try.ntmps42
      go_wp2
      clear c0 c7 c8 zt
      go_loopw [3, 27] (fun s z wr => ∃ j : Nat, j ≤ n ∧ z = .int .i64 (j : Int) ∧ s = .string (str (wordsTo (headS st) st.ws j)) ∧ Quiet w wr) (fun _ z _ => n + 1 - (intOf z).toNat)
      case atStart => exact ⟨0, by omega, rfl, by rw [show wordsTo (headS st) st.ws 0 = headS st from rfl, ← unhide hS0 _ rfl], Chg.refl _ _⟩
      case round =>
        clear hS hS0
        obtain ⟨j, hj, rfl, rfl, q⟩ := hrel
        by_cases hlt : j < n
        · obtain ⟨few, six⟩ := unhide fewH
          have hn := unhide hnH
          have k1 : (j : Int) < (n : Int) := by omega
          have j0 : (0 : Int) ≤ (j : Int) := by omega
          have wj : wrap64 ((j : Int) + 1) = (j : Int) + 1 := wrap_small (j + 1) (by omega)
          obtain ⟨R, ok⟩ := unhide RH
          obtain ⟨g, cap, l, hlj, hv, r0, r1, r2, r3, r4, r5⟩ := (R.quiet q).rb.cells j (by omega)
          obtain ⟨h1, h2⟩ : x = some ⟨g, 0, none⟩ ∧ cp = cap := by
            have := (unhide hxH).1.symm.trans hv
            simp at this; first | exact ⟨this.1, this.2.2⟩ | exact ⟨this.1, this.2⟩
          subst h1; subst h2
          have hw := ok.ws l (List.mem_of_getElem? hlj)
          obtain ⟨WA, hWA⟩ : ∃ W, wr.alloc (.cells (m6 (fw l) (str (txt l))) 85) = W := ⟨_, rfl⟩
          have BW : Blk WA wr.heap.size 85 (m6 (fw l) (str (txt l))).toList := by rw [← hWA]; exact Blk.new wr 85 _
          have QA : Quiet w WA := by rw [← hWA]; exact Chg.alloc q _
          have e5 : WA.cell? ⟨wr.heap.size, 5, none⟩ = some (.string (str (txt l))) := BW.cell 5
          have hl1 := wordsTo_len (headS st) st.ws ok.ws j
          have hl2 := txt_len l
          rw [hw.1] at hl2
          have hd22 := unhide hdl
          have z1 : (str (wordsTo (headS st) st.ws j)).size ≤ 500 := by rw [str_size]; omega
          have z2 : (str (txt l)).size ≤ 20 := by rw [str_size]; omega
          have hsuc : Hid (str (wordsTo (headS st) st.ws (j + 1)) = str (wordsTo (headS st) st.ws j) ++ str (txt l) ++ ⟨#[44]⟩) := by
            show _ = _
            rw [wordsTo, List.getD_eq_getElem?_getD, hlj, ← str_append, ← str_append, ← ByteArray.append_assoc]; rfl
          have hltH := hide hlt
          have QAH := hide QA
          unfold m6 at hWA
          clear q hlt R ok hv hlj BW QA hw hl1 hl2 hd22 hj few six hn
          generalize str (wordsTo (headS st) st.ws j) = s1 at *
          generalize str (txt l) = s2 at *
          go_wp2
          go_roundw
          case rel => exact ⟨j + 1, unhide hltH, by simp; try exact wj, by rw [unhide hsuc], unhide QAH⟩
          case measure =>
            have h := unhide hltH
            first
              | exact meas_list h
              | (rw [wj]; exact meas_list h)
        · have k1 : ¬ (j : Int) < (n : Int) := by omega
          obtain rfl : j = n := by omega
          obtain ⟨R, ok⟩ := unhide RH
          have Q1 := hide q
          have ct : wr.cell? ⟨M, 1, none⟩ = some vt := Quiet.cell q (R.b.cell 1)
          rw [(unhide hxH).2] at ct
          obtain ⟨m, hm⟩ : ∃ m, st.ts.length = m := ⟨_, rfl⟩
          rw [hm] at ct hxH
          have hmH := hide hm
          have hn := unhide hnH
          have hl1 := wordsTo_len (headS st) st.ws ok.ws j
          have hd22 := unhide hdl
          have few := (unhide fewH).1
          have z1 : (str (wordsTo (headS st) st.ws j)).size ≤ 500 := by rw [str_size]; omega
          have hS2 : Hid (str (wordsTo (wordsTo (headS st) st.ws st.ws.length ++ [59]) st.ts 0) = str (wordsTo (headS st) st.ws j) ++ ⟨#[59]⟩) := by
            show _ = _
            rw [wordsTo, hn, ← str_append]; rfl
          clear R ok q hlt hj hm hn hl1 hd22 few
          generalize str (wordsTo (headS st) st.ws j) = s0 at *
          go_wp2
          clear ct z1
          go_loopw [3, 44] (fun s z wr => ∃ j : Nat, j ≤ m ∧ z = .int .i64 (j : Int) ∧ s = .string (str (wordsTo (wordsTo (headS st) st.ws st.ws.length ++ [59]) st.ts j)) ∧ Quiet w wr) (fun _ z _ => m + 1 - (intOf z).toNat)
          case atStart => exact ⟨0, by omega, rfl, by rw [unhide hS2], unhide Q1⟩
          case round =>
            clear Q1 hS2
            obtain ⟨j, hj, rfl, rfl, q⟩ := hrel
            by_cases hlt : j < m
            · obtain ⟨few, six⟩ := unhide fewH
              have hn := unhide hmH
              have k1 : (j : Int) < (m : Int) := by omega
              have j0 : (0 : Int) ≤ (j : Int) := by omega
              have wj : wrap64 ((j : Int) + 1) = (j : Int) + 1 := wrap_small (j + 1) (by omega)
              obtain ⟨R, ok⟩ := unhide RH
              obtain ⟨g, cap, l, hlj, hv, r0, r1, r2, r3, r4, r5⟩ := (R.quiet q).rt.cells j (by omega)
              obtain ⟨h1, h2⟩ : x2 = some ⟨g, 0, none⟩ ∧ cp2 = cap := by
                have := (unhide hxH).2.symm.trans hv
                simp at this; first | exact ⟨this.1, this.2.2⟩ | exact ⟨this.1, this.2⟩
              subst h1; subst h2
              have hw := ok.ts l (List.mem_of_getElem? hlj)
              obtain ⟨WA, hWA⟩ : ∃ W, wr.alloc (.cells (m6 (fw l) (str (txt l))) 85) = W := ⟨_, rfl⟩
              have BW : Blk WA wr.heap.size 85 (m6 (fw l) (str (txt l))).toList := by rw [← hWA]; exact Blk.new wr 85 _
              have QA : Quiet w WA := by rw [← hWA]; exact Chg.alloc q _
              have e5 : WA.cell? ⟨wr.heap.size, 5, none⟩ = some (.string (str (txt l))) := BW.cell 5
              have hl1 := wordsTo_len (wordsTo (headS st) st.ws st.ws.length ++ [59]) st.ts ok.ts j
              have hl2 := txt_len l
              rw [hw.1] at hl2
              have hd22 := unhide hdl
              have hl0 := wordsTo_len (headS st) st.ws ok.ws st.ws.length
              rw [List.length_append, List.length_singleton] at hl1
              have z1 : (str (wordsTo (wordsTo (headS st) st.ws st.ws.length ++ [59]) st.ts j)).size ≤ 500 := by rw [str_size]; omega
              have z2 : (str (txt l)).size ≤ 20 := by rw [str_size]; omega
              have hsuc : Hid (str (wordsTo (wordsTo (headS st) st.ws st.ws.length ++ [59]) st.ts (j + 1)) = str (wordsTo (wordsTo (headS st) st.ws st.ws.length ++ [59]) st.ts j) ++ str (txt l) ++ ⟨#[44]⟩) := by
                show _ = _
                rw [wordsTo, List.getD_eq_getElem?_getD, hlj, ← str_append, ← str_append, ← ByteArray.append_assoc]; rfl
              have hltH := hide hlt
              have QAH := hide QA
              unfold m6 at hWA
              clear q hlt R ok hv hlj BW QA hw hl1 hl2 hd22 hj few six hn hl0
              generalize str (wordsTo (wordsTo (headS st) st.ws st.ws.length ++ [59]) st.ts j) = s1 at *
              generalize str (txt l) = s2 at *
              go_wp2
              go_roundw
              case rel => exact ⟨j + 1, unhide hltH, by simp; try exact wj, by rw [unhide hsuc], unhide QAH⟩
              case measure =>
                have h := unhide hltH
                first
                  | exact meas_list h
                  | (rw [wj]; exact meas_list h)
            · have k1 : ¬ (j : Int) < (m : Int) := by omega
              obtain rfl : j = m := by omega
              obtain ⟨R, ok⟩ := unhide RH
              obtain ⟨few, six⟩ := unhide fewH
              have hn := unhide hnH
              have hm := unhide hmH
              have hcl := mcands_any wr M vb vt st ok (R.quiet q)
              unfold ptr at hcl
              have hclH := hide hcl
              have hd22 := unhide hdl
              have hl0 := wordsTo_len (headS st) st.ws ok.ws st.ws.length
              have hl1 := wordsTo_len (wordsTo (headS st) st.ws st.ws.length ++ [59]) st.ts ok.ts j
              rw [List.length_append, List.length_singleton] at hl1
              have z1 : (str (wordsTo (wordsTo (headS st) st.ws st.ws.length ++ [59]) st.ts j)).size ≤ 500 := by rw [str_size]; omega
              have z2 : (str (candP st)).size ≤ 8 := by rw [str_size]; unfold candP; rw [List.length_map]; exact few
              have fin : Hid (str (showP st) = (str (wordsTo (wordsTo (headS st) st.ws st.ws.length ++ [59]) st.ts j) ++ ⟨#[59]⟩) ++ str (candP st)) := by
                show _ = _
                unfold showP
                rw [hm, ← str_append, ← str_append]; rfl
              have qH := hide q
              clear q hlt R ok hj few six hn hm hcl hd22 hl0 hl1
              generalize str (wordsTo (wordsTo (headS st) st.ws st.ws.length ++ [59]) st.ts j) = s1 at *
              generalize str (candP st) = s2 at *
              go_wp2_with fail
              refine (unhide hclH).mono ?_
              clear hclH
              rintro e w2 ⟨rfl, q2⟩
              have Q2 := hide ((unhide qH).trans q2)
              clear qH q2
              go_wp2
              go_ret
              exact ⟨by rw [unhide fin]; rfl, unhide Q2⟩
  exact key st.hd rfl
/-! ### Share. -/
theorem squareG (w : World) : Calls Try.prog 55 #[.int .u8 103] w fun e w' => e = .returned (.string ⟨#[240, 159, 159, 169]⟩) ∧ w' = w := by
  go_enter Try.func55, Try.ntmps55
  go_wp2
  go_ret
  exact ⟨rfl, rfl⟩
theorem squareY (w : World) : Calls Try.prog 55 #[.int .u8 121] w fun e w' => e = .returned (.string ⟨#[240, 159, 159, 168]⟩) ∧ w' = w := by
  go_enter Try.func55, Try.ntmps55
  go_wp2
  go_ret
  exact ⟨rfl, rfl⟩
theorem squareB (w : World) : Calls Try.prog 55 #[.int .u8 45] w fun e w' => e = .returned (.string ⟨#[226, 172, 156]⟩) ∧ w' = w := by
  go_enter Try.func55, Try.ntmps55
  go_wp2
  go_ret
  exact ⟨rfl, rfl⟩
set_option maxHeartbeats 4000000 in
set_option maxRecDepth 100000 in
theorem mshare_any (w : World) (M : Nat) (vb vt : Value) (st : St) (ok : st.Ok) (R : MG w M vb vt st) : Calls Try.prog 47 #[ptr M] w fun e w' => e = .returned (.tuple #[.string (str (shareP st).1), .int .i64 (shareP st).2]) ∧ Quiet w w' := by
  have hM := R.b.lt
  have six := ok.six
  have c7 : w.cell? ⟨M, 7, none⟩ = some (.string (str (secT st))) := R.b.cell 7
  unfold ptr
  unfold shareP
  cases hbg : st.bg with
  | false =>
    obtain ⟨hn1, hn2⟩ := secT_nil0 hbg
    clear R ok hbg six
    generalize str (secT st) = ss at *
    go_enter Try.func47, Try.ntmps47
    go_wp2
    go_ret2
    exact ⟨rfl, Chg.refl _ _⟩
  | true =>
    obtain ⟨hn1, hn2⟩ := secT_nil1 ok hbg
    obtain ⟨x2, cp2, hx2⟩ := R.rt.sl
    have c1 : w.cell? ⟨M, 1, none⟩ = some vt := R.b.cell 1
    rw [hx2] at c1
    have hit := itoa_any (st.ts.length : Int) w (by omega) (by omega)
    have z1 : (str (itoa (st.ts.length : Int))).size ≤ 20 := by rw [str_size]; exact itoa_length _
    have hitH := hide hit
    have RH := hide (⟨R, ok⟩ : _ ∧ _)
    obtain ⟨n, hn⟩ : ∃ n, st.ts.length = n := ⟨_, rfl⟩
    rw [hn] at c1 hx2 six hitH z1
    have key : ∀ hdv, st.hd = hdv → Calls Try.prog 47 #[.pointer (some ⟨M, 0, none⟩)] w fun e w' => e = .returned (.tuple #[.string (str (shareTo st st.ts.length)), .int .i64 0]) ∧ Quiet w w' := by
      intro hdv hhd
      have hS : Hid (str (shareTo st 0) = if hdv then str (itoa (n : Int)) ++ ⟨#[47, 54]⟩ ++ ⟨#[42]⟩ else str (itoa (n : Int)) ++ ⟨#[47, 54]⟩) := by
        show _ = _
        show str (shareHead st) = _
        unfold shareHead
        rw [hn, hhd]
        cases hdv
        · simp only [Bool.false_eq_true, if_false, List.append_nil]
          rw [← str_append]; rfl
        · simp only [if_true]
          rw [← str_append, ← str_append]; rfl
      have c8 : w.cell? ⟨M, 8, none⟩ = some (.bool hdv) := by rw [← hhd]; exact R.b.cell 8
      have hnH := hide hn
      have hxH := hide hx2
      clear R ok hhd hn hx2 hit hbg
      have sixH := hide six
      clear six
      generalize str (itoa (n : Int)) = s0 at *
      generalize str (secT st) = ss at *
      cases hdv
      all_goals
        go_enter Try.func47, Try.ntmps47
        go_wp2_with fail
        refine (unhide hitH).mono ?_
        clear hitH
        rintro e w1 ⟨rfl, q1⟩
        have d8 := Quiet.cell q1 c8
        have d1 := Quiet.cell q1 c1
        have q1H := hide q1
        clear q1 c1 c7 c8 hn1 hn2
        go_wp2
        clear d8 d1 z1
        go_loopw [4, 35] (fun s z wr => ∃ k : Nat, k ≤ n ∧ z = .int .i64 (k : Int) ∧ s = .string (str (shareTo st k)) ∧ Quiet w wr) (fun _ z _ => n + 1 - (intOf z).toNat)
        case atStart => exact ⟨0, by omega, rfl, by rw [unhide hS]; rfl, unhide q1H⟩
        case round =>
          clear q1H hS
          obtain ⟨k, hk, rfl, rfl, q⟩ := hrel
          by_cases hlt : k < n
          · obtain ⟨R, ok⟩ := unhide RH
            have hn := unhide hnH
            obtain ⟨g2, cap2, l, hl, hv, r0, r1, r2, r3, r4, r5⟩ := (R.quiet q).rt.cells k (by omega)
            obtain ⟨h1, h2⟩ : x2 = some ⟨g2, 0, none⟩ ∧ cp2 = cap2 := by
              have := (unhide hxH).symm.trans hv
              simp at this; exact ⟨this.1, this.2.2⟩
            subst h1; subst h2
            have six := unhide sixH
            have k1 : (k : Int) < (n : Int) := by omega
            have k0 : (0 : Int) ≤ (k : Int) := by omega
            have wk : wrap64 ((k : Int) + 1) = (k : Int) + 1 := wrap_small (k + 1) (by omega)
            have hl1 := shareTo_len st k
            have z1 : (str (shareTo st k)).size ≤ 200 := by rw [str_size]; omega
            have hsuc : Hid (∀ s1, s1 = str (shareTo st k) ++ ⟨#[10]⟩ → .string s1 = Value.string (str (shareTo st k ++ [10] ++ lineTo (trial st k) 0))) := by
              show ∀ s1, _
              rintro s1 rfl
              rw [show lineTo (trial st k) 0 = [] from rfl, List.append_nil, ← str_append]; rfl
            have hgd : fw (st.ts.getD k []) = fw l := by rw [List.getD_eq_getElem?_getD, hl]; rfl
            have htr : trial st k = marksL (fw st.sec) (fw l) := by unfold trial; rw [hgd]
            have hidx : Hid (∀ p : Nat, p < 5 → ∀ W, (Instr.index 9 (.string (str (trial st k))) (.int .i64 (p : Int))).run Try.prog W = .ok (.int .u8 ((markB (Mk.mark 5 (fw st.sec) (fw l) p)).toNat : Int)) W) := by
              show ∀ p, _
              intro p hp W
              rw [htr]; exact idx_marks _ _ p hp W
            have hmk : Hid (∀ p : Nat, p < 5 → (trial st k).getD p 0 = markB (Mk.mark 5 (fw st.sec) (fw l) p)) := by
              show ∀ p : Nat, p < 5 → _
              intro p hp
              rw [htr]
              rcases (by omega : p = 0 ∨ p = 1 ∨ p = 2 ∨ p = 3 ∨ p = 4) with rfl | rfl | rfl | rfl | rfl <;> rfl
            obtain ⟨W1, hW1⟩ : ∃ W, wr.alloc (.cells (m6 (fw l) (str (txt l))) 85) = W := ⟨_, rfl⟩
            have q1 : Quiet w W1 := by rw [← hW1]; exact Chg.alloc q _
            have BD : Blk W1 wr.heap.size 85 (m6 (fw l) (str (txt l))).toList := by rw [← hW1]; exact Blk.new wr 85 _
            have R1 := R.quiet q1
            have y2 : ∀ q : QW W1, q.w.cell? ⟨M, 2, none⟩ = some (.int .i64 (fw st.sec 0)) := fun q => QW.blk R1.b q 2
            have y3 : ∀ q : QW W1, q.w.cell? ⟨M, 3, none⟩ = some (.int .i64 (fw st.sec 1)) := fun q => QW.blk R1.b q 3
            have y4 : ∀ q : QW W1, q.w.cell? ⟨M, 4, none⟩ = some (.int .i64 (fw st.sec 2)) := fun q => QW.blk R1.b q 4
            have y5 : ∀ q : QW W1, q.w.cell? ⟨M, 5, none⟩ = some (.int .i64 (fw st.sec 3)) := fun q => QW.blk R1.b q 5
            have y6 : ∀ q : QW W1, q.w.cell? ⟨M, 6, none⟩ = some (.int .i64 (fw st.sec 4)) := fun q => QW.blk R1.b q 6
            have u0 : ∀ q : QW W1, q.w.cell? ⟨wr.heap.size, 0, none⟩ = some (.int .i64 (fw l 0)) := fun q => QW.blk BD q 0
            have u1 : ∀ q : QW W1, q.w.cell? ⟨wr.heap.size, 1, none⟩ = some (.int .i64 (fw l 1)) := fun q => QW.blk BD q 1
            have u2 : ∀ q : QW W1, q.w.cell? ⟨wr.heap.size, 2, none⟩ = some (.int .i64 (fw l 2)) := fun q => QW.blk BD q 2
            have u3 : ∀ q : QW W1, q.w.cell? ⟨wr.heap.size, 3, none⟩ = some (.int .i64 (fw l 3)) := fun q => QW.blk BD q 3
            have u4 : ∀ q : QW W1, q.w.cell? ⟨wr.heap.size, 4, none⟩ = some (.int .i64 (fw l 4)) := fun q => QW.blk BD q 4
            have hw : ∀ p, p < 5 → 0 ≤ fw l p := word_nonneg (ok.ts l (List.mem_of_getElem? hl))
            have hM1 : Hid (∀ W, Calls Try.prog 54 #[.agg #[Value.int .i64 (fw st.sec 0), Value.int .i64 (fw st.sec 1), Value.int .i64 (fw st.sec 2), Value.int .i64 (fw st.sec 3), Value.int .i64 (fw st.sec 4)], .agg #[Value.int .i64 (fw l 0), Value.int .i64 (fw l 1), Value.int .i64 (fw l 2), Value.int .i64 (fw l 3), Value.int .i64 (fw l 4)]] W fun e w' => e = .returned (.string (str (trial st k))) ∧ Quiet W w') := by
              show ∀ W, _
              intro W
              rw [htr]; exact marksM_any W (fw st.sec) (fw l) hw
            have hltH := hide hlt
            have q1H := hide q1
            have lenH : Hid ((shareTo st k).length ≤ 200) := by show _ ≤ _; omega
            unfold m6 at hW1
            clear R ok hn hv q q1 hl1 hk hlt six hl hgd R1 BD hw htr
            have hT : Hid (shareTo st (k + 1) = shareTo st k ++ [10] ++ lineTo (trial st k) 5) := rfl
            generalize trial st k = T at *
            generalize hP : shareTo st k = P0 at *
            clear hP
            generalize hSP : str P0 = SP at *
            generalize hTM : str T = TM at *
            generalize str (txt l) = tl at *
            go_wp2
            clear r0 r1 r2 r3 r4 r5
            refine wp_region_noPanic ?_
            try simp only [List.append_eq, List.cons_append, List.nil_append]
            refine wp_region_mixq [(0, true), (1, true), (2, true), (3, true), (4, true), (5, true), (6, true), (7, true), (8, true)] [] (by kernel_rfl) (by kernel_rfl) (fun _ _ _ _ _ h => h) ?_
            simp only [pickM, pickO, List.getElem?_cons_zero, List.getElem?_cons_succ]
            repeat (first | (refine wpMix_read rfl (fun K hK => ?_)) | (refine wpMix_pure rfl (fun K hK => ?_))
                    go_big_quiet_op
                    first | (refine hK _ ?_; clear hK K) | (apply Exists.intro; refine ⟨fun _ => ?_, ?_⟩; (· (first | (go_at_call 54; exact Calls.in_qw (unhide hM1 _)))); refine hK _ ?_; clear hK K))
            refine wpMix_nil ?_
            intro _ hw'
            obtain ⟨qq, hw''⟩ := hw'
            subst hw''
            have hqq := qq.q
            generalize qq.w = wq at *
            clear hM1 y2 y3 y4 y5 y6 u0 u1 u2 u3 u4
            have Q2 := hide (Quiet.trans (unhide q1H) hqq)
            clear hqq q1H
            go_wp2
            refine NoPanic.normal ?_
            go_wp2
            go_loopw [4, 8] (fun s z wv => ∃ p : Nat, p ≤ 5 ∧ z = .int .i64 (p : Int) ∧ s = .string (str (P0 ++ [10] ++ lineTo T p)) ∧ wv = wq) (fun _ z _ => 6 - (intOf z).toNat)
            case atStart => exact ⟨0, by omega, rfl, unhide hsuc _ rfl, rfl⟩
            case round =>
              obtain ⟨p, hp, rfl, rfl, rfl⟩ := hrel
              by_cases hI : p < 5
              · have p1 : (p : Int) < 5 := by omega
                have p0 : (0 : Int) ≤ (p : Int) := by omega
                have wp : wrap64 ((p : Int) + 1) = (p : Int) + 1 := wrap_small (p + 1) (by omega)
                have hxs := unhide hidx p hI
                have hmp := unhide hmk p hI
                have hll := lineTo_len T p
                have hlP := unhide lenH
                have zs : (str (P0 ++ [10] ++ lineTo T p)).size ≤ 300 := by
                  rw [str_size]; simp only [List.length_append, List.length_singleton]; omega
                have hltI := hide hI
                clear hp hI hll hlP
                rcases markB_cases (Mk.mark 5 (fw st.sec) (fw l) p) with ⟨hm, hB⟩ | ⟨hm, hB⟩ | ⟨hm, hm1, hB⟩
                · rw [hB] at hxs hmp
                  have hsq : Hid (Value.string (str (P0 ++ [10] ++ lineTo T p) ++ ⟨#[240, 159, 159, 169]⟩) = Value.string (str (P0 ++ [10] ++ lineTo T (p + 1)))) := by
                    show _ = _
                    rw [show lineTo T (p + 1) = lineTo T p ++ sqL (T.getD p 0) from rfl, hmp, ← List.append_assoc, ← str_append]
                    rfl
                  have hxs : ∀ W, (Instr.index 9 (.string TM) (.int .i64 (p : Int))).run Try.prog W = .ok (.int .u8 103) W := hxs
                  have hcl := hide (squareG wr)
                  clear hmp hB hm
                  generalize str (P0 ++ [10] ++ lineTo T p) = s1 at *
                  go_wp2_with fail
                  refine (unhide hcl).mono ?_
                  clear hcl
                  rintro e wx ⟨rfl, rfl⟩
                  go_wp2
                  go_roundw
                  case rel => exact ⟨p + 1, unhide hltI, by simp; try exact wp, unhide hsq, by first | rfl | trivial⟩
                  case measure =>
                    have h := unhide hltI
                    first
                      | exact meas_list h
                      | (rw [wp]; exact meas_list h)
                · rw [hB] at hxs hmp
                  have hsq : Hid (Value.string (str (P0 ++ [10] ++ lineTo T p) ++ ⟨#[240, 159, 159, 168]⟩) = Value.string (str (P0 ++ [10] ++ lineTo T (p + 1)))) := by
                    show _ = _
                    rw [show lineTo T (p + 1) = lineTo T p ++ sqL (T.getD p 0) from rfl, hmp, ← List.append_assoc, ← str_append]
                    rfl
                  have hxs : ∀ W, (Instr.index 9 (.string TM) (.int .i64 (p : Int))).run Try.prog W = .ok (.int .u8 121) W := hxs
                  have hcl := hide (squareY wr)
                  clear hmp hB hm
                  generalize str (P0 ++ [10] ++ lineTo T p) = s1 at *
                  go_wp2_with fail
                  refine (unhide hcl).mono ?_
                  clear hcl
                  rintro e wx ⟨rfl, rfl⟩
                  go_wp2
                  go_roundw
                  case rel => exact ⟨p + 1, unhide hltI, by simp; try exact wp, unhide hsq, by first | rfl | trivial⟩
                  case measure =>
                    have h := unhide hltI
                    first
                      | exact meas_list h
                      | (rw [wp]; exact meas_list h)
                · rw [hB] at hxs hmp
                  have hsq : Hid (Value.string (str (P0 ++ [10] ++ lineTo T p) ++ ⟨#[226, 172, 156]⟩) = Value.string (str (P0 ++ [10] ++ lineTo T (p + 1)))) := by
                    show _ = _
                    rw [show lineTo T (p + 1) = lineTo T p ++ sqL (T.getD p 0) from rfl, hmp, ← List.append_assoc, ← str_append]
                    rfl
                  have hxs : ∀ W, (Instr.index 9 (.string TM) (.int .i64 (p : Int))).run Try.prog W = .ok (.int .u8 45) W := hxs
                  have hcl := hide (squareB wr)
                  clear hmp hB hm hm1
                  generalize str (P0 ++ [10] ++ lineTo T p) = s1 at *
                  go_wp2_with fail
                  refine (unhide hcl).mono ?_
                  clear hcl
                  rintro e wx ⟨rfl, rfl⟩
                  go_wp2
                  go_roundw
                  case rel => exact ⟨p + 1, unhide hltI, by simp; try exact wp, unhide hsq, by first | rfl | trivial⟩
                  case measure =>
                    have h := unhide hltI
                    first
                      | exact meas_list h
                      | (rw [wp]; exact meas_list h)
              · obtain rfl : p = 5 := by omega
                have fin : Hid (str (P0 ++ [10] ++ lineTo T 5) = str (shareTo st (k + 1))) := by show _ = _; rw [unhide hT]
                clear hidx hmk hsuc lenH hp hI
                generalize str (P0 ++ [10] ++ lineTo T 5) = s1 at *
                go_wp2
                go_roundw
                case rel => exact ⟨k + 1, unhide hltH, by simp; try exact wk, by rw [unhide fin], unhide Q2⟩
                case measure =>
                  have h := unhide hltH
                  first
                    | exact meas_list h
                    | (rw [wk]; exact meas_list h)
          · have k1 : ¬ (k : Int) < (n : Int) := by omega
            obtain rfl : k = n := by omega
            have hn := unhide hnH
            have fin : Hid (str (shareTo st st.ts.length) = str (shareTo st k)) := by show _ = _; rw [hn]
            have qH := hide q
            clear q hk hlt hn
            generalize str (shareTo st k) = s1 at *
            go_wp2
            go_ret2
            exact ⟨by rw [unhide fin]; rfl, unhide qH⟩
    exact key st.hd rfl
end Go.Proofs.Qxb6500370a
