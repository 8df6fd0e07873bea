/-
  THE GHOSTS IN MEMORY; fits, cands, show, share. (gen70kgh.py)
-/
import Derived.Test.Qxb6500370aKWord
namespace Go.Proofs.Qxb6500370a
open Go.RowKit Go.Qx Go.Qx.Mk
set_option linter.unusedVariables false
set_option linter.unusedSimpArgs false

/-- The state with words of letters alone. -/
structure KOk (st : St) : Prop where
  ok : st.Ok
  ws : ∀ l ∈ st.ws, LW l
  ts : ∀ l ∈ st.ts, LW l
  sec : st.bg = true → LW st.sec
def txV (l : List Int) : Value := .string (str (txt l))
def hcs (vb vt vs : Value) (st : St) : List Value := [vb, vt, vs, .string (str (secT st)), .bool st.bg, .bool st.hd]
structure Gh (w : World) (g : Nat) (vb vt vs : Value) (st : St) : Prop where
  b : Blk w g 35 (hcs vb vt vs st)
  rb : Row w 9 1 vb st.ws.length (st.ws.map txV)
  rt : Row w 9 1 vt st.ts.length (st.ts.map txV)
  rs : Row w 9 1 vs st.ts.length (shownV st)
  gb : vb.ownBlock ≠ some g
  gt : vt.ownBlock ≠ some g
  gs : vs.ownBlock ≠ some g
  bt : ∀ x, vb.ownBlock = some x → vt.ownBlock ≠ some x
  bs : ∀ x, vb.ownBlock = some x → vs.ownBlock ≠ some x
  ts : ∀ x, vt.ownBlock = some x → vs.ownBlock ≠ some x
def HO (g : Nat) (vb vt vs : Value) (x : Nat) : Prop := x = g ∨ vb.ownBlock = some x ∨ vt.ownBlock = some x ∨ vs.ownBlock = some x
theorem Gh.of_chg {S : Nat → Prop} {w w' : World} {g : Nat} {vb vt vs : Value} {st : St} (h : Gh w g vb vt vs st) (c : Chg S w w') (hS : ∀ x, HO g vb vt vs x → ¬ S x) : Gh w' g vb vt vs st :=
  { h with b := c.blk h.b (hS _ (.inl rfl)), rb := h.rb.of_chg c (fun x hx => hS _ (.inr (.inl hx))), rt := h.rt.of_chg c (fun x hx => hS _ (.inr (.inr (.inl hx)))), rs := h.rs.of_chg c (fun x hx => hS _ (.inr (.inr (.inr hx)))) }
theorem Gh.quiet {w w' : World} {g : Nat} {vb vt vs : Value} {st : St} (h : Gh w g vb vt vs st) (c : Quiet w w') : Gh w' g vb vt vs st := h.of_chg c (fun _ _ => id)
theorem Gh.lts {w : World} {g : Nat} {vb vt vs : Value} {st : St} (R : Gh w g vb vt vs st) : ∀ k, HO g vb vt vs k → k < w.heap.size := by
  rintro k (rfl | h | h | h)
  · exact R.b.lt
  · exact R.rb.lt h
  · exact R.rt.lt h
  · exact R.rs.lt h
theorem _root_.Go.Qx.Row.one {w : World} {v : Value} {n : Nat} {xs : List Value} (h : Row w 9 1 v n xs) (k : Nat) (hk : k < n) (u : Value) (hu : xs[k]? = some u) : ∃ g cap, v = .slice (some ⟨g, 0, none⟩) n cap ∧ w.cell? ⟨g, k, none⟩ = some u := by
  rcases h.form with ⟨h1, h2, h3⟩ | ⟨g, cap, spare, hv, hb, _⟩
  · omega
  · refine ⟨g, cap, hv, ?_⟩
    have hl := h.len
    rw [hb.cell k, List.getElem?_append_left (by omega)]
    exact hu
theorem _root_.Go.Qx.Row.slice {w : World} {v : Value} {n : Nat} {xs : List Value} (h : Row w 9 1 v n xs) : ∃ x cp, v = .slice x n cp := by
  rcases h.form with ⟨h1, h2, h3⟩ | ⟨g, cap, spare, hv, hb, _⟩
  · exact ⟨none, 0, by rw [h1, h2]⟩
  · exact ⟨_, _, hv⟩
theorem tx_at {ws : List (List Int)} {k : Nat} {l : List Int} (h : ws[k]? = some l) : (ws.map txV)[k]? = some (.string (str (txt l))) := by
  rw [List.getElem?_map, h]; rfl
theorem sh_at {st : St} {k : Nat} {l : List Int} (h : st.ts[k]? = some l) : (shownV st)[k]? = some (.string (str (marksL (fw st.sec) (fw l)))) := by
  unfold shownV; rw [List.getElem?_map, h]; rfl

/-! ### fits. -/
set_option maxHeartbeats 4000000 in
set_option maxRecDepth 100000 in
theorem fits_any (w : World) (g : Nat) (vb vt vs : Value) (st : St) (ok : KOk st) (R : Gh w g vb vt vs st) (x : List Int) (hx : LW x) : Calls Try.prog 40 #[ptr g, .string (str (txt x))] w fun e w' => e = .returned (.bool (agreeB st x)) ∧ Quiet w w' := by
  have hG := R.b.lt
  have six := ok.ok.six
  obtain ⟨x2, cp2, hx2⟩ := R.rt.slice
  obtain ⟨x3, cp3, hx3⟩ := R.rs.slice
  obtain ⟨n, hn⟩ : ∃ n, st.ts.length = n := ⟨_, rfl⟩
  rw [hn] at hx2 hx3 six
  have RH := hide (⟨R, ok, hx⟩ : _ ∧ _ ∧ _)
  have hnH := hide hn
  have sixH := hide six
  have hxH := hide (⟨hx2, hx3⟩ : _ ∧ _)
  clear R ok hn six hx2 hx3 hx
  obtain ⟨tx, htx⟩ : ∃ t, str (txt x) = t := ⟨_, rfl⟩
  rw [htx]
  have htxH := hide htx
  clear htx
  unfold ptr
  go_enter Try.func40, Try.ntmps40
  go_wp2
  go_loopw [5] (fun z wr => ∃ k : Nat, k ≤ n ∧ z = .int .i64 (k : Int) ∧ Quiet w wr ∧ agreeTo st x k = true) (fun z _ => n + 1 - (intOf z).toNat)
  case atStart => exact ⟨0, by omega, rfl, Chg.refl _ _, rfl⟩
  case round =>
    obtain ⟨k, hk, rfl, q, ag⟩ := hrel
    obtain ⟨R, ok, hx⟩ := unhide RH
    have hn := unhide hnH
    have six := unhide sixH
    have R1 := R.quiet q
    have c1 : wr.cell? ⟨g, 1, none⟩ = some (.slice x2 n cp2) := by rw [← (unhide hxH).1]; exact R1.b.cell 1
    by_cases hlt : k < n
    · have k1 : (k : Int) < (n : Int) := by omega
      have k0 : (0 : Int) ≤ (k : Int) := by omega
      have wk : wrap64 ((k : Int) + 1) = (k : Int) + 1 := wrap_small (k + 1) (by omega)
      obtain ⟨l, hl⟩ : ∃ l, st.ts[k]? = some l := ⟨_, List.getElem?_eq_getElem (by omega)⟩
      obtain ⟨g2, cap2, hv, r0⟩ := R1.rt.one k (by omega) _ (tx_at hl)
      obtain ⟨g4, cap4, hv4, r1⟩ := R1.rs.one k (by omega) _ (sh_at hl)
      obtain ⟨h1, h2⟩ : x2 = some ⟨g2, 0, none⟩ ∧ cp2 = cap2 := by
        have := (unhide hxH).1.symm.trans hv
        simp at this; exact ⟨this.1, this.2.2⟩
      subst h1; subst h2
      obtain ⟨h1, h2⟩ : x3 = some ⟨g4, 0, none⟩ ∧ cp3 = cap4 := by
        have := (unhide hxH).2.symm.trans hv4
        simp at this; exact ⟨this.1, this.2.2⟩
      subst h1; subst h2
      have y1 : ∀ q : QW wr, q.w.cell? ⟨g, 1, none⟩ = some (.slice (some ⟨g2, 0, none⟩) n cp2) := fun q => Quiet.cell (QW.q q) c1
      have y2 : ∀ q : QW wr, q.w.cell? ⟨g, 2, none⟩ = some (.slice (some ⟨g4, 0, none⟩) n cp3) := fun q => Quiet.cell (QW.q q) (by rw [← (unhide hxH).2]; exact R1.b.cell 2)
      have hlw := ok.ts l (List.mem_of_getElem? hl)
      have hM1 : Hid (∀ W, Calls Try.prog 41 #[.string (str (txt x)), .string (str (txt l))] W fun e w' => e = .returned (.string (str (marksL (fw x) (fw l)))) ∧ Quiet W w') := fun W => kmarks_any W x l hx hlw
      have hs : Hid ((marksL (fw st.sec) (fw l) = marksL (fw x) (fw l) ∧ agreeTo st x (k + 1) = true) ∨ (¬ marksL (fw st.sec) (fw l) = marksL (fw x) (fw l) ∧ agreeB st x = false)) := by
        show _ ∨ _
        by_cases e : marksL (fw st.sec) (fw l) = marksL (fw x) (fw l)
        · exact .inl ⟨e, agreeTo_succ st x k l hl ag e⟩
        · exact .inr ⟨e, agree_no st x k l hl e⟩
      have qH := hide q
      have hltH := hide hlt
      rw [unhide htxH] at hM1
      clear R ok hn six hv hv4 R1 q hl hlt hk ag hx hlw
      rcases unhide hs with ⟨e1, e2⟩ | ⟨e1, e2⟩
      · have hq : ((str (marksL (fw x) (fw l))).toList == (str (marksL (fw st.sec) (fw l))).toList) = true := by rw [e1]; simp
        have e2H := hide e2
        clear hs e1 e2
        generalize str (marksL (fw st.sec) (fw l)) = A1 at *
        generalize str (marksL (fw x) (fw l)) = A2 at *
        generalize str (txt l) = tl at *
        have u0 : ∀ q : QW wr, q.w.cell? ⟨g2, k, none⟩ = some (.string tl) := fun q => Quiet.cell (QW.q q) r0
        have u1 : ∀ q : QW wr, q.w.cell? ⟨g4, k, none⟩ = some (.string A1) := fun q => Quiet.cell (QW.q q) r1
        clear r0 r1
        go_wp2
        clear c1
        refine wp_region_noPanic ?_
        try simp only [List.append_eq, List.cons_append, List.nil_append]
        refine wp_region_mixq [(0, true), (1, true), (2, true), (3, true), (4, true), (5, true), (6, true), (7, true), (8, true), (9, true), (10, true), (11, true), (12, true), (13, true), (14, true), (15, true), (16, true)] [] (by kernel_rfl) (by kernel_rfl) (fun _ _ _ _ _ h => h) ?_
        simp only [pickM, pickO, List.getElem?_cons_zero, List.getElem?_cons_succ]
        repeat (first | (refine wpMix_read rfl (fun K hK => ?_)) | (refine wpMix_pure rfl (fun K hK => ?_))
                go_big_quiet_op
                first | (refine hK _ ?_; clear hK K) | (apply Exists.intro; refine ⟨fun _ => ?_, ?_⟩; (· (first | (go_at_call 41; exact Calls.in_qw (unhide hM1 _)))); refine hK _ ?_; clear hK K))
        refine wpMix_nil ?_
        intro _ hw'
        obtain ⟨qq, hw''⟩ := hw'
        subst hw''
        have hqq := qq.q
        generalize qq.w = wq at *
        clear hM1 y1 y2 u0 u1
        have Q2 := hide (Quiet.trans (unhide qH) hqq)
        clear hqq qH
        go_wp2
        refine NoPanic.normal ?_
        go_wp2
        go_roundw
        case rel => exact ⟨k + 1, unhide hltH, by simp; try exact wk, unhide Q2, unhide e2H⟩
        case measure =>
          have h := unhide hltH
          first
            | exact meas_list h
            | (rw [wk]; exact meas_list h)
      · have hq : ((str (marksL (fw x) (fw l))).toList == (str (marksL (fw st.sec) (fw l))).toList) = false := by
          rw [beq_eq_false_iff_ne, str_toList, str_toList]; exact fun e => e1 e.symm
        have e2H := hide e2
        clear hs e1 e2
        generalize str (marksL (fw st.sec) (fw l)) = A1 at *
        generalize str (marksL (fw x) (fw l)) = A2 at *
        generalize str (txt l) = tl at *
        have u0 : ∀ q : QW wr, q.w.cell? ⟨g2, k, none⟩ = some (.string tl) := fun q => Quiet.cell (QW.q q) r0
        have u1 : ∀ q : QW wr, q.w.cell? ⟨g4, k, none⟩ = some (.string A1) := fun q => Quiet.cell (QW.q q) r1
        clear r0 r1
        go_wp2
        clear c1
        refine wp_region_noPanic ?_
        try simp only [List.append_eq, List.cons_append, List.nil_append]
        refine wp_region_mixq [(0, true), (1, true), (2, true), (3, true), (4, true), (5, true), (6, true), (7, true), (8, true), (9, true), (10, true), (11, true), (12, true), (13, true), (14, true), (15, true), (16, true)] [] (by kernel_rfl) (by kernel_rfl) (fun _ _ _ _ _ h => h) ?_
        simp only [pickM, pickO, List.getElem?_cons_zero, List.getElem?_cons_succ]
        repeat (first | (refine wpMix_read rfl (fun K hK => ?_)) | (refine wpMix_pure rfl (fun K hK => ?_))
                go_big_quiet_op
                first | (refine hK _ ?_; clear hK K) | (apply Exists.intro; refine ⟨fun _ => ?_, ?_⟩; (· (first | (go_at_call 41; exact Calls.in_qw (unhide hM1 _)))); refine hK _ ?_; clear hK K))
        refine wpMix_nil ?_
        intro _ hw'
        obtain ⟨qq, hw''⟩ := hw'
        subst hw''
        have hqq := qq.q
        generalize qq.w = wq at *
        clear hM1 y1 y2 u0 u1
        have Q2 := hide (Quiet.trans (unhide qH) hqq)
        clear hqq qH
        go_wp2
        refine NoPanic.normal ?_
        go_wp2
        go_ret
        exact ⟨by rw [unhide e2H]; rfl, unhide Q2⟩
    · have k1 : ¬ (k : Int) < (n : Int) := by omega
      have fin : Hid (agreeB st x = true) := by
        show _ = _
        rw [← agreeTo_all, hn]
        rwa [show k = n by omega] at ag
      have qH := hide q
      clear R ok hn six q ag hlt hk R1 hx
      go_wp2
      go_ret
      exact ⟨by rw [unhide fin]; rfl, unhide qH⟩

/-! ### cands. -/
set_option maxHeartbeats 4000000 in
set_option maxRecDepth 100000 in
theorem kcands_any (w : World) (g : Nat) (vb vt vs : Value) (st : St) (ok : KOk st) (R : Gh w g vb vt vs st) : Calls Try.prog 27 #[ptr g] w fun e w' => e = .returned (.string (str (candP st))) ∧ Quiet w w' := by
  have few := ok.ok.few
  have hM := R.b.lt
  obtain ⟨x, cp, hx⟩ := R.rb.slice
  have cb : w.cell? ⟨g, 0, none⟩ = some vb := R.b.cell 0
  rw [hx] at cb
  have hmk := makeB w st.ws.length (by omega)
  have S0 : Hid (CR w (w.alloc (.cells (List.replicate st.ws.length (Value.int .u8 0)).toArray 5)) st 0) := ⟨Chg.alloc (Chg.refl (fun _ => False) w) _, by
    have := Blk.new w 5 (List.replicate st.ws.length (Value.int .u8 0))
    exact this⟩
  have cb2 : (w.alloc (.cells (List.replicate st.ws.length (Value.int .u8 0)).toArray 5)).cell? ⟨g, 0, none⟩ = some (.slice x st.ws.length cp) := Quiet.cell (Chg.alloc (Chg.refl (fun _ => False) w) _) cb
  have RH := hide (⟨R, ok⟩ : _ ∧ _)
  have hxH := hide hx
  have fewH := hide few
  clear R ok hx few
  obtain ⟨W0, hW0⟩ : ∃ W, w.alloc (.cells (List.replicate st.ws.length (Value.int .u8 0)).toArray 5) = W := ⟨_, rfl⟩
  rw [hW0] at hmk S0 cb2
  have hG0 : g < W0.heap.size := by rw [← hW0]; simp; omega
  clear hW0
  obtain ⟨n, hn⟩ : ∃ n, st.ws.length = n := ⟨_, rfl⟩
  rw [hn] at hmk cb cb2 fewH hxH
  have hnH := hide hn
  clear hn
  unfold ptr
  go_enter Try.func27, Try.ntmps27
  go_wp2
  clear hmk cb cb2
  go_loopw [17] (fun z wr => ∃ j : Nat, j ≤ n ∧ z = .int .i64 (j : Int) ∧ CR w wr st j) (fun z _ => n + 1 - (intOf z).toNat)
  case atStart => exact ⟨0, by omega, rfl, unhide S0⟩
  case round =>
    clear S0
    obtain ⟨j, hj, rfl, A⟩ := hrel
    by_cases hlt : j < n
    · have few := unhide fewH
      have k1 : (j : Int) < (n : Int) := by omega
      have j0 : (0 : Int) ≤ (j : Int) := by omega
      have wj : wrap64 ((j : Int) + 1) = (j : Int) + 1 := wrap_small (j + 1) (by omega)
      obtain ⟨R, ok⟩ := unhide RH
      have hn := unhide hnH
      obtain ⟨l, hlj⟩ : ∃ l, st.ws[j]? = some l := ⟨_, List.getElem?_eq_getElem (by omega)⟩
      obtain ⟨g2, cap, hv, r0⟩ := (R.quiet A.q).rb.one j (by omega) _ (tx_at hlj)
      obtain ⟨h1, h2⟩ : x = some ⟨g2, 0, none⟩ ∧ cp = cap := by
        have := (unhide hxH).symm.trans hv
        simp at this; exact ⟨this.1, this.2.2⟩
      subst h1; subst h2
      obtain ⟨v0, hv0⟩ := candR_get st j (by omega)
      have ca : wr.cell? ⟨w.heap.size, j, none⟩ = some v0 := (A.b.cell j).trans hv0
      have fa := A.b.frozen j
      obtain ⟨w3, hw3⟩ : ∃ W, wr.setCell ⟨w.heap.size, j, none⟩ (.int .u8 48) = W := ⟨_, rfl⟩
      have b2 : Blk w3 w.heap.size 5 ((candR st j).set j (.int .u8 48)) := by rw [← hw3]; exact A.b.set j _
      have Q2 : Quiet w w3 := by rw [← hw3]; exact Chg.setCell A.q (p := ⟨w.heap.size, j, none⟩) (.inr (Nat.le_refl _)) _
      have hcl := fits_any w3 g vb vt vs st ok (R.quiet Q2) l (ok.ws l (List.mem_of_getElem? hlj))
      unfold ptr at hcl
      have hclH := hide hcl
      have BBH := hide b2
      have QBH := hide Q2
      have hltH := hide hlt
      have hstep : Hid (∀ wv, Quiet w wv → Blk wv w.heap.size 5 ((candR st j).set j (u8 (candB st l))) → CR w wv st (j + 1)) := fun wv q b => ⟨q, by rw [candR_set st j l hlj] at b; exact b⟩
      have hlen : Hid ((candR st j).length = n ∧ j < n) := ⟨by rw [candR_len st j (by omega)]; exact hn, hlt⟩
      clear A hj hlt R ok hv hlj hv0 b2 Q2 hcl few hn
      generalize str (txt l) = tl at *
      go_wp2_with fail
      refine (unhide hclH).mono ?_
      clear hclH r0 ca fa hw3
      rintro e w4 ⟨rfl, q4⟩
      have b2 := q4.blk (unhide BBH)
      have Q2 := (unhide QBH).trans q4
      have c2 : w4.cell? ⟨w.heap.size, j, none⟩ = some (.int .u8 48) := (b2.cell j).trans (by rw [List.getElem?_set_self (by rw [(unhide hlen).1]; exact (unhide hlen).2)])
      have f2 := b2.frozen j
      by_cases hag : agreeB st l = true
      · have b3 := b2.set j (.int .u8 49)
        rw [List.set_set] at b3
        have fin := hide (unhide hstep (w4.setCell ⟨w.heap.size, j, none⟩ (.int .u8 49)) (Chg.setCell Q2 (p := ⟨w.heap.size, j, none⟩) (.inr (Nat.le_refl _)) _) (by unfold candB; rw [hag]; exact b3))
        rw [hag]
        clear b2 b3 Q2 hstep hag BBH QBH q4
        go_wp2
        go_roundw
        case rel => exact ⟨j + 1, unhide hltH, by simp; try exact wj, unhide fin⟩
        case measure =>
          have h := unhide hltH
          first
            | exact meas_list h
            | (rw [wj]; exact meas_list h)
      · have hag : agreeB st l = false := by simpa using hag
        have fin := hide (unhide hstep w4 Q2 (by unfold candB; rw [hag]; exact b2))
        rw [hag]
        clear b2 Q2 hstep hag BBH QBH q4
        go_wp2
        go_roundw
        case rel => exact ⟨j + 1, unhide hltH, by simp; try exact wj, unhide fin⟩
        case measure =>
          have h := unhide hltH
          first
            | exact meas_list h
            | (rw [wj]; exact meas_list h)
    · have k1 : ¬ (j : Int) < (n : Int) := by omega
      obtain rfl : j = n := by omega
      have hn := unhide hnH
      have hcv : (convert 31 9 (.slice (some ⟨w.heap.size, 0, none⟩) j j)).run Try.prog wr = .ok (.string (str (candP st))) wr :=
        run_str_of_cells (P := Try.prog) wr 31 5 und31 Try.underlying5 w.heap.size 0 j j (candP st) (by unfold candP; simp [hn]) (fun i hi => by
          have hi' : i < st.ws.length := by omega
          rw [Nat.zero_add, A.b.cell i]
          unfold candR candP
          rw [List.getElem?_append_left (by simp; omega), List.getElem?_map, List.getElem?_take, if_pos hi, List.getElem?_eq_getElem hi']
          rw [List.getElem?_map, List.getElem?_eq_getElem hi']
          rfl) 9 Try.underlying9
      have qH := hide A.q
      clear A hlt hj hn
      go_wp2
      go_ret
      exact ⟨rfl, unhide qH⟩
/-! ### Show. -/
set_option maxHeartbeats 4000000 in
set_option maxRecDepth 100000 in
theorem kshow_any (w : World) (g0 : Nat) (vb vt vs : Value) (st : St) (ok : KOk st) (R : Gh w g0 vb vt vs st) : Calls Try.prog 29 #[ptr g0] w fun e w' => e = .returned (.string (str (showP st))) ∧ Quiet w w' := by
  have few := ok.ok.few
  have six := ok.ok.six
  have hM := R.b.lt
  obtain ⟨x, cp, hx⟩ := R.rb.slice
  obtain ⟨x2, cp2, hx2⟩ := R.rt.slice
  have c0 : w.cell? ⟨g0, 0, none⟩ = some vb := R.b.cell 0
  have c7 : w.cell? ⟨g0, 3, none⟩ = some (.string (str (secT st))) := R.b.cell 3
  have c8 : w.cell? ⟨g0, 5, none⟩ = some (.bool st.hd) := R.b.cell 5
  rw [hx] at c0
  have zt : (str (secT st)).size ≤ 20 := by
    rw [str_size]
    unfold secT
    split
    · have := txt_len st.sec; rw [ok.ok.sec] at this; exact this
    · simp
  have RH := hide (⟨R, ok⟩ : _ ∧ _)
  have fewH := hide (⟨few, six⟩ : _ ∧ _)
  have hSS : Hid (headS st = secT st ++ headP1 st) := rfl
  have hdl : Hid ((headS st).length ≤ 22) := by
    show _ ≤ _
    have h1 : (secT st).length ≤ 20 := by rw [← str_size]; exact zt
    rw [unhide hSS, List.length_append]
    unfold headP1
    split <;> simp <;> omega
  obtain ⟨n, hn⟩ : ∃ n, st.ws.length = n := ⟨_, rfl⟩
  rw [hn] at c0 hx
  have hnH := hide hn
  have hxH := hide (⟨hx, hx2⟩ : _ ∧ _)
  clear R ok hx hx2 few six hn
  unfold ptr
  have key : ∀ hdv, st.hd = hdv → Calls Try.prog 29 #[.pointer (some ⟨g0, 0, none⟩)] w fun e w' => e = .returned (.string (str (showP st))) ∧ Quiet w w' := by
    intro hdv hhd
    rw [hhd] at c8
    have hS : Hid (str (headS st) = str (secT st) ++ (if hdv then str [42, 59] else str [59])) := by
      show _ = _
      rw [unhide hSS, ← str_append]
      unfold headP1; rw [hhd]; cases hdv <;> rfl
    clear hhd
    generalize hG : str (secT st) = ss at *
    clear hG
    cases hdv with
    | false =>
      have hS0 : Hid (∀ s1, s1 = ss ++ ⟨#[59]⟩ → s1 = str (headS st)) := by
        show ∀ s1, _
        rintro s1 rfl
        rw [unhide hS]
        rfl
      go_enter Try.func29, Try.ntmps29
      go_wp2
      clear c0 c7 c8 zt
      go_loopw [3, 25] (fun s z wr => ∃ j : Nat, j ≤ n ∧ z = .int .i64 (j : Int) ∧ s = .string (str (wordsTo (headS st) st.ws j)) ∧ Quiet w wr) (fun _ z _ => n + 1 - (intOf z).toNat)
      case atStart => exact ⟨0, by omega, rfl, by rw [show wordsTo (headS st) st.ws 0 = headS st from rfl, ← unhide hS0 _ rfl], Chg.refl _ _⟩
      case round =>
        clear hS hS0
        obtain ⟨j, hj, rfl, rfl, q⟩ := hrel
        by_cases hlt : j < n
        · obtain ⟨few, six⟩ := unhide fewH
          have hn := unhide hnH
          have k1 : (j : Int) < (n : Int) := by omega
          have j0 : (0 : Int) ≤ (j : Int) := by omega
          have wj : wrap64 ((j : Int) + 1) = (j : Int) + 1 := wrap_small (j + 1) (by omega)
          obtain ⟨R, ok⟩ := unhide RH
          obtain ⟨l, hlj⟩ : ∃ l, st.ws[j]? = some l := ⟨_, List.getElem?_eq_getElem (by omega)⟩
          obtain ⟨g, cap, hv, r5⟩ := (R.quiet q).rb.one j (by omega) _ (tx_at hlj)
          obtain ⟨h1, h2⟩ : x = some ⟨g, 0, none⟩ ∧ cp = cap := by
            have := (unhide hxH).1.symm.trans hv
            simp at this; first | exact ⟨this.1, this.2.2⟩ | exact ⟨this.1, this.2⟩
          subst h1; subst h2
          have hw := ok.ws l (List.mem_of_getElem? hlj)
          have hl1 := wordsTo_len (headS st) st.ws ok.ok.ws j
          have hl2 := txt_len l
          rw [hw.1] at hl2
          have hd22 := unhide hdl
          have z1 : (str (wordsTo (headS st) st.ws j)).size ≤ 500 := by rw [str_size]; omega
          have z2 : (str (txt l)).size ≤ 20 := by rw [str_size]; omega
          have hsuc : Hid (str (wordsTo (headS st) st.ws (j + 1)) = str (wordsTo (headS st) st.ws j) ++ str (txt l) ++ ⟨#[44]⟩) := by
            show _ = _
            rw [wordsTo, List.getD_eq_getElem?_getD, hlj, ← str_append, ← str_append, ← ByteArray.append_assoc]; rfl
          have hltH := hide hlt
          have QAH := hide q
          clear q hlt R ok hv hlj hw hl1 hl2 hd22 hj few six hn
          generalize str (wordsTo (headS st) st.ws j) = s1 at *
          generalize str (txt l) = s2 at *
          go_wp2
          go_roundw
          case rel => exact ⟨j + 1, unhide hltH, by simp; try exact wj, by rw [unhide hsuc], unhide QAH⟩
          case measure =>
            have h := unhide hltH
            first
              | exact meas_list h
              | (rw [wj]; exact meas_list h)
        · have k1 : ¬ (j : Int) < (n : Int) := by omega
          obtain rfl : j = n := by omega
          obtain ⟨R, ok⟩ := unhide RH
          have Q1 := hide q
          have ct : wr.cell? ⟨g0, 1, none⟩ = some vt := Quiet.cell q (R.b.cell 1)
          rw [(unhide hxH).2] at ct
          obtain ⟨m, hm⟩ : ∃ m, st.ts.length = m := ⟨_, rfl⟩
          rw [hm] at ct hxH
          have hmH := hide hm
          have hn := unhide hnH
          have hl1 := wordsTo_len (headS st) st.ws ok.ok.ws j
          have hd22 := unhide hdl
          have few := (unhide fewH).1
          have z1 : (str (wordsTo (headS st) st.ws j)).size ≤ 500 := by rw [str_size]; omega
          have hS2 : Hid (str (wordsTo (wordsTo (headS st) st.ws st.ws.length ++ [59]) st.ts 0) = str (wordsTo (headS st) st.ws j) ++ ⟨#[59]⟩) := by
            show _ = _
            rw [wordsTo, hn, ← str_append]; rfl
          clear R ok q hlt hj hm hn hl1 hd22 few
          generalize str (wordsTo (headS st) st.ws j) = s0 at *
          go_wp2
          clear ct z1
          go_loopw [3, 41] (fun s z wr => ∃ j : Nat, j ≤ m ∧ z = .int .i64 (j : Int) ∧ s = .string (str (wordsTo (wordsTo (headS st) st.ws st.ws.length ++ [59]) st.ts j)) ∧ Quiet w wr) (fun _ z _ => m + 1 - (intOf z).toNat)
          case atStart => exact ⟨0, by omega, rfl, by rw [unhide hS2], unhide Q1⟩
          case round =>
            clear Q1 hS2
            obtain ⟨j, hj, rfl, rfl, q⟩ := hrel
            by_cases hlt : j < m
            · obtain ⟨few, six⟩ := unhide fewH
              have hn := unhide hmH
              have k1 : (j : Int) < (m : Int) := by omega
              have j0 : (0 : Int) ≤ (j : Int) := by omega
              have wj : wrap64 ((j : Int) + 1) = (j : Int) + 1 := wrap_small (j + 1) (by omega)
              obtain ⟨R, ok⟩ := unhide RH
              obtain ⟨l, hlj⟩ : ∃ l, st.ts[j]? = some l := ⟨_, List.getElem?_eq_getElem (by omega)⟩
              obtain ⟨g, cap, hv, r5⟩ := (R.quiet q).rt.one j (by omega) _ (tx_at hlj)
              obtain ⟨h1, h2⟩ : x2 = some ⟨g, 0, none⟩ ∧ cp2 = cap := by
                have := (unhide hxH).2.symm.trans hv
                simp at this; first | exact ⟨this.1, this.2.2⟩ | exact ⟨this.1, this.2⟩
              subst h1; subst h2
              have hw := ok.ts l (List.mem_of_getElem? hlj)
              have hl1 := wordsTo_len (wordsTo (headS st) st.ws st.ws.length ++ [59]) st.ts ok.ok.ts j
              have hl2 := txt_len l
              rw [hw.1] at hl2
              have hd22 := unhide hdl
              have hl0 := wordsTo_len (headS st) st.ws ok.ok.ws st.ws.length
              rw [List.length_append, List.length_singleton] at hl1
              have z1 : (str (wordsTo (wordsTo (headS st) st.ws st.ws.length ++ [59]) st.ts j)).size ≤ 500 := by rw [str_size]; omega
              have z2 : (str (txt l)).size ≤ 20 := by rw [str_size]; omega
              have hsuc : Hid (str (wordsTo (wordsTo (headS st) st.ws st.ws.length ++ [59]) st.ts (j + 1)) = str (wordsTo (wordsTo (headS st) st.ws st.ws.length ++ [59]) st.ts j) ++ str (txt l) ++ ⟨#[44]⟩) := by
                show _ = _
                rw [wordsTo, List.getD_eq_getElem?_getD, hlj, ← str_append, ← str_append, ← ByteArray.append_assoc]; rfl
              have hltH := hide hlt
              have QAH := hide q
              clear q hlt R ok hv hlj hw hl1 hl2 hd22 hj few six hn hl0
              generalize str (wordsTo (wordsTo (headS st) st.ws st.ws.length ++ [59]) st.ts j) = s1 at *
              generalize str (txt l) = s2 at *
              go_wp2
              go_roundw
              case rel => exact ⟨j + 1, unhide hltH, by simp; try exact wj, by rw [unhide hsuc], unhide QAH⟩
              case measure =>
                have h := unhide hltH
                first
                  | exact meas_list h
                  | (rw [wj]; exact meas_list h)
            · have k1 : ¬ (j : Int) < (m : Int) := by omega
              obtain rfl : j = m := by omega
              obtain ⟨R, ok⟩ := unhide RH
              obtain ⟨few, six⟩ := unhide fewH
              have hn := unhide hnH
              have hm := unhide hmH
              have hcl := kcands_any wr g0 vb vt vs st ok (R.quiet q)
              unfold ptr at hcl
              have hclH := hide hcl
              have hd22 := unhide hdl
              have hl0 := wordsTo_len (headS st) st.ws ok.ok.ws st.ws.length
              have hl1 := wordsTo_len (wordsTo (headS st) st.ws st.ws.length ++ [59]) st.ts ok.ok.ts j
              rw [List.length_append, List.length_singleton] at hl1
              have z1 : (str (wordsTo (wordsTo (headS st) st.ws st.ws.length ++ [59]) st.ts j)).size ≤ 500 := by rw [str_size]; omega
              have z2 : (str (candP st)).size ≤ 8 := by rw [str_size]; unfold candP; rw [List.length_map]; exact few
              have fin : Hid (str (showP st) = (str (wordsTo (wordsTo (headS st) st.ws st.ws.length ++ [59]) st.ts j) ++ ⟨#[59]⟩) ++ str (candP st)) := by
                show _ = _
                unfold showP
                rw [hm, ← str_append, ← str_append]; rfl
              have qH := hide q
              clear q hlt R ok hj few six hn hm hcl hd22 hl0 hl1
              generalize str (wordsTo (wordsTo (headS st) st.ws st.ws.length ++ [59]) st.ts j) = s1 at *
              generalize str (candP st) = s2 at *
              go_wp2_with fail
              refine (unhide hclH).mono ?_
              clear hclH
              rintro e w2 ⟨rfl, q2⟩
              have Q2 := hide ((unhide qH).trans q2)
              clear qH q2
              go_wp2
              go_ret
              exact ⟨by rw [unhide fin]; rfl, unhide Q2⟩
    | true =>
      have hS0 : Hid (∀ s1, s1 = ss ++ ⟨#[42]⟩ ++ ⟨#[59]⟩ → s1 = str (headS st)) := by
        show ∀ s1, _
        rintro s1 rfl
        rw [unhide hS]
        rw [ByteArray.append_assoc]; rfl
      go_enter Try.func29, Try.ntmps29
      go_wp2
      clear c0 c7 c8 zt
      go_loopw [3, 25] (fun s z wr => ∃ j : Nat, j ≤ n ∧ z = .int .i64 (j : Int) ∧ s = .string (str (wordsTo (headS st) st.ws j)) ∧ Quiet w wr) (fun _ z _ => n + 1 - (intOf z).toNat)
      case atStart => exact ⟨0, by omega, rfl, by rw [show wordsTo (headS st) st.ws 0 = headS st from rfl, ← unhide hS0 _ rfl], Chg.refl _ _⟩
      case round =>
        clear hS hS0
        obtain ⟨j, hj, rfl, rfl, q⟩ := hrel
        by_cases hlt : j < n
        · obtain ⟨few, six⟩ := unhide fewH
          have hn := unhide hnH
          have k1 : (j : Int) < (n : Int) := by omega
          have j0 : (0 : Int) ≤ (j : Int) := by omega
          have wj : wrap64 ((j : Int) + 1) = (j : Int) + 1 := wrap_small (j + 1) (by omega)
          obtain ⟨R, ok⟩ := unhide RH
          obtain ⟨l, hlj⟩ : ∃ l, st.ws[j]? = some l := ⟨_, List.getElem?_eq_getElem (by omega)⟩
          obtain ⟨g, cap, hv, r5⟩ := (R.quiet q).rb.one j (by omega) _ (tx_at hlj)
          obtain ⟨h1, h2⟩ : x = some ⟨g, 0, none⟩ ∧ cp = cap := by
            have := (unhide hxH).1.symm.trans hv
            simp at this; first | exact ⟨this.1, this.2.2⟩ | exact ⟨this.1, this.2⟩
          subst h1; subst h2
          have hw := ok.ws l (List.mem_of_getElem? hlj)
          have hl1 := wordsTo_len (headS st) st.ws ok.ok.ws j
          have hl2 := txt_len l
          rw [hw.1] at hl2
          have hd22 := unhide hdl
          have z1 : (str (wordsTo (headS st) st.ws j)).size ≤ 500 := by rw [str_size]; omega
          have z2 : (str (txt l)).size ≤ 20 := by rw [str_size]; omega
          have hsuc : Hid (str (wordsTo (headS st) st.ws (j + 1)) = str (wordsTo (headS st) st.ws j) ++ str (txt l) ++ ⟨#[44]⟩) := by
            show _ = _
            rw [wordsTo, List.getD_eq_getElem?_getD, hlj, ← str_append, ← str_append, ← ByteArray.append_assoc]; rfl
          have hltH := hide hlt
          have QAH := hide q
          clear q hlt R ok hv hlj hw hl1 hl2 hd22 hj few six hn
          generalize str (wordsTo (headS st) st.ws j) = s1 at *
          generalize str (txt l) = s2 at *
          go_wp2
          go_roundw
          case rel => exact ⟨j + 1, unhide hltH, by simp; try exact wj, by rw [unhide hsuc], unhide QAH⟩
          case measure =>
            have h := unhide hltH
            first
              | exact meas_list h
              | (rw [wj]; exact meas_list h)
        · have k1 : ¬ (j : Int) < (n : Int) := by omega
          obtain rfl : j = n := by omega
          obtain ⟨R, ok⟩ := unhide RH
          have Q1 := hide q
          have ct : wr.cell? ⟨g0, 1, none⟩ = some vt := Quiet.cell q (R.b.cell 1)
          rw [(unhide hxH).2] at ct
          obtain ⟨m, hm⟩ : ∃ m, st.ts.length = m := ⟨_, rfl⟩
          rw [hm] at ct hxH
          have hmH := hide hm
          have hn := unhide hnH
          have hl1 := wordsTo_len (headS st) st.ws ok.ok.ws j
          have hd22 := unhide hdl
          have few := (unhide fewH).1
          have z1 : (str (wordsTo (headS st) st.ws j)).size ≤ 500 := by rw [str_size]; omega
          have hS2 : Hid (str (wordsTo (wordsTo (headS st) st.ws st.ws.length ++ [59]) st.ts 0) = str (wordsTo (headS st) st.ws j) ++ ⟨#[59]⟩) := by
            show _ = _
            rw [wordsTo, hn, ← str_append]; rfl
          clear R ok q hlt hj hm hn hl1 hd22 few
          generalize str (wordsTo (headS st) st.ws j) = s0 at *
          go_wp2
          clear ct z1
          go_loopw [3, 41] (fun s z wr => ∃ j : Nat, j ≤ m ∧ z = .int .i64 (j : Int) ∧ s = .string (str (wordsTo (wordsTo (headS st) st.ws st.ws.length ++ [59]) st.ts j)) ∧ Quiet w wr) (fun _ z _ => m + 1 - (intOf z).toNat)
          case atStart => exact ⟨0, by omega, rfl, by rw [unhide hS2], unhide Q1⟩
          case round =>
            clear Q1 hS2
            obtain ⟨j, hj, rfl, rfl, q⟩ := hrel
            by_cases hlt : j < m
            · obtain ⟨few, six⟩ := unhide fewH
              have hn := unhide hmH
              have k1 : (j : Int) < (m : Int) := by omega
              have j0 : (0 : Int) ≤ (j : Int) := by omega
              have wj : wrap64 ((j : Int) + 1) = (j : Int) + 1 := wrap_small (j + 1) (by omega)
              obtain ⟨R, ok⟩ := unhide RH
              obtain ⟨l, hlj⟩ : ∃ l, st.ts[j]? = some l := ⟨_, List.getElem?_eq_getElem (by omega)⟩
              obtain ⟨g, cap, hv, r5⟩ := (R.quiet q).rt.one j (by omega) _ (tx_at hlj)
              obtain ⟨h1, h2⟩ : x2 = some ⟨g, 0, none⟩ ∧ cp2 = cap := by
                have := (unhide hxH).2.symm.trans hv
                simp at this; first | exact ⟨this.1, this.2.2⟩ | exact ⟨this.1, this.2⟩
              subst h1; subst h2
              have hw := ok.ts l (List.mem_of_getElem? hlj)
              have hl1 := wordsTo_len (wordsTo (headS st) st.ws st.ws.length ++ [59]) st.ts ok.ok.ts j
              have hl2 := txt_len l
              rw [hw.1] at hl2
              have hd22 := unhide hdl
              have hl0 := wordsTo_len (headS st) st.ws ok.ok.ws st.ws.length
              rw [List.length_append, List.length_singleton] at hl1
              have z1 : (str (wordsTo (wordsTo (headS st) st.ws st.ws.length ++ [59]) st.ts j)).size ≤ 500 := by rw [str_size]; omega
              have z2 : (str (txt l)).size ≤ 20 := by rw [str_size]; omega
              have hsuc : Hid (str (wordsTo (wordsTo (headS st) st.ws st.ws.length ++ [59]) st.ts (j + 1)) = str (wordsTo (wordsTo (headS st) st.ws st.ws.length ++ [59]) st.ts j) ++ str (txt l) ++ ⟨#[44]⟩) := by
                show _ = _
                rw [wordsTo, List.getD_eq_getElem?_getD, hlj, ← str_append, ← str_append, ← ByteArray.append_assoc]; rfl
              have hltH := hide hlt
              have QAH := hide q
              clear q hlt R ok hv hlj hw hl1 hl2 hd22 hj few six hn hl0
              generalize str (wordsTo (wordsTo (headS st) st.ws st.ws.length ++ [59]) st.ts j) = s1 at *
              generalize str (txt l) = s2 at *
              go_wp2
              go_roundw
              case rel => exact ⟨j + 1, unhide hltH, by simp; try exact wj, by rw [unhide hsuc], unhide QAH⟩
              case measure =>
                have h := unhide hltH
                first
                  | exact meas_list h
                  | (rw [wj]; exact meas_list h)
            · have k1 : ¬ (j : Int) < (m : Int) := by omega
              obtain rfl : j = m := by omega
              obtain ⟨R, ok⟩ := unhide RH
              obtain ⟨few, six⟩ := unhide fewH
              have hn := unhide hnH
              have hm := unhide hmH
              have hcl := kcands_any wr g0 vb vt vs st ok (R.quiet q)
              unfold ptr at hcl
              have hclH := hide hcl
              have hd22 := unhide hdl
              have hl0 := wordsTo_len (headS st) st.ws ok.ok.ws st.ws.length
              have hl1 := wordsTo_len (wordsTo (headS st) st.ws st.ws.length ++ [59]) st.ts ok.ok.ts j
              rw [List.length_append, List.length_singleton] at hl1
              have z1 : (str (wordsTo (wordsTo (headS st) st.ws st.ws.length ++ [59]) st.ts j)).size ≤ 500 := by rw [str_size]; omega
              have z2 : (str (candP st)).size ≤ 8 := by rw [str_size]; unfold candP; rw [List.length_map]; exact few
              have fin : Hid (str (showP st) = (str (wordsTo (wordsTo (headS st) st.ws st.ws.length ++ [59]) st.ts j) ++ ⟨#[59]⟩) ++ str (candP st)) := by
                show _ = _
                unfold showP
                rw [hm, ← str_append, ← str_append]; rfl
              have qH := hide q
              clear q hlt R ok hj few six hn hm hcl hd22 hl0 hl1
              generalize str (wordsTo (wordsTo (headS st) st.ws st.ws.length ++ [59]) st.ts j) = s1 at *
              generalize str (candP st) = s2 at *
              go_wp2_with fail
              refine (unhide hclH).mono ?_
              clear hclH
              rintro e w2 ⟨rfl, q2⟩
              have Q2 := hide ((unhide qH).trans q2)
              clear qH q2
              go_wp2
              go_ret
              exact ⟨by rw [unhide fin]; rfl, unhide Q2⟩
  exact key st.hd rfl
/-! ### share. -/
def zans : List Value := [.int .i64 0, .int .i64 0, .string ⟨#[]⟩]
theorem digit_slice (n : Nat) (h : n ≤ 6) (W : World) : (Instr.slice 9 (.string ⟨#[48, 49, 50, 51, 52, 53, 54]⟩) (some (.int .i64 (n : Int))) (some (.int .i64 ((n : Int) + 1))) none).run Try.prog W = .ok (.string (str (itoa (n : Int)))) W := by
  have hz : (⟨#[48, 49, 50, 51, 52, 53, 54]⟩ : ByteArray).size = 7 := rfl
  rw [run_slice_string W 9 _ .i64 .i64 n ((n : Int) + 1) Try.underlying9 (by omega) (by omega) (by rw [hz]; omega)]
  congr 2
  rcases (by omega : n = 0 ∨ n = 1 ∨ n = 2 ∨ n = 3 ∨ n = 4 ∨ n = 5 ∨ n = 6) with rfl | rfl | rfl | rfl | rfl | rfl | rfl <;> rfl
theorem zans3 {w : World} {b : Nat} (h : Blk w b 39 zans) (e n : Int) (s : ByteArray) : Blk (((w.setCell ⟨b, 0, none⟩ (.int .i64 e)).setCell ⟨b, 1, none⟩ (.int .i64 n)).setCell ⟨b, 2, none⟩ (.string s)) b 39 (ansC e n s) := ((h.set 0 _).set 1 _).set 2 _
theorem quiet3 {w w' : World} (h : Quiet w w') (a b c : Value) : Quiet w (((w'.setCell ⟨w.heap.size, 0, none⟩ a).setCell ⟨w.heap.size, 1, none⟩ b).setCell ⟨w.heap.size, 2, none⟩ c) :=
  ((h.setCell (.inr (Nat.le_refl _)) _).setCell (.inr (Nat.le_refl _)) _).setCell (.inr (Nat.le_refl _)) _
set_option maxHeartbeats 4000000 in
set_option maxRecDepth 100000 in
theorem kshare_any (w : World) (g0 : Nat) (vb vt vs : Value) (st : St) (ok : KOk st) (R : Gh w g0 vb vt vs st) : Calls Try.prog 28 #[ptr g0] w fun e w' => e = .returned (ansv (shareP st).2 0 (str (shareP st).1)) ∧ Quiet w w' := by
  have hG := R.b.lt
  have six := ok.ok.six
  have bz : Blk (w.alloc (.cells zans.toArray 39)) w.heap.size 39 zans := Blk.new w 39 zans
  have qz : Quiet w (w.alloc (.cells zans.toArray 39)) := (Chg.refl _ _).alloc _
  obtain ⟨W0, hW0⟩ : ∃ W, w.alloc (.cells zans.toArray 39) = W := ⟨_, rfl⟩
  rw [hW0] at bz qz
  have hW0' : w.alloc (.cells #[.int .i64 0, .int .i64 0, .string ⟨#[]⟩] 39) = W0 := hW0
  clear hW0
  have R0 := R.quiet qz
  have z0 : W0.cell? ⟨w.heap.size, 0, none⟩ = some (.int .i64 0) := bz.cell 0
  have z1 : W0.cell? ⟨w.heap.size, 1, none⟩ = some (.int .i64 0) := bz.cell 1
  have z2 : W0.cell? ⟨w.heap.size, 2, none⟩ = some (.string ⟨#[]⟩) := bz.cell 2
  have f0 := bz.frozen 0
  have f1 := bz.frozen 1
  have f2 := bz.frozen 2
  have c4 : W0.cell? ⟨g0, 4, none⟩ = some (.bool st.bg) := R0.b.cell 4
  have bqH := hide (⟨bz, qz⟩ : _ ∧ _)
  clear bz qz
  unfold ptr
  unfold shareP
  cases hbg : st.bg with
  | false =>
    rw [hbg] at c4
    clear R R0 ok hbg six
    go_enter Try.func28, Try.ntmps28
    go_wp2
    exact bodyPost_ret (v := ansv 6 0 ⟨#[]⟩) (results_blk (u := 39) (cs := ansC 6 0 ⟨#[]⟩) Try.results28 rfl Try.isAgg39 Try.sizeOf39 (zans3 (unhide bqH).1 6 0 ⟨#[]⟩)) rfl ⟨rfl, quiet3 (unhide bqH).2 _ _ _⟩
  | true =>
    rw [hbg] at c4
    obtain ⟨x2, cp2, hx2⟩ := R.rt.slice
    obtain ⟨x3, cp3, hx3⟩ := R.rs.slice
    have c1 : W0.cell? ⟨g0, 1, none⟩ = some vt := R0.b.cell 1
    have c2 : W0.cell? ⟨g0, 2, none⟩ = some vs := R0.b.cell 2
    rw [hx2] at c1
    rw [hx3] at c2
    have hdg := digit_slice st.ts.length six
    have zs0 : (str (itoa (st.ts.length : Int))).size ≤ 20 := by rw [str_size]; exact itoa_length _
    have RH := hide (⟨R0, ok⟩ : _ ∧ _)
    obtain ⟨n, hn⟩ : ∃ n, st.ts.length = n := ⟨_, rfl⟩
    rw [hn] at c1 c2 hx2 hx3 six hdg zs0
    have key : ∀ hdv, st.hd = hdv → Calls Try.prog 28 #[.pointer (some ⟨g0, 0, none⟩)] w fun e w' => e = .returned (ansv 0 0 (str (shareTo st st.ts.length))) ∧ Quiet w w' := by
      intro hdv hhd
      have hS : Hid (str (shareTo st 0) = if hdv then str (itoa (n : Int)) ++ ⟨#[47, 54]⟩ ++ ⟨#[42]⟩ else str (itoa (n : Int)) ++ ⟨#[47, 54]⟩) := by
        show _ = _
        show str (shareHead st) = _
        unfold shareHead
        rw [hn, hhd]
        cases hdv
        · simp only [Bool.false_eq_true, if_false, List.append_nil]
          rw [← str_append]; rfl
        · simp only [if_true]
          rw [← str_append, ← str_append]; rfl
      have c5 : W0.cell? ⟨g0, 5, none⟩ = some (.bool hdv) := by rw [← hhd]; exact R0.b.cell 5
      have k6 : (n : Int) ≤ 6 := by omega
      have k0n : (0 : Int) ≤ (n : Int) := by omega
      have wn : wrap64 ((n : Int) + 1) = (n : Int) + 1 := wrap_small (n + 1) (by omega)
      have hnH := hide hn
      have hxH := hide hx3
      clear R R0 ok hhd hn hx2 hx3 hbg
      have sixH := hide six
      clear six
      generalize str (itoa (n : Int)) = s0 at *
      cases hdv
      all_goals
        go_enter Try.func28, Try.ntmps28
        go_wp2
        clear c1 c2 c4 c5 hdg zs0 z0 z1 z2 f0 f1 f2
        go_loopw [4, 36] (fun s z wr => ∃ k : Nat, k ≤ n ∧ z = .int .i64 (k : Int) ∧ s = .string (str (shareTo st k)) ∧ wr = W0) (fun _ z _ => n + 1 - (intOf z).toNat)
        case atStart => exact ⟨0, by omega, rfl, by rw [unhide hS]; rfl, rfl⟩
        case round =>
          clear hS
          obtain ⟨k, hk, rfl, rfl, rfl⟩ := hrel
          by_cases hlt : k < n
          · obtain ⟨R, ok⟩ := unhide RH
            have hn := unhide hnH
            obtain ⟨l, hl⟩ : ∃ l, st.ts[k]? = some l := ⟨_, List.getElem?_eq_getElem (by omega)⟩
            obtain ⟨g, cap, hv, cg⟩ := R.rs.one k (by omega) _ (sh_at hl)
            obtain ⟨h1, h2⟩ : x3 = some ⟨g, 0, none⟩ ∧ cp3 = cap := by
              have := (unhide hxH).symm.trans hv
              simp at this; exact ⟨this.1, this.2.2⟩
            subst h1; subst h2
            have six := unhide sixH
            have k1 : (k : Int) < (n : Int) := by omega
            have k0 : (0 : Int) ≤ (k : Int) := by omega
            have wk : wrap64 ((k : Int) + 1) = (k : Int) + 1 := wrap_small (k + 1) (by omega)
            have hl1 := shareTo_len st k
            have zz1 : (str (shareTo st k)).size ≤ 200 := by rw [str_size]; omega
            have hgd : fw (st.ts.getD k []) = fw l := by rw [List.getD_eq_getElem?_getD, hl]; rfl
            have htr : trial st k = marksL (fw st.sec) (fw l) := by unfold trial; rw [hgd]
            rw [← htr] at cg
            have zz2 : (str (trial st k)).size = 5 := by rw [str_size]; rfl
            have hsuc : Hid (∀ s1, s1 = str (shareTo st k) ++ ⟨#[10]⟩ → .string s1 = Value.string (str (shareTo st k ++ [10] ++ lineTo (trial st k) 0))) := by
              show ∀ s1, _
              rintro s1 rfl
              rw [show lineTo (trial st k) 0 = [] from rfl, List.append_nil, ← str_append]; rfl
            have hidx : Hid (∀ p : Nat, p < 5 → ∀ W, (Instr.index 9 (.string (str (trial st k))) (.int .i64 (p : Int))).run Try.prog W = .ok (.int .u8 ((markB (Mk.mark 5 (fw st.sec) (fw l) p)).toNat : Int)) W) := by
              show ∀ p, _
              intro p hp W
              rw [htr]; exact idx_marks _ _ p hp W
            have hmk : Hid (∀ p : Nat, p < 5 → (trial st k).getD p 0 = markB (Mk.mark 5 (fw st.sec) (fw l) p)) := by
              show ∀ p : Nat, p < 5 → _
              intro p hp
              rw [htr]
              rcases (by omega : p = 0 ∨ p = 1 ∨ p = 2 ∨ p = 3 ∨ p = 4) with rfl | rfl | rfl | rfl | rfl <;> rfl
            have hltH := hide hlt
            have lenH : Hid ((shareTo st k).length ≤ 200) := by show _ ≤ _; omega
            clear R ok hn hv hl1 hk hlt six hl hgd htr
            have hT : Hid (shareTo st (k + 1) = shareTo st k ++ [10] ++ lineTo (trial st k) 5) := rfl
            generalize trial st k = T at *
            generalize hP : shareTo st k = P0 at *
            clear hP
            generalize hSP : str P0 = SP at *
            generalize hTM : str T = TM at *
            go_wp2
            go_loopw [4, 7] (fun s z wv => ∃ p : Nat, p ≤ 5 ∧ z = .int .i64 (p : Int) ∧ s = .string (str (P0 ++ [10] ++ lineTo T p)) ∧ wv = wr) (fun _ z _ => 6 - (intOf z).toNat)
            case atStart => exact ⟨0, by omega, rfl, unhide hsuc _ rfl, rfl⟩
            case round =>
              obtain ⟨p, hp, rfl, rfl, rfl⟩ := hrel
              by_cases hI : p < 5
              · have p1 : (p : Int) < 5 := by omega
                have p0 : (0 : Int) ≤ (p : Int) := by omega
                have wp : wrap64 ((p : Int) + 1) = (p : Int) + 1 := wrap_small (p + 1) (by omega)
                have hxs := unhide hidx p hI
                have hmp := unhide hmk p hI
                have hll := lineTo_len T p
                have hlP := unhide lenH
                have zs : (str (P0 ++ [10] ++ lineTo T p)).size ≤ 300 := by
                  rw [str_size]; simp only [List.length_append, List.length_singleton]; omega
                have hltI := hide hI
                clear hp hI hll hlP
                rcases markB_cases (Mk.mark 5 (fw st.sec) (fw l) p) with ⟨hm, hB⟩ | ⟨hm, hB⟩ | ⟨hm, hm1, hB⟩
                · rw [hB] at hxs hmp
                  have hsq : Hid (Value.string (str (P0 ++ [10] ++ lineTo T p) ++ ⟨#[240, 159, 159, 169]⟩) = Value.string (str (P0 ++ [10] ++ lineTo T (p + 1)))) := by
                    show _ = _
                    rw [show lineTo T (p + 1) = lineTo T p ++ sqL (T.getD p 0) from rfl, hmp, ← List.append_assoc, ← str_append]
                    rfl
                  have hxs : ∀ W, (Instr.index 9 (.string TM) (.int .i64 (p : Int))).run Try.prog W = .ok (.int .u8 103) W := hxs
                  clear hmp hB hm
                  generalize str (P0 ++ [10] ++ lineTo T p) = s1 at *
                  go_wp2
                  go_roundw
                  case rel => exact ⟨p + 1, unhide hltI, by simp; try exact wp, unhide hsq, by first | rfl | trivial⟩
                  case measure =>
                    have h := unhide hltI
                    first
                      | exact meas_list h
                      | (rw [wp]; exact meas_list h)
                · rw [hB] at hxs hmp
                  have hsq : Hid (Value.string (str (P0 ++ [10] ++ lineTo T p) ++ ⟨#[240, 159, 159, 168]⟩) = Value.string (str (P0 ++ [10] ++ lineTo T (p + 1)))) := by
                    show _ = _
                    rw [show lineTo T (p + 1) = lineTo T p ++ sqL (T.getD p 0) from rfl, hmp, ← List.append_assoc, ← str_append]
                    rfl
                  have hxs : ∀ W, (Instr.index 9 (.string TM) (.int .i64 (p : Int))).run Try.prog W = .ok (.int .u8 121) W := hxs
                  clear hmp hB hm
                  generalize str (P0 ++ [10] ++ lineTo T p) = s1 at *
                  go_wp2
                  go_roundw
                  case rel => exact ⟨p + 1, unhide hltI, by simp; try exact wp, unhide hsq, by first | rfl | trivial⟩
                  case measure =>
                    have h := unhide hltI
                    first
                      | exact meas_list h
                      | (rw [wp]; exact meas_list h)
                · rw [hB] at hxs hmp
                  have hsq : Hid (Value.string (str (P0 ++ [10] ++ lineTo T p) ++ ⟨#[226, 172, 156]⟩) = Value.string (str (P0 ++ [10] ++ lineTo T (p + 1)))) := by
                    show _ = _
                    rw [show lineTo T (p + 1) = lineTo T p ++ sqL (T.getD p 0) from rfl, hmp, ← List.append_assoc, ← str_append]
                    rfl
                  have hxs : ∀ W, (Instr.index 9 (.string TM) (.int .i64 (p : Int))).run Try.prog W = .ok (.int .u8 45) W := hxs
                  clear hmp hB hm hm1
                  generalize str (P0 ++ [10] ++ lineTo T p) = s1 at *
                  go_wp2
                  go_roundw
                  case rel => exact ⟨p + 1, unhide hltI, by simp; try exact wp, unhide hsq, by first | rfl | trivial⟩
                  case measure =>
                    have h := unhide hltI
                    first
                      | exact meas_list h
                      | (rw [wp]; exact meas_list h)
              · obtain rfl : p = 5 := by omega
                have fin : Hid (str (P0 ++ [10] ++ lineTo T 5) = str (shareTo st (k + 1))) := by show _ = _; rw [unhide hT]
                clear hidx hmk hsuc lenH hp hI cg
                generalize str (P0 ++ [10] ++ lineTo T 5) = s1 at *
                go_wp2
                go_roundw
                case rel => exact ⟨k + 1, unhide hltH, by simp; try exact wk, by rw [unhide fin], by first | rfl | trivial⟩
                case measure =>
                  have h := unhide hltH
                  first
                    | exact meas_list h
                    | (rw [wk]; exact meas_list h)
          · have k1 : ¬ (k : Int) < (n : Int) := by omega
            obtain rfl : k = n := by omega
            have hn := unhide hnH
            have fin : Hid (str (shareTo st st.ts.length) = str (shareTo st k)) := by show _ = _; rw [hn]
            obtain ⟨bz, qz⟩ := unhide bqH
            have z0 : wr.cell? ⟨w.heap.size, 0, none⟩ = some (.int .i64 0) := bz.cell 0
            have z1 : wr.cell? ⟨w.heap.size, 1, none⟩ = some (.int .i64 0) := bz.cell 1
            have z2 : wr.cell? ⟨w.heap.size, 2, none⟩ = some (.string ⟨#[]⟩) := bz.cell 2
            have f0 := bz.frozen 0
            have f1 := bz.frozen 1
            have f2 := bz.frozen 2
            clear hk hlt hn bz qz
            generalize str (shareTo st k) = s1 at *
            go_wp2
            exact bodyPost_ret (v := ansv 0 0 s1) (results_blk (u := 39) (cs := ansC 0 0 s1) Try.results28 rfl Try.isAgg39 Try.sizeOf39 (zans3 (unhide bqH).1 0 0 s1)) rfl ⟨by rw [unhide fin], quiet3 (unhide bqH).2 _ _ _⟩
    exact key st.hd rfl
end Go.Proofs.Qxb6500370a
