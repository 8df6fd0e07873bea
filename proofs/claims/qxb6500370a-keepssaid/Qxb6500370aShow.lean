/-
  THE REAL GAME: Show.
-/
import Derived.Test.Qxb6500370aCands
namespace Go.Proofs.Qxb6500370a
open Go.RowKit Go.Qx Go.Qx.Mk
set_option linter.unusedVariables false
set_option linter.unusedSimpArgs false

/-- A word's printed form. -/
def txt (l : List Int) : List UInt8 := (runesBytes l).data.toList
theorem str_txt (l : List Int) : runesBytes l = str (txt l) := str_of _
theorem txt_len (l : List Int) : (txt l).length ≤ 4 * l.length := by
  have := runesBytes_size_le l
  rw [str_txt, str_size] at this
  exact this
def wordsTo (pre : List UInt8) (ws : List (List Int)) : Nat → List UInt8
  | 0 => pre
  | j + 1 => wordsTo pre ws j ++ (txt (ws.getD j []) ++ [44])
theorem wordsTo_len (pre : List UInt8) (ws : List (List Int)) (h5 : ∀ x ∈ ws, Word x) : ∀ j, (wordsTo pre ws j).length ≤ pre.length + 21 * j
  | 0 => by simp [wordsTo]
  | j + 1 => by
    have h1 := wordsTo_len pre ws h5 j
    have h2 := txt_len (ws.getD j [])
    have h3 : (ws.getD j []).length ≤ 5 := by
      rw [List.getD_eq_getElem?_getD]
      cases h : ws[j]? with
      | none => simp
      | some x => simp; have := (h5 x (List.mem_of_getElem? h)).1; omega
    simp only [wordsTo, List.length_append, List.length_singleton]
    omega
def headP1 (st : St) : List UInt8 := if st.hd then [42, 59] else [59]
def headS (st : St) : List UInt8 := (if st.bg then txt st.sec else []) ++ headP1 st
def showP (st : St) : List UInt8 := wordsTo (wordsTo (headS st) st.ws st.ws.length ++ [59]) st.ts st.ts.length ++ [59] ++ candP st

theorem conv_at (W : World) (D o : Nat) (s : Nat → Int) (h0 : W.cell? ⟨D, o, none⟩ = some (rk (s 0))) (h1 : W.cell? ⟨D, o + 1, none⟩ = some (rk (s 1))) (h2 : W.cell? ⟨D, o + 2, none⟩ = some (rk (s 2))) (h3 : W.cell? ⟨D, o + 3, none⟩ = some (rk (s 3))) (h4 : W.cell? ⟨D, o + 4, none⟩ = some (rk (s 4))) :
    (convert 68 9 (.slice (some ⟨D, o, none⟩) 5 5)).run Try.prog W = .ok (.string (runesBytes [s 0, s 1, s 2, s 3, s 4])) W := by
  have := run_convert_runes (P := Try.prog) W 68 9 21 ⟨D, o, none⟩ 5 5 [s 0, s 1, s 2, s 3, s 4] (by simp) Try.underlying68 Try.underlying21 Try.underlying9 (by
    intro j hj
    have e : (⟨D, o, none⟩ : Addr).add j = ⟨D, o + j, none⟩ := by unfold Addr.add; split <;> simp_all
    rw [e]
    simp at hj
    match j, hj with
    | 0, _ => exact h0
    | 1, _ => exact h1
    | 2, _ => exact h2
    | 3, _ => exact h3
    | 4, _ => exact h4)
  simpa using this
theorem five_fw (l : List Int) (h : l.length = 5) : [fw l 0, fw l 1, fw l 2, fw l 3, fw l 4] = l := by
  match l, h with
  | [a, b, c, d, e], _ => rfl

set_option maxHeartbeats 4000000 in
set_option maxRecDepth 100000 in
theorem show_any (w : World) (G : Nat) (vb vt vs : Value) (L : Nat → Nat) (st : St) (ok : st.Ok) (R : GRep w G vb vt vs L st) : Calls Try.prog 23 #[ptr G] w fun e w' => e = .returned (.string (str (showP st))) ∧ Quiet w w' := by
  have few := ok.few
  have six := ok.six
  have hG := R.b.lt
  have hl : (st.ws.map fw).length = st.ws.length := by simp
  have hlt : (st.ts.map fw).length = st.ts.length := by simp
  obtain ⟨x, cp, hx⟩ := R.rb.sl
  rw [hl] at hx
  obtain ⟨x2, cp2, hx2⟩ := R.rt.sl
  rw [hlt] at hx2
  have c0 : w.cell? ⟨G, 0, none⟩ = some vb := R.b.cell 0
  have c12 : w.cell? ⟨G, 12, none⟩ = some (.bool st.bg) := R.b.cell 12
  have c13 : w.cell? ⟨G, 13, none⟩ = some (.bool st.hd) := R.b.cell 13
  rw [hx] at c0
  have hcv := conv_at w G 2 (fw st.sec) (R.b.cell 2) (R.b.cell 3) (R.b.cell 4) (R.b.cell 5) (R.b.cell 6)
  rw [five_fw _ ok.sec, str_txt] at hcv
  have tl := txt_len st.sec
  rw [ok.sec] at tl
  have zt : (str (txt st.sec)).size ≤ 20 := by rw [str_size]; exact tl
  have hH : Hid (headS st = (if st.bg then txt st.sec else []) ++ headP1 st) := rfl
  have RH := hide (⟨R, ok⟩ : _ ∧ _)
  have fewH := hide (⟨few, six⟩ : _ ∧ _)
  have hdl : Hid ((headS st).length ≤ 22) := by
    show _ ≤ _
    unfold headS headP1
    rw [List.length_append]
    repeat' split
    all_goals simp
    all_goals omega
  obtain ⟨n, hn⟩ : ∃ n, st.ws.length = n := ⟨_, rfl⟩
  rw [hn] at c0 hx
  have hnH := hide hn
  have hxH := hide (⟨hx, hx2⟩ : _ ∧ _)
  clear R ok hx hx2 few six hl hlt hn tl
  unfold ptr
  have hst : Hid (∀ s1, s1 = str (headS st) → s1 = str (wordsTo (headS st) st.ws 0)) := fun s1 h => h
  have key : ∀ bgv, st.bg = bgv → ∀ hdv, st.hd = hdv → Calls Try.prog 23 #[.pointer (some ⟨G, 0, none⟩)] w fun e w' => e = .returned (.string (str (showP st))) ∧ Quiet w w' := by
    intro bgv hbg hdv hhd
    rw [hbg] at c12
    rw [hhd] at c13
    have hS : Hid (headS st = (if bgv then txt st.sec else []) ++ (if hdv then [42, 59] else [59])) := by
      show _ = _
      unfold headS headP1; rw [hbg, hhd]
    clear hbg hhd hH
    have hSx : Hid (∀ a b : List UInt8, str (a ++ b) = str a ++ str b) := fun a b => (str_append a b).symm
    cases bgv <;> cases hdv
    all_goals
      go_enter Try.func23, Try.ntmps23
      go_wp2
      clear c0 c12 c13 hcv zt
      go_loopw [3, 28] (fun s z wr => ∃ j : Nat, j ≤ n ∧ z = .int .i64 (j : Int) ∧ s = .string (str (wordsTo (headS st) st.ws j)) ∧ Quiet w wr) (fun _ z _ => n + 1 - (intOf z).toNat)
      case atStart => exact ⟨0, by omega, rfl, by rw [show wordsTo (headS st) st.ws 0 = headS st from rfl, unhide hS]; rfl, Chg.refl _ _⟩
      case round =>
        clear hS
        obtain ⟨j, hj, rfl, rfl, q⟩ := hrel
        by_cases hlt : j < n
        · obtain ⟨few, six⟩ := unhide fewH
          have hn := unhide hnH
          have k1 : (j : Int) < (n : Int) := by omega
          have j0 : (0 : Int) ≤ (j : Int) := by omega
          have wj : wrap64 ((j : Int) + 1) = (j : Int) + 1 := wrap_small (j + 1) (by omega)
          obtain ⟨R, ok⟩ := unhide RH
          obtain ⟨g, cap, t, htj, hv, r0, r1, r2, r3, r4⟩ := (R.rb.quiet q).cells j (by simp; omega)
          obtain ⟨h1, h2⟩ : x = some ⟨g, 0, none⟩ ∧ cp = cap := by
            have := (unhide hxH).1.symm.trans hv
            simp at this; exact ⟨this.1, this.2.2⟩
          subst h1; subst h2
          obtain ⟨l, hlj, rfl⟩ : ∃ l, st.ws[j]? = some l ∧ fw l = t := by
            rw [List.getElem?_map] at htj
            cases h : st.ws[j]? with
            | none => rw [h] at htj; cases htj
            | some l => rw [h] at htj; exact ⟨l, rfl, by simpa using htj⟩
          have hw := ok.ws l (List.mem_of_getElem? hlj)
          obtain ⟨WA, hWA⟩ : ∃ W, wr.alloc (.cells #[.int .i32 (fw l 0), .int .i32 (fw l 1), .int .i32 (fw l 2), .int .i32 (fw l 3), .int .i32 (fw l 4)] 50) = W := ⟨_, rfl⟩
          have BW : Blk WA wr.heap.size 50 (wc (fw l)) := by rw [← hWA]; exact Blk.new wr 50 (wc (fw l))
          have QA : Quiet w WA := by rw [← hWA]; exact Chg.alloc q _
          have hcv := conv_at WA wr.heap.size 0 (fw l) (BW.cell 0) (BW.cell 1) (BW.cell 2) (BW.cell 3) (BW.cell 4)
          rw [five_fw _ hw.1, str_txt] at hcv
          have hl1 := wordsTo_len (headS st) st.ws ok.ws j
          have hl2 := txt_len l
          rw [hw.1] at hl2
          have hd22 := unhide hdl
          have z1 : (str (wordsTo (headS st) st.ws j)).size ≤ 500 := by rw [str_size]; omega
          have z2 : (str (txt l)).size ≤ 20 := by rw [str_size]; omega
          have hsuc : Hid (str (wordsTo (headS st) st.ws (j + 1)) = str (wordsTo (headS st) st.ws j) ++ (str (txt l) ++ str [44])) := by
            show _ = _
            rw [wordsTo, List.getD_eq_getElem?_getD, hlj, str_append, str_append]; rfl
          have hltH := hide hlt
          have QAH := hide QA
          clear q hlt R ok htj hv hlj BW QA hw hl1 hl2 hd22 hj few six hn
          generalize str (wordsTo (headS st) st.ws j) = s1 at *
          generalize str (txt l) = s2 at *
          go_wp2
          go_roundw
          case rel => exact ⟨j + 1, unhide hltH, by simp; try exact wj, by rw [unhide hsuc]; rfl, by first | exact unhide QAH | (rw [hWA]; exact unhide QAH)⟩
          case measure =>
            have h := unhide hltH
            first
              | exact meas_list h
              | (rw [wj]; exact meas_list h)
        · have k1 : ¬ (j : Int) < (n : Int) := by omega
          obtain rfl : j = n := by omega
          obtain ⟨R, ok⟩ := unhide RH
          have Q1 := hide q
          have ct : wr.cell? ⟨G, 1, none⟩ = some vt := Quiet.cell q (R.b.cell 1)
          rw [(unhide hxH).2] at ct
          obtain ⟨m, hm⟩ : ∃ m, st.ts.length = m := ⟨_, rfl⟩
          rw [hm] at ct
          have hmH := hide hm
          have hGW : G < wr.heap.size := (q.blk R.b).lt
          have hn := unhide hnH
          have hl1 := wordsTo_len (headS st) st.ws ok.ws j
          have hd22 := unhide hdl
          have few := (unhide fewH).1
          have z1 : (str (wordsTo (headS st) st.ws j)).size ≤ 500 := by rw [str_size]; omega
          have hS2 : Hid (str (wordsTo (wordsTo (headS st) st.ws st.ws.length ++ [59]) st.ts 0) = str (wordsTo (headS st) st.ws j) ++ str [59]) := by
            show _ = _
            rw [wordsTo, hn, str_append]
          rw [hm] at hxH
          have hmH2 : Hid (st.ts.length = m) := hm
          clear R ok q hlt hj hm hn hl1 hd22 few
          generalize str (wordsTo (headS st) st.ws j) = s0 at *
          go_wp2
          clear ct z1 hGW
          go_loopw [3, 45] (fun s z wr => ∃ j : Nat, j ≤ m ∧ z = .int .i64 (j : Int) ∧ s = .string (str (wordsTo (wordsTo (headS st) st.ws st.ws.length ++ [59]) st.ts j)) ∧ Quiet w wr) (fun _ z _ => m + 1 - (intOf z).toNat)
          case atStart => exact ⟨0, by omega, rfl, by rw [unhide hS2]; rfl, unhide Q1⟩
          case round =>
            clear Q1 hS2
            obtain ⟨j, hj, rfl, rfl, q⟩ := hrel
            by_cases hlt : j < m
            · obtain ⟨few, six⟩ := unhide fewH
              have hn := unhide hmH
              have k1 : (j : Int) < (m : Int) := by omega
              have j0 : (0 : Int) ≤ (j : Int) := by omega
              have wj : wrap64 ((j : Int) + 1) = (j : Int) + 1 := wrap_small (j + 1) (by omega)
              obtain ⟨R, ok⟩ := unhide RH
              obtain ⟨g, cap, t, htj, hv, r0, r1, r2, r3, r4⟩ := (R.rt.quiet q).cells j (by simp; omega)
              obtain ⟨h1, h2⟩ : x2 = some ⟨g, 0, none⟩ ∧ cp2 = cap := by
                have := (unhide hxH).2.symm.trans hv
                simp at this; exact ⟨this.1, this.2.2⟩
              subst h1; subst h2
              obtain ⟨l, hlj, rfl⟩ : ∃ l, st.ts[j]? = some l ∧ fw l = t := by
                rw [List.getElem?_map] at htj
                cases h : st.ts[j]? with
                | none => rw [h] at htj; cases htj
                | some l => rw [h] at htj; exact ⟨l, rfl, by simpa using htj⟩
              have hw := ok.ts l (List.mem_of_getElem? hlj)
              obtain ⟨WA, hWA⟩ : ∃ W, wr.alloc (.cells #[.int .i32 (fw l 0), .int .i32 (fw l 1), .int .i32 (fw l 2), .int .i32 (fw l 3), .int .i32 (fw l 4)] 50) = W := ⟨_, rfl⟩
              have BW : Blk WA wr.heap.size 50 (wc (fw l)) := by rw [← hWA]; exact Blk.new wr 50 (wc (fw l))
              have QA : Quiet w WA := by rw [← hWA]; exact Chg.alloc q _
              have hcv := conv_at WA wr.heap.size 0 (fw l) (BW.cell 0) (BW.cell 1) (BW.cell 2) (BW.cell 3) (BW.cell 4)
              rw [five_fw _ hw.1, str_txt] at hcv
              have hl1 := wordsTo_len (wordsTo (headS st) st.ws st.ws.length ++ [59]) st.ts ok.ts j
              have hl2 := txt_len l
              rw [hw.1] at hl2
              have hd22 := unhide hdl
              have hl0 := wordsTo_len (headS st) st.ws ok.ws st.ws.length
              rw [List.length_append, List.length_singleton] at hl1
              have z1 : (str (wordsTo (wordsTo (headS st) st.ws st.ws.length ++ [59]) st.ts j)).size ≤ 500 := by rw [str_size]; omega
              have z2 : (str (txt l)).size ≤ 20 := by rw [str_size]; omega
              have hsuc : Hid (str (wordsTo (wordsTo (headS st) st.ws st.ws.length ++ [59]) st.ts (j + 1)) = str (wordsTo (wordsTo (headS st) st.ws st.ws.length ++ [59]) st.ts j) ++ (str (txt l) ++ str [44])) := by
                show _ = _
                rw [wordsTo, List.getD_eq_getElem?_getD, hlj, str_append, str_append]; rfl
              have hltH := hide hlt
              have QAH := hide QA
              clear q hlt R ok htj hv hlj BW QA hw hl1 hl2 hd22 hj few six hn 
              generalize str (wordsTo (wordsTo (headS st) st.ws st.ws.length ++ [59]) st.ts j) = s1 at *
              generalize str (txt l) = s2 at *
              go_wp2
              go_roundw
              case rel => exact ⟨j + 1, unhide hltH, by simp; try exact wj, by rw [unhide hsuc]; rfl, by first | exact unhide QAH | (rw [hWA]; exact unhide QAH)⟩
              case measure =>
                have h := unhide hltH
                first
                  | exact meas_list h
                  | (rw [wj]; exact meas_list h)
            · have k1 : ¬ (j : Int) < (m : Int) := by omega
              obtain rfl : j = m := by omega
              obtain ⟨R, ok⟩ := unhide RH
              obtain ⟨few, six⟩ := unhide fewH
              have hn := unhide hnH
              have hm := unhide hmH
              have hcl := cands_any wr G vb vt vs L st ok (R.quiet q)
              unfold ptr at hcl
              have hclH := hide hcl
              have hd22 := unhide hdl
              have hl0 := wordsTo_len (headS st) st.ws ok.ws st.ws.length
              have hl1 := wordsTo_len (wordsTo (headS st) st.ws st.ws.length ++ [59]) st.ts ok.ts j
              rw [List.length_append, List.length_singleton] at hl1
              have z1 : (str (wordsTo (wordsTo (headS st) st.ws st.ws.length ++ [59]) st.ts j)).size ≤ 500 := by rw [str_size]; omega
              have z2 : (str (candP st)).size ≤ 8 := by rw [str_size]; unfold candP; rw [List.length_map]; exact few
              have fin : Hid (str (showP st) = (str (wordsTo (wordsTo (headS st) st.ws st.ws.length ++ [59]) st.ts j) ++ str [59]) ++ str (candP st)) := by
                show _ = _
                unfold showP
                rw [hm, str_append, str_append]
              have qH := hide q
              clear q hlt R ok hj few six hn hm hcl hd22 hl0 hl1
              generalize str (wordsTo (wordsTo (headS st) st.ws st.ws.length ++ [59]) st.ts j) = s1 at *
              generalize str (candP st) = s2 at *
              go_wp2_with fail
              refine (unhide hclH).mono ?_
              clear hclH
              rintro e w2 ⟨rfl, q2⟩
              have Q2 := hide ((unhide qH).trans q2)
              clear qH q2
              go_wp2
              go_ret
              exact ⟨by rw [unhide fin]; rfl, unhide Q2⟩
  exact key st.bg rfl st.hd rfl
end Go.Proofs.Qxb6500370a
