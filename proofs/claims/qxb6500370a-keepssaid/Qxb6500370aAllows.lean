/-
  THE REAL GAME: allows. (gen70allows.py)
-/
import Derived.Test.Qxb6500370aLearn
namespace Go.Proofs.Qxb6500370a
open Go.RowKit Go.Qx Go.Qx.Mk
set_option linter.unusedVariables false
set_option linter.unusedSimpArgs false

/-- A row of words. -/
def flatF (T : List (Nat → Int)) : List Value := T.flatMap wc
def WRow (w : World) (v : Value) (T : List (Nat → Int)) : Prop := Row w 50 5 v T.length (flatF T)
theorem flatF_len : ∀ T : List (Nat → Int), (flatF T).length = T.length * 5
  | [] => rfl
  | t :: T => by
    have := flatF_len T
    simp only [flatF, List.flatMap_cons, List.length_append, List.length_cons] at this ⊢
    rw [this]; simp [wc]; omega
theorem flatF_get : ∀ (T : List (Nat → Int)) (j : Nat) (hj : j < T.length) (q : Nat), q < 5 → (flatF T)[j * 5 + q]? = some (rk (T[j] q))
  | [], j, hj, _, _ => by simp at hj
  | t :: T, 0, hj, q, hq => by
    show (wc t ++ flatF T)[0 * 5 + q]? = _
    rw [Nat.zero_mul, Nat.zero_add, List.getElem?_append_left (by simp [wc]; omega), wc_get t q hq]; rfl
  | t :: T, j + 1, hj, q, hq => by
    have ih := flatF_get T j (by simpa using hj) q hq
    show (wc t ++ flatF T)[(j + 1) * 5 + q]? = _
    rw [List.getElem?_append_right (by simp [wc]; omega), show (j + 1) * 5 + q - (wc t).length = j * 5 + q by simp [wc]; omega, ih]; rfl
theorem WRow.form {w : World} {v : Value} {T : List (Nat → Int)} (h : WRow w v T) : (T = [] ∧ v = .slice none 0 0) ∨ ∃ g cap, v = .slice (some ⟨g, 0, none⟩) T.length cap ∧ g < w.heap.size ∧ ∀ j (hj : j < T.length) q, q < 5 → w.cell? ⟨g, j * 5 + q, none⟩ = some (rk (T[j] q)) := by
  rcases Row.form h with ⟨h1, h2, h3⟩ | ⟨g, cap, sp, h1, h2, h3, h4, h5⟩
  · exact .inl ⟨List.eq_nil_of_length_eq_zero h2, h1⟩
  · refine .inr ⟨g, cap, h1, h2.lt, fun j hj q hq => ?_⟩
    rw [h2.cell, List.getElem?_append_left (by rw [flatF_len]; omega), flatF_get T j hj q hq]
theorem WRow.cells {w : World} {v : Value} {T : List (Nat → Int)} (h : WRow w v T) (j : Nat) (hj : j < T.length) : ∃ g cap t, T[j]? = some t ∧ v = .slice (some ⟨g, 0, none⟩) T.length cap ∧ w.cell? ⟨g, j * 5, none⟩ = some (rk (t 0)) ∧ w.cell? ⟨g, j * 5 + 1, none⟩ = some (rk (t 1)) ∧ w.cell? ⟨g, j * 5 + 2, none⟩ = some (rk (t 2)) ∧ w.cell? ⟨g, j * 5 + 3, none⟩ = some (rk (t 3)) ∧ w.cell? ⟨g, j * 5 + 4, none⟩ = some (rk (t 4)) := by
  rcases h.form with ⟨h1, _⟩ | ⟨g, cap, h1, h2, h3⟩
  · rw [h1] at hj; simp at hj
  · exact ⟨g, cap, T[j], List.getElem?_eq_getElem hj, h1, h3 j hj 0 (by omega), h3 j hj 1 (by omega), h3 j hj 2 (by omega), h3 j hj 3 (by omega), h3 j hj 4 (by omega)⟩
theorem WRow.quiet {w w' : World} {v : Value} {T : List (Nat → Int)} (h : WRow w v T) (q : Quiet w w') : WRow w' v T := Row.quiet h q
theorem WRow.sl {w : World} {v : Value} {T : List (Nat → Int)} (h : WRow w v T) : ∃ x cp, v = .slice x T.length cp := by
  rcases h.form with ⟨h1, h2⟩ | ⟨g, cap, h1, h2, h3⟩
  · exact ⟨none, 0, by rw [h2, h1]; rfl⟩
  · exact ⟨_, _, h1⟩

def ok1 (C : KC) (u : Nat → Int) (p : Nat) : Prop := (C.green p = 0 ∨ C.green p = u p) ∧ C.ban p (u p) = false
def ok2 (C : KC) (u t : Nat → Int) (p : Nat) : Prop := (C.lo (t p)).getD 0 ≤ occ u (t p) 5 ∧ ∀ h, C.hi (t p) = some h → (occ u (t p) 5 : Int) = h
theorem allows_def (C : KC) (T : List (Nat → Int)) (u : Nat → Int) : Allows 5 C.know T u ↔ (∀ p, p < 5 → ok1 C u p) ∧ ∀ t ∈ T, ∀ p, p < 5 → ok2 C u t p := Iff.rfl

theorem occ_le (u : Nat → Int) (c : Int) : ∀ i, occ u c i ≤ i
  | 0 => Nat.le_refl _
  | i + 1 => by
    have := occ_le u c i
    unfold occ at *
    rw [cnt]; split <;> omega
theorem occ_upd (u : Nat → Int) (i : Nat) (c : Int) : ((occ u c (i + 1) : Nat) : Int) = updC (fun c => (occ u c i : Int)) (u i) ((occ u (u i) i : Nat) + 1) c := by
  unfold updC occ
  rw [cnt]
  by_cases e : c = u i
  · subst e; simp
  · have e3 : (u i == c) = false := beq_eq_false_iff_ne.2 (fun x => e x.symm)
    rw [if_neg e, e3]; simp

/-- b says whether u is allowed. -/
def Says (C : KC) (T : List (Nat → Int)) (u : Nat → Int) (b : Bool) : Prop := b = true ↔ Allows 5 C.know T u
def allowPost (C : KC) (T : List (Nat → Int)) (u : Nat → Int) (e : Ending) : Prop := ∃ b : Bool, e = .returned (.bool b) ∧ Says C T u b
structure A1 (w wr : World) (C : KC) (u : Nat → Int) (i : Nat) : Prop where
  q : Quiet w wr
  bu : Blk wr w.heap.size 50 (wc u)
  mp : MapC wr (w.heap.size + 1) (fun c => (occ u c i : Nat))
  ok : ∀ p, p < i → ok1 C u p
structure A2 (w wr : World) (C : KC) (u : Nat → Int) : Prop where
  q : Quiet w wr
  mp : MapC wr (w.heap.size + 1) (fun c => (occ u c 5 : Nat))
theorem A2.quiet {w wr wv : World} {C : KC} {u : Nat → Int} (h : A2 w wr C u) (q : Quiet wr wv) : A2 w wv C u := ⟨h.q.trans q, h.mp.quiet q⟩
theorem meas_list {j n : Nat} (h : j < n) : n + 1 - ((j : Int) + 1).toNat < n + 1 - (j : Int).toNat := by omega

set_option maxHeartbeats 4000000 in
set_option maxRecDepth 100000 in
theorem allows_any (w : World) (G : Nat) (L : Nat → Nat) (vb vt vs : Value) (sec : Nat → Int) (bg hd : Bool) (T : List (Nat → Int)) (C : KC) (u : Nat → Int) (hb : Blk w G 52 (gcells vb vt vs sec C.green bg hd L)) (hk : KRep w L C) (ht : WRow w vt T) (hT : T.length ≤ 1000) :
    Calls Try.prog 34 #[ptr G, wordF u] w fun e w' => allowPost C T u e ∧ Quiet w w' := by
  have hmm := @run_makeMap Try.prog
  have hix : Hid (∀ j : Nat, j < 5 → ∀ W, (Instr.index 50 (.agg #[rk (u 0), rk (u 1), rk (u 2), rk (u 3), rk (u 4)]) (.int .i64 (j : Int))).run Try.prog W = .ok (rk (u j)) W) := fun j hj W =>
    run_index_agg (P := Try.prog) W 50 21 5 Try.underlying50 Try.sizeOf21 Try.isAgg21 _ j hj _ (by have := wc_get u j hj; simpa [wc] using this)
  have S0 : Hid (∀ W, W = ((w.alloc (.cells (wc u).toArray 50)).alloc (.map #[] 0)) → A1 w W C u 0) := by
    rintro W rfl
    have h1 : ∀ (W : World) (o : Obj), (W.alloc o).heap.size = W.heap.size + 1 := fun W o => by simp
    have b4 := MapC.new (w.alloc (.cells (wc u).toArray 50))
    rw [h1] at b4
    exact ⟨Chg.alloc (Chg.alloc (Chg.refl (fun _ => False) w) _) _, (Blk.new w 50 (wc u)).alloc _, b4.congr (fun c => rfl), fun p hp => by omega⟩
  have hBH := hide (⟨hb, hk, ht, hT⟩ : _ ∧ _ ∧ _ ∧ _)
  have NO1 : Hid (∀ p, p < 5 → ¬ ok1 C u p → Says C T u false) := fun p hp h => ⟨fun x => (by cases x), fun x => absurd (((allows_def C T u).1 x).1 p hp) h⟩
  have NO2 : Hid (∀ (t : Nat → Int), t ∈ T → ∀ p, p < 5 → ¬ ok2 C u t p → Says C T u false) := fun t h1 p hp h => ⟨fun x => (by cases x), fun x => absurd (((allows_def C T u).1 x).2 t h1 p hp) h⟩
  clear hb hk ht hT
  unfold wordF ptr
  have e2 : (wc u).toArray = #[rk (u 0), rk (u 1), rk (u 2), rk (u 3), rk (u 4)] := rfl
  rw [e2] at S0 ⊢
  clear e2
  go_enter Try.func34, Try.ntmps34
  go_wp2
  generalize hW0 : ((w.alloc (.cells #[rk (u 0), rk (u 1), rk (u 2), rk (u 3), rk (u 4)] 50)).alloc (.map #[] 0)) = W0 at *
  have S1 := hide (unhide S0 W0 rfl)
  clear hW0 S0 hmm
  go_loopw [16] (fun z wr => ∃ i : Nat, i ≤ 5 ∧ z = .int .i64 (i : Int) ∧ A1 w wr C u i) (fun z _ => 6 - (intOf z).toNat)
  case atStart => exact ⟨0, by omega, rfl, unhide S1⟩
  case round =>
    clear S1
    obtain ⟨i, hi, rfl, A⟩ := hrel
    by_cases hlt : i < 5
    · have k1 : (i : Int) < 5 := by omega
      have i0 : (0 : Int) ≤ (i : Int) := by omega
      have wi : wrap64 ((i : Int) + 1) = (i : Int) + 1 := wrap_small (i + 1) (by omega)
      have hxi := unhide hix i hlt
      have hltH := hide hlt
      obtain ⟨hb, hk, _, _⟩ := unhide hBH
      have b1 := A.q.blk hb
      have hGW := b1.lt
      have cg := (b1.cell (7 + i)).trans (gcells_grn _ _ _ _ _ _ _ _ i hlt)
      have cb := (b1.cell (15 + i)).trans (gcells_ban _ _ _ _ _ _ _ _ i hlt)
      have hbn := (hk.quiet A.q).banned i hlt (u i)
      have MS1 := A.mp.look (u i)
      obtain ⟨W3, hup, ch3, mp3⟩ := A.mp.store (u i) ((occ u (u i) i : Nat) + 1)
      have l5 := occ_le u (u i) i
      have wl : wrap64 (((occ u (u i) i : Nat) : Int) + 1) = ((occ u (u i) i : Nat) : Int) + 1 := by unfold wrap64; omega
      have MN : Hid (ok1 C u i → A1 w W3 C u (i + 1)) := fun ho => ⟨Chg.trans' A.q ch3 (fun x hx hy => by omega), ch3.blk A.bu (by omega), mp3.congr (fun c => (occ_upd u i c).symm), fun p hp => by
        by_cases e : p = i
        · subst e; exact ho
        · exact A.ok p (by omega)⟩
      have QH := hide A.q
      have OK : Hid (ok1 C u i ↔ (C.green i = 0 ∨ C.green i = u i) ∧ C.ban i (u i) = false) := Iff.rfl
      have NOi := hide (unhide NO1 i hlt)
      clear A hi hlt hb hk b1 ch3 mp3 l5 NO1 NO2 hix hBH
      generalize C.ban i (u i) = bb at *
      generalize C.green i = gg at *
      generalize ok1 C u i = OKP at *
      generalize ((occ u (u i) i : Nat) : Int) = oc at *
      generalize u i = c at *
      generalize L i = Li at *
      by_cases hg : gg = 0
      · subst hg
        cases bb
        · go_wp2
          go_roundw
          case rel => exact ⟨i + 1, unhide hltH, by simp; try exact wi, unhide MN ((unhide OK).2 ⟨.inl rfl, rfl⟩)⟩
          case measure =>
            have h := unhide hltH
            first
              | exact meas5 h
              | (rw [wi]; exact meas5 h)
        · go_wp2
          go_ret
          exact ⟨⟨false, rfl, unhide NOi (fun h => by cases ((unhide OK).1 h).2)⟩, unhide QH⟩
      · by_cases hg2 : gg = c
        · subst hg2
          cases bb
          · go_wp2
            go_roundw
            case rel => exact ⟨i + 1, unhide hltH, by simp; try exact wi, unhide MN ((unhide OK).2 ⟨.inr rfl, rfl⟩)⟩
            case measure =>
              have h := unhide hltH
              first
                | exact meas5 h
                | (rw [wi]; exact meas5 h)
          · go_wp2
            go_ret
            exact ⟨⟨false, rfl, unhide NOi (fun h => by cases ((unhide OK).1 h).2)⟩, unhide QH⟩
        · have hgH : Hid (¬ (gg = 0 ∨ gg = c)) := fun h => h.elim hg hg2
          go_wp2
          go_ret
          exact ⟨⟨false, rfl, unhide NOi (fun h => unhide hgH ((unhide OK).1 h).1)⟩, unhide QH⟩
    · have k1 : ¬ (i : Int) < 5 := by omega
      obtain rfl : i = 5 := by omega
      obtain ⟨hb, hk, ht, hT⟩ := unhide hBH
      have b1 := A.q.blk hb
      have hGW := b1.lt
      have ct : wr.cell? ⟨G, 1, none⟩ = some vt := b1.cell 1
      obtain ⟨x, cp, hx⟩ := ht.sl
      rw [hx] at ct
      have YES : Hid ((∀ t ∈ T, ∀ p, p < 5 → ok2 C u t p) → Says C T u true) := fun h => ⟨fun _ => (allows_def C T u).2 ⟨A.ok, h⟩, fun _ => rfl⟩
      have S2 : Hid (A2 w wr C u) := ⟨A.q, A.mp⟩
      have hxH := hide hx
      have hTH := hide hT
      clear A hi hlt hb hk ht b1 hx NO1 hix hT
      go_wp2
      clear ct hGW
      go_loopw [57] (fun z wv => ∃ j : Nat, j ≤ T.length ∧ z = .int .i64 (j : Int) ∧ A2 w wv C u ∧ ∀ t ∈ T.take j, ∀ p, p < 5 → ok2 C u t p) (fun z _ => T.length + 1 - (intOf z).toNat)
      case atStart => exact ⟨0, by omega, rfl, unhide S2, by simp⟩
      case round =>
        clear S2
        obtain ⟨j, hj, rfl, A, hok⟩ := hrel
        by_cases hlt : j < T.length
        · have hTl := unhide hTH
          have k1 : (j : Int) < (T.length : Int) := by omega
          have j0 : (0 : Int) ≤ (j : Int) := by omega
          have wj : wrap64 ((j : Int) + 1) = (j : Int) + 1 := wrap_small (j + 1) (by omega)
          obtain ⟨hb, hk, ht, hT⟩ := unhide hBH
          obtain ⟨g, cap, t, htj, hv, r0, r1, r2, r3, r4⟩ := (ht.quiet A.q).cells j hlt
          obtain ⟨h1, h2⟩ : x = some ⟨g, 0, none⟩ ∧ cp = cap := by
            have := (unhide hxH).symm.trans hv
            simp at this; exact this
          subst h1; subst h2
          have ttH : Hid ((∀ p, p < 5 → ok2 C u t p) → ∀ t ∈ T.take (j + 1), ∀ p, p < 5 → ok2 C u t p) := fun h t' hm => by
            rw [List.take_add_one, htj] at hm
            rcases List.mem_append.1 hm with hm | hm
            · exact hok t' hm
            · simp at hm; subst hm; exact h
          have NOj := hide (unhide NO2 t (List.mem_of_getElem? htj))
          have AH := hide A
          have hltH := hide hlt
          clear A hok hlt hj hb hk ht hT hv NO2 hTl htj
          have hix : Hid (∀ j : Nat, j < 5 → ∀ W, (Instr.index 50 (.agg #[rk (t 0), rk (t 1), rk (t 2), rk (t 3), rk (t 4)]) (.int .i64 (j : Int))).run Try.prog W = .ok (rk (t j)) W) := fun j hj W =>
            run_index_agg (P := Try.prog) W 50 21 5 Try.underlying50 Try.sizeOf21 Try.isAgg21 _ j hj _ (by have := wc_get t j hj; simpa [wc] using this)
          have AN : Hid (A2 w (wr.alloc (.cells #[.int .i32 (t 0), .int .i32 (t 1), .int .i32 (t 2), .int .i32 (t 3), .int .i32 (t 4)] 50)) C u) := (unhide AH).quiet ((Chg.refl _ wr).alloc _)
          go_wp2
          clear r0 r1 r2 r3 r4 AH
          generalize wr.alloc (.cells #[.int .i32 (t 0), .int .i32 (t 1), .int .i32 (t 2), .int .i32 (t 3), .int .i32 (t 4)] 50) = WI at *
          go_loopw [62] (fun z wv => ∃ p : Nat, p ≤ 5 ∧ z = .int .i64 (p : Int) ∧ A2 w wv C u ∧ ∀ q, q < p → ok2 C u t q) (fun z _ => 6 - (intOf z).toNat)
          case atStart => exact ⟨0, by omega, rfl, unhide AN, fun q hq => by omega⟩
          case round =>
            clear AN
            obtain ⟨p, hp, rfl, A, hok⟩ := hrel
            by_cases hlp : p < 5
            · have k2 : (p : Int) < 5 := by omega
              have p0 : (0 : Int) ≤ (p : Int) := by omega
              have wp1 : wrap64 ((p : Int) + 1) = (p : Int) + 1 := wrap_small (p + 1) (by omega)
              have hxi := unhide hix p hlp
              have hlpH := hide hlp
              obtain ⟨hb, hk, ht, hT⟩ := unhide hBH
              have b1 := A.q.blk hb
              have hGW := b1.lt
              have c8 : wr.cell? ⟨G, 20, none⟩ = some (.map (some (L 5))) := b1.cell 20
              have c9 : wr.cell? ⟨G, 21, none⟩ = some (.map (some (L 6))) := b1.cell 21
              have kq := hk.quiet A.q
              have hex := kq.exact2 (t p)
              have hlo : ∀ n, (Instr.lookup 47 (.map (some (L 5))) (rk (t p)) false).run Try.prog (wr.drewN n) = .ok (.int .i64 ((C.lo (t p)).getD 0)) (wr.drewN n) := fun n => (kq.quiet ((Chg.refl _ _).drewN n)).least (t p)
              have hco : ∀ n, (Instr.lookup 47 (.map (some (w.heap.size + 1))) (rk (t p)) false).run Try.prog (wr.drewN n) = .ok (.int .i64 ((occ u (t p) 5 : Nat) : Int)) (wr.drewN n) := fun n => (A.mp.quiet ((Chg.refl _ _).drewN n)).look (t p)
              have NOp := hide (unhide NOj p hlp)
              have OK : Hid (ok2 C u t p ↔ (C.lo (t p)).getD 0 ≤ ((occ u (t p) 5 : Nat) : Int) ∧ ∀ h, C.hi (t p) = some h → ((occ u (t p) 5 : Nat) : Int) = h) := Iff.rfl
              have NEXT : Hid (ok2 C u t p → ∀ n, A2 w (wr.drewN n) C u ∧ ∀ q, q < p + 1 → ok2 C u t q) := fun ho n => ⟨A.quiet ((Chg.refl _ _).drewN n), fun q hq => by
                by_cases e : q = p
                · subst e; exact ho
                · exact hok q (by omega)⟩
              have QH : Hid (∀ n, Quiet w (wr.drewN n)) := fun n => A.q.trans ((Chg.refl _ _).drewN n)
              clear A hok hp hlp hb hk ht hT b1 kq hix NOj
              generalize ok2 C u t p = OKP at *
              generalize ((occ u (t p) 5 : Nat) : Int) = oc at *
              generalize (C.lo (t p)).getD 0 = lo at *
              generalize C.hi (t p) = ho at *
              generalize t p = c at *
              generalize L 5 = L5 at *
              generalize L 6 = L6 at *
              by_cases h1 : oc < lo
              · have d1 : decide (oc < lo) = true := decide_eq_true h1
                have fin : Hid (¬ OKP) := fun h => absurd ((unhide OK).1 h).1 (Int.not_le.2 h1)
                clear h1 OK
                go_wp2
                go_quiet (fail)
                go_wp2
                go_ret
                exact ⟨⟨false, rfl, unhide NOp (unhide fin)⟩, unhide QH _⟩
              · have d1 : decide (oc < lo) = false := decide_eq_false h1
                cases ho with
                | none =>
                  have fin : Hid OKP := (unhide OK).2 ⟨Int.not_lt.1 h1, fun h e => by cases e⟩
                  clear h1 OK
                  simp only [Option.getD_none, Option.isSome_none] at hex
                  go_wp2
                  go_quiet (fail)
                  go_wp2
                  go_roundw
                  case rel => exact ⟨p + 1, unhide hlpH, by simp; try exact wp1, unhide NEXT (unhide fin) _⟩
                  case measure =>
                    have h := unhide hlpH
                    first
                      | exact meas5 h
                      | (rw [wp1]; exact meas5 h)
                | some h0 =>
                  simp only [Option.getD_some, Option.isSome_some] at hex
                  by_cases h2 : oc = h0
                  · have d2 : (oc == h0) = true := beq_iff_eq.2 h2
                    have fin : Hid OKP := (unhide OK).2 ⟨Int.not_lt.1 h1, fun h e => by cases e; exact h2⟩
                    clear h1 h2 OK
                    go_wp2
                    go_quiet (fail)
                    go_wp2
                    go_roundw
                    case rel => exact ⟨p + 1, unhide hlpH, by simp; try exact wp1, unhide NEXT (unhide fin) _⟩
                    case measure =>
                      have h := unhide hlpH
                      first
                        | exact meas5 h
                        | (rw [wp1]; exact meas5 h)
                  · have d2 : (oc == h0) = false := beq_eq_false_iff_ne.2 h2
                    have fin : Hid (¬ OKP) := fun h => absurd (((unhide OK).1 h).2 h0 rfl) h2
                    clear h1 h2 OK
                    go_wp2
                    go_quiet (fail)
                    go_wp2
                    go_ret
                    exact ⟨⟨false, rfl, unhide NOp (unhide fin)⟩, unhide QH _⟩
            · have k2 : ¬ (p : Int) < 5 := by omega
              obtain rfl : p = 5 := by omega
              have fin : Hid (A2 w wr C u ∧ ∀ t ∈ T.take (j + 1), ∀ p, p < 5 → ok2 C u t p) := ⟨A, unhide ttH hok⟩
              clear A hok hp hlp hix NOj ttH
              go_wp2
              go_roundw
              case rel => exact ⟨j + 1, unhide hltH, by simp; try exact wj, unhide fin⟩
              case measure =>
                have h := unhide hltH
                first
                  | exact meas_list h
                  | (rw [wj]; exact meas_list h)
        · have k1 : ¬ (j : Int) < (T.length : Int) := by omega
          obtain rfl : j = T.length := by omega
          have fin : Hid (Says C T u true ∧ Quiet w wr) := ⟨unhide YES (fun t hm => hok t (by rw [List.take_length]; exact hm)), A.q⟩
          clear A hok hj hlt NO2
          go_wp2
          go_ret
          exact ⟨⟨true, rfl, (unhide fin).1⟩, (unhide fin).2⟩
end Go.Proofs.Qxb6500370a
