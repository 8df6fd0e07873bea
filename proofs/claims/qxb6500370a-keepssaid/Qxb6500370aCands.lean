/-
  THE REAL GAME: Cands.
-/
import Derived.Test.Qxb6500370aGame
namespace Go.Proofs.Qxb6500370a
open Go.RowKit Go.Qx Go.Qx.Mk
set_option linter.unusedVariables false
set_option linter.unusedSimpArgs false

/-- x agrees: it gives every try the marks that the secret gives it. -/
def agreeB (st : St) (x : List Int) : Bool := st.ts.all fun t => marksL (fw x) (fw t) == marksL (fw st.sec) (fw t)
theorem markB_inj {a b : Nat} (ha : a ≤ 2) (hb : b ≤ 2) (h : markB a = markB b) : a = b := by
  rcases (by omega : a = 0 ∨ a = 1 ∨ a = 2) with rfl | rfl | rfl <;> rcases (by omega : b = 0 ∨ b = 1 ∨ b = 2) with rfl | rfl | rfl <;> first | rfl | (exact absurd h (by decide))
theorem marksL_eq (a b t : Nat → Int) : marksL a t = marksL b t ↔ ∀ p, p < 5 → Mk.mark 5 a t p = Mk.mark 5 b t p := by
  constructor
  · intro h p hp
    unfold marksL at h
    injection h with h0 h
    injection h with h1 h
    injection h with h2 h
    injection h with h3 h
    injection h with h4 h
    rcases (by omega : p = 0 ∨ p = 1 ∨ p = 2 ∨ p = 3 ∨ p = 4) with rfl | rfl | rfl | rfl | rfl
    · exact markB_inj (mark_le2 _ _ _ _) (mark_le2 _ _ _ _) h0
    · exact markB_inj (mark_le2 _ _ _ _) (mark_le2 _ _ _ _) h1
    · exact markB_inj (mark_le2 _ _ _ _) (mark_le2 _ _ _ _) h2
    · exact markB_inj (mark_le2 _ _ _ _) (mark_le2 _ _ _ _) h3
    · exact markB_inj (mark_le2 _ _ _ _) (mark_le2 _ _ _ _) h4
  · intro h
    unfold marksL
    rw [h 0 (by omega), h 1 (by omega), h 2 (by omega), h 3 (by omega), h 4 (by omega)]
theorem word_ne {l : List Int} (h : Word l) (p : Nat) (hp : p < 5) : fw l p ≠ 0 := by
  obtain ⟨h1, h2⟩ := h
  have e : fw l p = l[p]'(by omega) := by
    unfold fw
    rw [List.getD_eq_getElem?_getD, List.getElem?_eq_getElem (by omega)]; rfl
  have := h2 _ (List.getElem_mem (show p < l.length by omega))
  rw [e]; omega
theorem agree_iff (st : St) (ok : st.Ok) (x : List Int) : Allows 5 st.C.know (st.ts.map fw) (fw x) ↔ agreeB st x = true := by
  unfold agreeB
  rw [List.all_eq_true]
  cases hb : st.bg with
  | false =>
    have e := (ok.nob hb).1
    have e2 : st.C = KC.none := by unfold St.C; rw [e]; rfl
    rw [e, e2]
    constructor
    · intro _ t ht; cases ht
    · intro _
      exact ⟨fun p _ => ⟨.inl rfl, rfl⟩, fun t ht => (by cases ht)⟩
  | true =>
    have hw := ok.secW hb
    unfold St.C
    rw [allows_iff (knows_taught (fw st.sec) (st.ts.map fw)) (fun p hp => word_ne hw p hp)]
    constructor
    · intro h t ht
      rw [beq_iff_eq, marksL_eq]
      exact h (fw t) (List.mem_map_of_mem ht)
    · intro h t ht
      obtain ⟨u, hu, rfl⟩ := List.mem_map.1 ht
      have := h u hu
      rw [beq_iff_eq, marksL_eq] at this
      exact this
theorem allowsG (w : World) (G : Nat) (vb vt vs : Value) (L : Nat → Nat) (st : St) (ok : st.Ok) (R : GRep w G vb vt vs L st) (x : List Int) : Calls Try.prog 34 #[ptr G, wordF (fw x)] w fun e w' => e = .returned (.bool (agreeB st x)) ∧ Quiet w w' := by
  have six := ok.six
  refine (allows_any w G L vb vt vs (fw st.sec) st.bg st.hd (st.ts.map fw) st.C (fw x) R.b R.kr R.rt (by simp; omega)).mono ?_
  rintro e w' ⟨⟨b, rfl, hb⟩, q⟩
  have : b = agreeB st x := by
    rw [Bool.eq_iff_iff, ← agree_iff st ok x]; exact hb
  rw [this]
  exact ⟨rfl, q⟩

def candB (st : St) (x : List Int) : UInt8 := if agreeB st x then 49 else 48
def candP (st : St) : List UInt8 := st.ws.map (candB st)
/-- The bytes behind j rounds. -/
def candR (st : St) (j : Nat) : List Value := (st.ws.take j).map (fun x => u8 (candB st x)) ++ List.replicate (st.ws.length - j) (.int .u8 0)
theorem candR_len (st : St) (j : Nat) (h : j ≤ st.ws.length) : (candR st j).length = st.ws.length := by
  unfold candR; simp; omega
theorem candR_set (st : St) (j : Nat) (x : List Int) (h : st.ws[j]? = some x) : (candR st j).set j (u8 (candB st x)) = candR st (j + 1) := by
  have hlt : j < st.ws.length := (List.getElem?_eq_some_iff.1 h).1
  unfold candR
  rw [List.take_add_one, h]
  rw [List.set_append_right _ _ (by simp; omega)]
  rw [show st.ws.length - j = (st.ws.length - (j + 1)) + 1 by omega, List.replicate_succ]
  have : j - ((st.ws.take j).map (fun x => u8 (candB st x))).length = 0 := by simp; omega
  rw [this]
  simp
theorem candR_get (st : St) (j : Nat) (h : j < st.ws.length) : ∃ v, (candR st j)[j]? = some v := ⟨_, List.getElem?_eq_getElem (by rw [candR_len st j (by omega)]; exact h)⟩
theorem made_bytes (n : Nat) : madeCells (Value.int .u8 0).cells (n * 1) = (List.replicate n (Value.int .u8 0)).toArray := by
  rw [Nat.mul_one]
  apply Array.ext'
  simp [madeCells, Value.cells]
  apply List.ext_getElem
  · simp
  · intro i h1 h2
    simp [Nat.mod_one]
theorem makeB (W : World) (n : Nat) (hn : n ≤ 1000) : (Instr.makeSlice 31 (.int .i64 (n : Int)) (.int .i64 (n : Int))).run Try.prog W = .ok (.slice (some ⟨W.heap.size, 0, none⟩) n n) (W.alloc (.cells (List.replicate n (Value.int .u8 0)).toArray 5)) := by
  obtain ⟨i, hi, hz0, hz1, hz2⟩ := info_parts info5
  have := run_make (P := Try.prog) W 31 5 i _ und31 hi hz0 .i64 .i64 n n (by omega) (by omega) (by rw [hz2]; omega) (by omega)
  rw [hz1, Int.toNat_natCast, made_bytes] at this
  exact this

structure CR (w wr : World) (st : St) (j : Nat) : Prop where
  q : Quiet w wr
  b : Blk wr w.heap.size 5 (candR st j)

set_option maxHeartbeats 4000000 in
set_option maxRecDepth 100000 in
theorem cands_any (w : World) (G : Nat) (vb vt vs : Value) (L : Nat → Nat) (st : St) (ok : st.Ok) (R : GRep w G vb vt vs L st) : Calls Try.prog 21 #[ptr G] w fun e w' => e = .returned (.string (str (candP st))) ∧ Quiet w w' := by
  have few := ok.few
  have hG := R.b.lt
  have hl : (st.ws.map fw).length = st.ws.length := by simp
  obtain ⟨x, cp, hx⟩ := R.rb.sl
  rw [hl] at hx
  have cb : w.cell? ⟨G, 0, none⟩ = some vb := R.b.cell 0
  rw [hx] at cb
  have hmk := makeB w st.ws.length (by omega)
  have S0 : Hid (CR w (w.alloc (.cells (List.replicate st.ws.length (Value.int .u8 0)).toArray 5)) st 0) := ⟨Chg.alloc (Chg.refl (fun _ => False) w) _, by
    have := Blk.new w 5 (List.replicate st.ws.length (Value.int .u8 0))
    exact this⟩
  have cb2 : (w.alloc (.cells (List.replicate st.ws.length (Value.int .u8 0)).toArray 5)).cell? ⟨G, 0, none⟩ = some (.slice x st.ws.length cp) := Quiet.cell (Chg.alloc (Chg.refl (fun _ => False) w) _) cb
  have RH := hide (⟨R, ok⟩ : _ ∧ _)
  have hxH := hide hx
  have fewH := hide few
  clear R ok hx few hl
  obtain ⟨W0, hW0⟩ : ∃ W, w.alloc (.cells (List.replicate st.ws.length (Value.int .u8 0)).toArray 5) = W := ⟨_, rfl⟩
  rw [hW0] at hmk S0 cb2
  have hG0 : G < W0.heap.size := by rw [← hW0]; simp; omega
  clear hW0
  obtain ⟨n, hn⟩ : ∃ n, st.ws.length = n := ⟨_, rfl⟩
  rw [hn] at hmk cb cb2 fewH hxH
  have hnH := hide hn
  clear hn
  unfold ptr
  go_enter Try.func21, Try.ntmps21
  go_wp2
  clear hmk cb cb2
  go_loopw [17] (fun z wr => ∃ j : Nat, j ≤ n ∧ z = .int .i64 (j : Int) ∧ CR w wr st j) (fun z _ => n + 1 - (intOf z).toNat)
  case atStart => exact ⟨0, by omega, rfl, unhide S0⟩
  case round =>
    clear S0
    obtain ⟨j, hj, rfl, A⟩ := hrel
    by_cases hlt : j < n
    · have few := unhide fewH
      have k1 : (j : Int) < (n : Int) := by omega
      have j0 : (0 : Int) ≤ (j : Int) := by omega
      have wj : wrap64 ((j : Int) + 1) = (j : Int) + 1 := wrap_small (j + 1) (by omega)
      obtain ⟨R, ok⟩ := unhide RH
      have hn := unhide hnH
      obtain ⟨g, cap, t, htj, hv, r0, r1, r2, r3, r4⟩ := (R.rb.quiet A.q).cells j (by simp; omega)
      obtain ⟨h1, h2⟩ : x = some ⟨g, 0, none⟩ ∧ cp = cap := by
        have := (unhide hxH).symm.trans hv
        simp at this; exact ⟨this.1, this.2.2⟩
      subst h1; subst h2
      obtain ⟨l, hlj, rfl⟩ : ∃ l, st.ws[j]? = some l ∧ fw l = t := by
        rw [List.getElem?_map] at htj
        cases h : st.ws[j]? with
        | none => rw [h] at htj; cases htj
        | some l => rw [h] at htj; exact ⟨l, rfl, by simpa using htj⟩
      obtain ⟨v0, hv0⟩ := candR_get st j (by omega)
      have hB : w.heap.size < wr.heap.size := A.b.lt
      obtain ⟨WA, hWA⟩ : ∃ W, wr.alloc (.cells #[.int .i32 (fw l 0), .int .i32 (fw l 1), .int .i32 (fw l 2), .int .i32 (fw l 3), .int .i32 (fw l 4)] 50) = W := ⟨_, rfl⟩
      have BA : Blk WA w.heap.size 5 (candR st j) := by rw [← hWA]; exact A.b.alloc _
      have BW : Blk WA wr.heap.size 50 (wc (fw l)) := by rw [← hWA]; exact Blk.new wr 50 (wc (fw l))
      have QA : Quiet w WA := by rw [← hWA]; exact Chg.alloc A.q _
      have ca := (BA.cell j).trans hv0
      have fa := BA.frozen j
      obtain ⟨WB, hWB⟩ : ∃ W, WA.setCell ⟨w.heap.size, j, none⟩ (.int .u8 48) = W := ⟨_, rfl⟩
      have BB : Blk WB w.heap.size 5 ((candR st j).set j (.int .u8 48)) := by rw [← hWB]; exact BA.set j _
      have BV : Blk WB wr.heap.size 50 (wc (fw l)) := by rw [← hWB]; exact BW.set_other (a := ⟨w.heap.size, j, none⟩) (by show wr.heap.size ≠ w.heap.size; omega) _
      have QB : Quiet w WB := by rw [← hWB]; exact Chg.setCell QA (p := ⟨w.heap.size, j, none⟩) (.inr (Nat.le_refl _)) _
      have y0 := BV.cell 0
      have y1 := BV.cell 1
      have y2 := BV.cell 2
      have y3 := BV.cell 3
      have y4 := BV.cell 4
      simp [wc] at y0 y1 y2 y3 y4
      have hcl := allowsG WB G vb vt vs L st ok (R.quiet QB) l
      unfold ptr wordF wc at hcl
      have hclH := hide hcl
      have BBH := hide BB
      have QBH := hide QB
      have hltH := hide hlt
      have hstep : Hid (∀ wv, Quiet w wv → Blk wv w.heap.size 5 ((candR st j).set j (u8 (candB st l))) → CR w wv st (j + 1)) := fun wv q b => ⟨q, by rw [candR_set st j l hlj] at b; exact b⟩
      have hlen : Hid ((candR st j).length = n ∧ j < n) := ⟨by rw [candR_len st j (by omega)]; exact hn, hlt⟩
      clear A hj hlt R ok htj hv hlj hv0 BA BW QA BB BV QB hcl few hn
      go_wp2_with fail
      refine (unhide hclH).mono ?_
      clear hclH ca fa y0 y1 y2 y3 y4
      rintro e w2 ⟨rfl, q2⟩
      have b2 := q2.blk (unhide BBH)
      have Q2 := (unhide QBH).trans q2
      have c2 : w2.cell? ⟨w.heap.size, j, none⟩ = some (.int .u8 48) := (b2.cell j).trans (by rw [List.getElem?_set_self (by rw [(unhide hlen).1]; exact (unhide hlen).2)])
      have f2 := b2.frozen j
      by_cases hag : agreeB st l = true
      · have b3 := b2.set j (.int .u8 49)
        rw [List.set_set] at b3
        have fin := hide (unhide hstep (w2.setCell ⟨w.heap.size, j, none⟩ (.int .u8 49)) (Chg.setCell Q2 (p := ⟨w.heap.size, j, none⟩) (.inr (Nat.le_refl _)) _) (by unfold candB; rw [hag]; exact b3))
        rw [hag]
        clear b2 b3 Q2 hstep hag BBH QBH
        go_wp2
        go_roundw
        case rel => exact ⟨j + 1, unhide hltH, by simp; try exact wj, unhide fin⟩
        case measure =>
          have h := unhide hltH
          first
            | exact meas_list h
            | (rw [wj]; exact meas_list h)
      · have hag : agreeB st l = false := by simpa using hag
        have fin := hide (unhide hstep w2 Q2 (by unfold candB; rw [hag]; exact b2))
        rw [hag]
        clear b2 Q2 hstep hag BBH QBH
        go_wp2
        go_roundw
        case rel => exact ⟨j + 1, unhide hltH, by simp; try exact wj, unhide fin⟩
        case measure =>
          have h := unhide hltH
          first
            | exact meas_list h
            | (rw [wj]; exact meas_list h)
    · have k1 : ¬ (j : Int) < (n : Int) := by omega
      obtain rfl : j = n := by omega
      have hn := unhide hnH
      have hcv : (convert 31 9 (.slice (some ⟨w.heap.size, 0, none⟩) j j)).run Try.prog wr = .ok (.string (str (candP st))) wr :=
        run_str_of_cells (P := Try.prog) wr 31 5 und31 Try.underlying5 w.heap.size 0 j j (candP st) (by unfold candP; simp [hn]) (fun i hi => by
          have hi' : i < st.ws.length := by omega
          rw [Nat.zero_add, A.b.cell i]
          unfold candR candP
          rw [List.getElem?_append_left (by simp; omega), List.getElem?_map, List.getElem?_take, if_pos hi, List.getElem?_eq_getElem hi']
          rw [List.getElem?_map, List.getElem?_eq_getElem hi']
          rfl) 9 Try.underlying9
      have qH := hide A.q
      clear A hlt hj hn
      go_wp2
      go_ret
      exact ⟨rfl, unhide qH⟩
end Go.Proofs.Qxb6500370a
