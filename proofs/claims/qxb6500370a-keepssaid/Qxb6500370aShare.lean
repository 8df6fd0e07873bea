/-
  THE REAL GAME: Share.
-/
import Derived.Test.Qxb6500370aShow
import Derived.Test.Qxb6500370aItoa
namespace Go.Proofs.Qxb6500370a
open Go.RowKit Go.Qx Go.Qx.Mk
set_option linter.unusedVariables false
set_option linter.unusedSimpArgs false

/-- A mark's square. -/
def sqL (b : UInt8) : List UInt8 := if b = 103 then [240, 159, 159, 169] else if b = 121 then [240, 159, 159, 168] else [226, 172, 156]
theorem sqL_len (b : UInt8) : (sqL b).length ≤ 4 := by
  unfold sqL
  repeat' split
  all_goals simp
def lineTo (m : List UInt8) : Nat → List UInt8
  | 0 => []
  | p + 1 => lineTo m p ++ sqL (m.getD p 0)
theorem lineTo_len (m : List UInt8) : ∀ p, (lineTo m p).length ≤ 4 * p
  | 0 => by simp [lineTo]
  | p + 1 => by
    have h1 := lineTo_len m p
    have h2 := sqL_len (m.getD p 0)
    simp only [lineTo, List.length_append]; omega
def shareHead (st : St) : List UInt8 := itoa st.ts.length ++ [47, 54] ++ (if st.hd then [42] else [])
def trial (st : St) (k : Nat) : List UInt8 := marksL (fw st.sec) (fw (st.ts.getD k []))
def shareTo (st : St) : Nat → List UInt8
  | 0 => shareHead st
  | k + 1 => shareTo st k ++ [10] ++ lineTo (trial st k) 5
theorem shareHead_len (st : St) : (shareHead st).length ≤ 23 := by
  have := itoa_length st.ts.length
  unfold shareHead
  split <;> simp <;> omega
theorem shareTo_len (st : St) : ∀ k, (shareTo st k).length ≤ 23 + 21 * k
  | 0 => shareHead_len st
  | k + 1 => by
    have h1 := shareTo_len st k
    have h2 := lineTo_len (trial st k) 5
    simp only [shareTo, List.length_append, List.length_singleton]; omega
def shareP (st : St) : List UInt8 × Int := if st.bg then (shareTo st st.ts.length, 0) else ([], 6)

/-- The marks kept, try by try. -/
theorem GRep.shown {w : World} {G : Nat} {vb vt vs : Value} {L : Nat → Nat} {st : St} (R : GRep w G vb vt vs L st) (k : Nat) (hk : k < st.ts.length) : ∃ g cap, vs = .slice (some ⟨g, 0, none⟩) st.ts.length cap ∧ w.cell? ⟨g, k, none⟩ = some (.string (str (trial st k))) := by
  rcases R.rs.form with ⟨h1, h2, h3⟩ | ⟨g, cap, spare, h, hb, _⟩
  · omega
  · refine ⟨g, cap, h, ?_⟩
    rw [hb.cell k]
    have hl : (shownV st).length = st.ts.length := by unfold shownV; simp
    rw [List.getElem?_append_left (by omega)]
    unfold shownV trial
    rw [List.getElem?_map, List.getD_eq_getElem?_getD, List.getElem?_eq_getElem hk]
    rfl
theorem GRep.shownSl {w : World} {G : Nat} {vb vt vs : Value} {L : Nat → Nat} {st : St} (R : GRep w G vb vt vs L st) : ∃ x cp, vs = .slice x st.ts.length cp := by
  rcases R.rs.form with ⟨h1, h2, h3⟩ | ⟨g, cap, spare, h, hb, _⟩
  · exact ⟨none, 0, by rw [h1, h2]⟩
  · exact ⟨_, _, h⟩
def sqC : List Value := [.int .i32 129001, .int .i32 129000, .int .i32 11036]
theorem conv_sq (W : World) (r : Int) (h : Utf8.valid r = true) : (convert 21 9 (.int .i32 r)).run Try.prog W = .ok (.string (Utf8.encode r)) W := by
  simp [convert, run_underlying Try.underlying21, run_underlying Try.underlying9]
  unfold Conv.intToString
  simp [h]
theorem encG : Utf8.encode 129001 = ⟨#[240, 159, 159, 169]⟩ := by decide
theorem encY : Utf8.encode 129000 = ⟨#[240, 159, 159, 168]⟩ := by decide
theorem encB : Utf8.encode 11036 = ⟨#[226, 172, 156]⟩ := by decide
theorem cvG (W : World) : (convert 21 9 (.int .i32 129001)).run Try.prog W = .ok (.string ⟨#[240, 159, 159, 169]⟩) W := by rw [conv_sq W _ (by decide), encG]
theorem cvY (W : World) : (convert 21 9 (.int .i32 129000)).run Try.prog W = .ok (.string ⟨#[240, 159, 159, 168]⟩) W := by rw [conv_sq W _ (by decide), encY]
theorem cvB (W : World) : (convert 21 9 (.int .i32 11036)).run Try.prog W = .ok (.string ⟨#[226, 172, 156]⟩) W := by rw [conv_sq W _ (by decide), encB]

set_option maxHeartbeats 4000000 in
set_option maxRecDepth 100000 in
theorem share_any (w : World) (G : Nat) (vb vt vs : Value) (L : Nat → Nat) (st : St) (ok : st.Ok) (R : GRep w G vb vt vs L st) : Calls Try.prog 22 #[ptr G] w fun e w' => e = .returned (.tuple #[.string (str (shareP st).1), .int .i64 (shareP st).2]) ∧ Quiet w w' := by
  have hG := R.b.lt
  have six := ok.six
  have c12 : w.cell? ⟨G, 12, none⟩ = some (.bool st.bg) := R.b.cell 12
  unfold ptr
  unfold shareP
  cases hbg : st.bg with
  | false =>
    rw [hbg] at c12
    clear R ok hbg six
    go_enter Try.func22, Try.ntmps22
    go_wp2
    go_ret2
    exact ⟨rfl, Chg.refl _ _⟩
  | true =>
    rw [hbg] at c12
    have hlt : (st.ts.map fw).length = st.ts.length := by simp
    obtain ⟨x2, cp2, hx2⟩ := R.rt.sl
    rw [hlt] at hx2
    obtain ⟨x3, cp3, hx3⟩ := R.shownSl
    have c1 : w.cell? ⟨G, 1, none⟩ = some vt := R.b.cell 1
    rw [hx2] at c1
    have hit := itoa_any (st.ts.length : Int) w (by omega) (by omega)
    have z1 : (str (itoa (st.ts.length : Int))).size ≤ 20 := by rw [str_size]; exact itoa_length _
    have hitH := hide hit
    have RH := hide (⟨R, ok⟩ : _ ∧ _)
    obtain ⟨n, hn⟩ : ∃ n, st.ts.length = n := ⟨_, rfl⟩
    rw [hn] at c1 hx2 hx3 six hitH z1 
    have key : ∀ hdv, st.hd = hdv → Calls Try.prog 22 #[.pointer (some ⟨G, 0, none⟩)] w fun e w' => e = .returned (.tuple #[.string (str (shareTo st st.ts.length)), .int .i64 0]) ∧ Quiet w w' := by
      intro hdv hhd
      have hS : Hid (str (shareTo st 0) = if hdv then str (itoa (n : Int)) ++ ⟨#[47, 54]⟩ ++ ⟨#[42]⟩ else str (itoa (n : Int)) ++ ⟨#[47, 54]⟩) := by
        show _ = _
        show str (shareHead st) = _
        unfold shareHead
        rw [hn, hhd]
        cases hdv
        · simp only [Bool.false_eq_true, if_false, List.append_nil]
          rw [← str_append]; rfl
        · simp only [if_true]
          rw [← str_append, ← str_append]; rfl
      have c13 : w.cell? ⟨G, 13, none⟩ = some (.bool hdv) := by rw [← hhd]; exact R.b.cell 13
      have c14 : w.cell? ⟨G, 14, none⟩ = some (.slice x3 n cp3) := by rw [← hx3]; exact R.b.cell 14
      have hnH := hide hn
      have hxH := hide hx3
      clear R ok hhd hn hx2 hx3 hit hbg hlt
      have sixH := hide six
      clear six
      generalize str (itoa (n : Int)) = s0 at *
      cases hdv
      all_goals
        go_enter Try.func22, Try.ntmps22
        go_wp2_with fail
        refine (unhide hitH).mono ?_
        clear hitH
        rintro e w1 ⟨rfl, q1⟩
        have d13 := Quiet.cell q1 c13
        have d14 := Quiet.cell q1 c14
        have hG1 : G < w1.heap.size := Nat.lt_of_lt_of_le hG q1.size
        have q1H := hide q1
        clear q1 c1 c12 c13 c14 hG
        obtain ⟨W1, hW1⟩ : ∃ W, w1.alloc (.cells #[.int .i32 129001, .int .i32 129000, .int .i32 11036] 73) = W := ⟨_, rfl⟩
        have B1 : Blk W1 w1.heap.size 73 sqC := by rw [← hW1]; exact Blk.new w1 73 sqC
        have Q1 : Quiet w W1 := by rw [← hW1]; exact Chg.alloc (unhide q1H) _
        have e14 : W1.cell? ⟨G, 14, none⟩ = some (.slice x3 n cp3) := by
          rw [← hW1]; exact Quiet.cell (Chg.alloc (Chg.refl _ _) _) d14
        go_wp2
        clear hW1 d13 d14 e14 z1 hG1 q1H
        obtain ⟨B, hB⟩ : ∃ B, w1.heap.size = B := ⟨_, rfl⟩
        rw [hB] at B1 ⊢
        clear hB
        go_loopw [4, 34] (fun s z wr => ∃ k : Nat, k ≤ n ∧ z = .int .i64 (k : Int) ∧ s = .string (str (shareTo st k)) ∧ Quiet w wr ∧ Blk wr B 73 sqC) (fun _ z _ => n + 1 - (intOf z).toNat)
        case atStart => exact ⟨0, by omega, rfl, by rw [unhide hS]; rfl, Q1, B1⟩
        case round =>
          clear Q1 B1 hS
          obtain ⟨k, hk, rfl, rfl, q, b⟩ := hrel
          by_cases hlt : k < n
          · obtain ⟨R, ok⟩ := unhide RH
            have hn := unhide hnH
            obtain ⟨g, cap, hv, cg⟩ := (R.quiet q).shown k (by omega)
            obtain ⟨h1, h2⟩ : x3 = some ⟨g, 0, none⟩ ∧ cp3 = cap := by
              have := (unhide hxH).symm.trans hv
              simp at this; exact ⟨this.1, this.2.2⟩
            subst h1; subst h2
            have six := unhide sixH
            have k1 : (k : Int) < (n : Int) := by omega
            have k0 : (0 : Int) ≤ (k : Int) := by omega
            have wk : wrap64 ((k : Int) + 1) = (k : Int) + 1 := wrap_small (k + 1) (by omega)
            have hl1 := shareTo_len st k
            have z1 : (str (shareTo st k)).size ≤ 200 := by rw [str_size]; omega
            have z2 : (str (trial st k)).size = 5 := by rw [str_size]; rfl
            have hsuc : Hid (∀ s1, s1 = str (shareTo st k) ++ ⟨#[10]⟩ → .string s1 = Value.string (str (shareTo st k ++ [10] ++ lineTo (trial st k) 0))) := by
              show ∀ s1, _
              rintro s1 rfl
              rw [show lineTo (trial st k) 0 = [] from rfl, List.append_nil, ← str_append]; rfl
            have hidx : Hid (∀ p : Nat, p < 5 → ∀ W, (Instr.index 9 (.string (str (trial st k))) (.int .i64 (p : Int))).run Try.prog W = .ok (.int .u8 ((markB (Mk.mark 5 (fw st.sec) (fw (st.ts.getD k [])) p)).toNat : Int)) W) := fun p hp W => idx_marks _ _ p hp W
            have hmk : Hid (∀ p : Nat, p < 5 → (trial st k).getD p 0 = markB (Mk.mark 5 (fw st.sec) (fw (st.ts.getD k [])) p)) := by
              show ∀ p : Nat, p < 5 → _
              intro p hp
              rcases (by omega : p = 0 ∨ p = 1 ∨ p = 2 ∨ p = 3 ∨ p = 4) with rfl | rfl | rfl | rfl | rfl <;> rfl
            have hltH := hide hlt
            have qH := hide (⟨q, b⟩ : _ ∧ _)
            have lenH : Hid ((shareTo st k).length ≤ 200) := by show _ ≤ _; omega
            have b0 := b.cell 0
            have b1 := b.cell 1
            have b2 := b.cell 2
            simp [sqC] at b0 b1 b2
            clear R ok hn hv q b hl1 hk hlt six
            have hT : Hid (shareTo st (k + 1) = shareTo st k ++ [10] ++ lineTo (trial st k) 5) := rfl
            generalize trial st k = T at *
            generalize hP : shareTo st k = P0 at *
            clear hP
            generalize hSP : str P0 = SP at *
            generalize hTM : str T = TM at *
            go_wp2
            go_loopw [4, 42] (fun s z wv => ∃ p : Nat, p ≤ 5 ∧ z = .int .i64 (p : Int) ∧ s = .string (str (P0 ++ [10] ++ lineTo T p)) ∧ wv = wr) (fun _ z _ => 6 - (intOf z).toNat)
            case atStart => exact ⟨0, by omega, rfl, unhide hsuc _ rfl, rfl⟩
            case round =>
              obtain ⟨p, hp, rfl, rfl, rfl⟩ := hrel
              by_cases hI : p < 5
              · have p1 : (p : Int) < 5 := by omega
                have p0 : (0 : Int) ≤ (p : Int) := by omega
                have wp : wrap64 ((p : Int) + 1) = (p : Int) + 1 := wrap_small (p + 1) (by omega)
                have hxs := unhide hidx p hI
                have hmp := unhide hmk p hI
                have hll := lineTo_len T p
                have hlP := unhide lenH
                have zs : (str (P0 ++ [10] ++ lineTo T p)).size ≤ 300 := by
                  rw [str_size]; simp only [List.length_append, List.length_singleton]; omega
                have hltI := hide hI
                clear hp hI hll hlP
                rcases markB_cases (Mk.mark 5 (fw st.sec) (fw (st.ts.getD k [])) p) with ⟨hm, hB⟩ | ⟨hm, hB⟩ | ⟨hm, hm1, hB⟩
                · rw [hB] at hxs hmp
                  have hsq : Hid (Value.string (str (P0 ++ [10] ++ lineTo T p) ++ ⟨#[240, 159, 159, 169]⟩) = Value.string (str (P0 ++ [10] ++ lineTo T (p + 1)))) := by
                    show _ = _
                    rw [show lineTo T (p + 1) = lineTo T p ++ sqL (T.getD p 0) from rfl, hmp, ← List.append_assoc, ← str_append]
                    rfl
                  have hxs : ∀ W, (Instr.index 9 (.string TM) (.int .i64 (p : Int))).run Try.prog W = .ok (.int .u8 103) W := hxs
                  have hcv := cvG
                  clear hmp hB hm
                  generalize str (P0 ++ [10] ++ lineTo T p) = s1 at *
                  go_wp2
                  go_roundw
                  case rel => exact ⟨p + 1, unhide hltI, by simp; try exact wp, unhide hsq, by first | rfl | trivial⟩
                  case measure =>
                    have h := unhide hltI
                    first
                      | exact meas_list h
                      | (rw [wp]; exact meas_list h)
                · rw [hB] at hxs hmp
                  have hsq : Hid (Value.string (str (P0 ++ [10] ++ lineTo T p) ++ ⟨#[240, 159, 159, 168]⟩) = Value.string (str (P0 ++ [10] ++ lineTo T (p + 1)))) := by
                    show _ = _
                    rw [show lineTo T (p + 1) = lineTo T p ++ sqL (T.getD p 0) from rfl, hmp, ← List.append_assoc, ← str_append]
                    rfl
                  have hxs : ∀ W, (Instr.index 9 (.string TM) (.int .i64 (p : Int))).run Try.prog W = .ok (.int .u8 121) W := hxs
                  have hcv := cvY
                  clear hmp hB hm
                  generalize str (P0 ++ [10] ++ lineTo T p) = s1 at *
                  go_wp2
                  go_roundw
                  case rel => exact ⟨p + 1, unhide hltI, by simp; try exact wp, unhide hsq, by first | rfl | trivial⟩
                  case measure =>
                    have h := unhide hltI
                    first
                      | exact meas_list h
                      | (rw [wp]; exact meas_list h)
                · rw [hB] at hxs hmp
                  have hsq : Hid (Value.string (str (P0 ++ [10] ++ lineTo T p) ++ ⟨#[226, 172, 156]⟩) = Value.string (str (P0 ++ [10] ++ lineTo T (p + 1)))) := by
                    show _ = _
                    rw [show lineTo T (p + 1) = lineTo T p ++ sqL (T.getD p 0) from rfl, hmp, ← List.append_assoc, ← str_append]
                    rfl
                  have hxs : ∀ W, (Instr.index 9 (.string TM) (.int .i64 (p : Int))).run Try.prog W = .ok (.int .u8 45) W := hxs
                  have hcv := cvB
                  clear hmp hB hm hm1
                  generalize str (P0 ++ [10] ++ lineTo T p) = s1 at *
                  go_wp2
                  go_roundw
                  case rel => exact ⟨p + 1, unhide hltI, by simp; try exact wp, unhide hsq, by first | rfl | trivial⟩
                  case measure =>
                    have h := unhide hltI
                    first
                      | exact meas_list h
                      | (rw [wp]; exact meas_list h)
              · obtain rfl : p = 5 := by omega
                have fin : Hid (str (P0 ++ [10] ++ lineTo T 5) = str (shareTo st (k + 1))) := by show _ = _; rw [unhide hT]
                clear hidx hmk hsuc b0 b1 b2 lenH hp hI cg
                generalize str (P0 ++ [10] ++ lineTo T 5) = s1 at *
                go_wp2
                go_roundw
                case rel => exact ⟨k + 1, unhide hltH, by simp; try exact wk, by rw [unhide fin], unhide qH⟩
                case measure =>
                  have h := unhide hltH
                  first
                    | exact meas_list h
                    | (rw [wk]; exact meas_list h)
          · have k1 : ¬ (k : Int) < (n : Int) := by omega
            obtain rfl : k = n := by omega
            have hn := unhide hnH
            have fin : Hid (str (shareTo st st.ts.length) = str (shareTo st k)) := by show _ = _; rw [hn]
            have qH := hide q
            clear q b hk hlt hn
            generalize str (shareTo st k) = s1 at *
            go_wp2
            go_ret2
            exact ⟨by rw [unhide fin]; rfl, unhide qH⟩
    exact key st.hd rfl
end Go.Proofs.Qxb6500370a
