/-
  THE LAW'S OWN owed.
-/
import Derived.Test.Qxb6500370aKLaw
namespace Go.Proofs.Qxb6500370a
open Go.RowKit Go.Qx Go.Qx.Mk
set_option linter.unusedVariables false
set_option linter.unusedSimpArgs false

/-- What owed says. -/
def OW (s : ByteArray) (E : Int) (T : ByteArray) (sd : Bool) : Prop :=
  (sd = true ∧ E = (parseP s).2 ∧ (E = 0 → T = str (low s))) ∨ (sd = false ∧ E = 0 ∧ T = str (low s) ∧ s.size ≤ 40)
def owedPost (s : ByteArray) (w : World) (e : Ending) (w' : World) : Prop := ∃ E T sd, e = .returned (.tuple #[.int .i64 E, .string T, .bool sd]) ∧ Quiet w w' ∧ OW s E T sd
/-- The bytes while they are lowered. -/
def lowTo (s : ByteArray) (i : Nat) : List UInt8 := (low s).take i ++ s.data.toList.drop i
theorem lowTo_len (s : ByteArray) (i : Nat) (h : i ≤ s.size) : (lowTo s i).length = s.size := by
  unfold lowTo
  rw [List.length_append, List.length_take, low_len, List.length_drop]
  simp; omega
theorem lowTo_at (s : ByteArray) (i : Nat) (h : i < s.size) : (lowTo s i)[i]? = some (UInt8.ofNat (byt s i)) := by
  unfold lowTo
  have hl : ((low s).take i).length = i := by rw [List.length_take, low_len]; omega
  rw [List.getElem?_append_right (by omega), hl, Nat.sub_self, data_drop s i h]; rfl
theorem lowTo_next (s : ByteArray) (i : Nat) (h : i < s.size) : (lowTo s i).set i (UInt8.ofNat (lowN (byt s i))) = lowTo s (i + 1) := by
  unfold lowTo
  have hl : ((low s).take i).length = i := by rw [List.length_take, low_len]; omega
  rw [List.set_append_right _ _ (by omega), hl, Nat.sub_self, data_drop s i h, List.set_cons_zero, List.take_add_one, low_at s i h]
  simp
theorem lowTo_skip (s : ByteArray) (i : Nat) (h : i < s.size) (hb : lowN (byt s i) = byt s i) : lowTo s i = lowTo s (i + 1) := by
  rw [← lowTo_next s i h, hb]
  have h1 := (List.getElem?_eq_some_iff.1 (lowTo_at s i h)).2
  rw [← h1, List.set_getElem_self]
theorem lowTo_all (s : ByteArray) : lowTo s s.size = low s := by
  unfold lowTo
  rw [List.take_of_length_le (by rw [low_len]; exact Nat.le_refl _), List.drop_eq_nil_of_le (by simp), List.append_nil]
structure OB (w wr : World) (s : ByteArray) (i : Nat) (sp : List Value) : Prop where
  q : Quiet w wr
  b : FB wr w.heap.size 5 ((lowTo s i).map bv ++ sp) (s.size + sp.length)

theorem ow_idx (s : ByteArray) (i : Nat) (h : i < s.size) (W : World) : (Instr.index 9 (.string s) (.int .i64 (i : Int))).run Try.prog W = .ok (.int .u8 (byt s i : Int)) W := cut_idx s i h W
theorem meas41' {ii wd : Nat} (h : 41 - (ii + wd) < 41 - ii) : 41 - (ii + wd) < 41 - ii := h
set_option maxHeartbeats 4000000 in
set_option maxRecDepth 100000 in
theorem owed_any (w : World) (s : ByteArray) (hs : s.size ≤ maxLen) : Calls Try.prog 38 #[.string s] w (owedPost s w) := by
  unfold maxLen at hs
  by_cases h40 : 40 < s.size
  · have h40' : (40 : Int) < s.size := by omega
    have fin : Hid (OW s 1 ⟨#[]⟩ true) := .inl ⟨rfl, by rw [parse_long s h40], fun h => absurd h (by decide)⟩
    clear h40
    go_enter Try.func38, Try.ntmps38
    go_wp2
    go_ret3
    exact ⟨1, _, true, rfl, Chg.refl _ _, unhide fin⟩
  · have h40' : ¬ (40 : Int) < s.size := by omega
    have h40 : s.size ≤ 40 := by omega
    obtain ⟨sp, cap, hcv⟩ := conv_bytes w s
    obtain ⟨W1, hW1⟩ : ∃ W, w.drew.alloc (.cells (s.data.toList.map bv ++ sp).toArray 5 ((s.data.toList.map bv ++ sp).length, (s.data.toList.map bv ++ sp).length + 1)) = W := ⟨_, rfl⟩
    have S0 : Hid (OB w W1 s 0 sp) := by
      refine ⟨by rw [← hW1]; exact Chg.alloc ((Chg.refl _ _).drew) _, ?_⟩
      have hl : (s.data.toList.map bv ++ sp).length = s.size + sp.length := by simp
      rw [← hW1]
      unfold FB
      rw [← hl]
      show (w.drew.heap.push _)[w.heap.size]? = _
      exact Array.getElem?_push_size
    rw [hW1] at hcv
    clear hW1
    go_enter Try.func38, Try.ntmps38
    go_wp2
    clear hcv
    go_loopw [6] (fun z wr => ∃ i : Nat, i ≤ s.size ∧ z = .int .i64 (i : Int) ∧ OB w wr s i sp) (fun z _ => s.size + 1 - (intOf z).toNat)
    case atStart => exact ⟨0, by omega, rfl, unhide S0⟩
    case round =>
      clear S0
      obtain ⟨i, hi, rfl, A⟩ := hrel
      by_cases hlt : i < s.size
      · have g1 : (i : Int) < (s.size : Int) := by omega
        have i0 : (0 : Int) ≤ (i : Int) := by omega
        have wi : wrap64 ((i : Int) + 1) = (i : Int) + 1 := wrap_small (i + 1) (by omega)
        have hix := ow_idx s i hlt
        have hb := byt_lt s i
        have cB : wr.cell? ⟨w.heap.size, i, none⟩ = some (.int .u8 (byt s i : Int)) := by
          rw [A.b.cell i, List.getElem?_append_left (by rw [List.length_map, lowTo_len s i hi]; exact hlt), List.getElem?_map, lowTo_at s i hlt]
          show some (Value.int .u8 ((UInt8.ofNat (byt s i)).toNat : Int)) = _
          rw [UInt8.toNat_ofNat_of_lt' hb]
        have fB := A.b.frozen i (by omega)
        by_cases e1 : byt s i = 192
        · have x1 : ((byt s i : Int) == 192) = true := by rw [beq_iff_eq]; omega
          have fin : Hid (OW s 2 ⟨#[]⟩ true) := .inl ⟨rfl, (parse_badbyte s h40 i hlt (by omega)).symm, fun h => absurd h (by decide)⟩
          have qH := hide A.q
          clear A cB fB hi hlt hb e1
          generalize byt s i = b at *
          go_wp2
          go_ret3
          exact ⟨2, _, true, rfl, unhide qH, unhide fin⟩
        by_cases e2 : byt s i = 193
        · have x1 : ((byt s i : Int) == 192) = false := by rw [beq_eq_false_iff_ne]; omega
          have x2 : ((byt s i : Int) == 193) = true := by rw [beq_iff_eq]; omega
          have fin : Hid (OW s 2 ⟨#[]⟩ true) := .inl ⟨rfl, (parse_badbyte s h40 i hlt (by omega)).symm, fun h => absurd h (by decide)⟩
          have qH := hide A.q
          clear A cB fB hi hlt hb e1 e2
          generalize byt s i = b at *
          go_wp2
          go_ret3
          exact ⟨2, _, true, rfl, unhide qH, unhide fin⟩
        by_cases e3 : 245 ≤ byt s i
        · have x1 : ((byt s i : Int) == 192) = false := by rw [beq_eq_false_iff_ne]; omega
          have x2 : ((byt s i : Int) == 193) = false := by rw [beq_eq_false_iff_ne]; omega
          have x3 : (245 : Int) ≤ (byt s i : Int) := by omega
          have fin : Hid (OW s 2 ⟨#[]⟩ true) := .inl ⟨rfl, (parse_badbyte s h40 i hlt (by omega)).symm, fun h => absurd h (by decide)⟩
          have qH := hide A.q
          clear A cB fB hi hlt hb e1 e2 e3
          generalize byt s i = b at *
          go_wp2
          go_ret3
          exact ⟨2, _, true, rfl, unhide qH, unhide fin⟩
        have x1 : ((byt s i : Int) == 192) = false := by rw [beq_eq_false_iff_ne]; omega
        have x2 : ((byt s i : Int) == 193) = false := by rw [beq_eq_false_iff_ne]; omega
        have x3 : ¬ (245 : Int) ≤ (byt s i : Int) := by omega
        have hltH := hide hlt
        by_cases e4 : 65 ≤ byt s i ∧ byt s i ≤ 90
        · have x4 : (65 : Int) ≤ (byt s i : Int) := by omega
          have x5 : (byt s i : Int) ≤ 90 := by omega
          have w8 : IntKind.u8.wrap ((byt s i : Int) + 32) = (byt s i : Int) + 32 := u8_small _ (by omega) (by omega)
          have N1 : Hid (OB w (wr.setCell ⟨w.heap.size, i, none⟩ (.int .u8 ((byt s i : Int) + 32))) s (i + 1) sp) := by
            refine ⟨A.q.setCell (p := ⟨w.heap.size, i, none⟩) (.inr (Nat.le_refl _)) _, ?_⟩
            have h2 := A.b.set i (.int .u8 ((byt s i : Int) + 32))
            rw [List.set_append_left _ _ (by rw [List.length_map, lowTo_len s i hi]; exact hlt)] at h2
            have e5 : Value.int .u8 ((byt s i : Int) + 32) = bv (UInt8.ofNat (lowN (byt s i))) := by
              unfold bv
              rw [UInt8.toNat_ofNat_of_lt' (lowN_lt _ hb)]
              unfold lowN
              rw [if_pos e4]; rfl
            rw [e5, ← List.map_set, lowTo_next s i hlt] at h2
            rw [e5]; exact h2
          clear A hi hlt hb e1 e2 e3 e4
          generalize byt s i = b at *
          go_wp2
          go_roundw
          case rel => exact ⟨i + 1, unhide hltH, by simp; try exact wi, unhide N1⟩
          case measure =>
            have h := unhide hltH
            first
              | exact meas_list h
              | (rw [wi]; exact meas_list h)
        · have hlow : lowN (byt s i) = byt s i := by unfold lowN; rw [if_neg e4]
          have N1 : Hid (OB w wr s (i + 1) sp) := ⟨A.q, by rw [← lowTo_skip s i hlt hlow]; exact A.b⟩
          by_cases e5 : 65 ≤ byt s i
          · have x4 : (65 : Int) ≤ (byt s i : Int) := by omega
            have x5 : ¬ (byt s i : Int) ≤ 90 := by omega
            clear A hi hlt hb e1 e2 e3 e4 e5 hlow cB fB
            generalize byt s i = b at *
            go_wp2
            go_roundw
            case rel => exact ⟨i + 1, unhide hltH, by simp; try exact wi, unhide N1⟩
            case measure =>
              have h := unhide hltH
              first
                | exact meas_list h
                | (rw [wi]; exact meas_list h)
          · have x4 : ¬ (65 : Int) ≤ (byt s i : Int) := by omega
            clear A hi hlt hb e1 e2 e3 e4 e5 hlow cB fB
            generalize byt s i = b at *
            go_wp2
            go_roundw
            case rel => exact ⟨i + 1, unhide hltH, by simp; try exact wi, unhide N1⟩
            case measure =>
              have h := unhide hltH
              first
                | exact meas_list h
                | (rw [wi]; exact meas_list h)
      · have g1 : ¬ (i : Int) < (s.size : Int) := by omega
        obtain rfl : i = s.size := by omega
        have hA := A.b
        rw [lowTo_all] at hA
        have qH := hide A.q
        have hAH := hide hA
        have hcvb : Hid (∀ m, (convert 31 9 (.slice (some ⟨w.heap.size, 0, none⟩) s.size cap)).run Try.prog (wr.drewN m) = .ok (.string (str (low s))) (wr.drewN m)) := fun m =>
          run_str_of_cells (P := Try.prog) (wr.drewN m) 31 5 und31' Try.underlying5 w.heap.size 0 s.size cap (low s) (low_len s) (fun j hj => by
            rw [Nat.zero_add]
            show wr.cell? ⟨w.heap.size, j, none⟩ = _
            rw [hA.cell j, List.getElem?_append_left (by rw [List.length_map, low_len]; exact hj), List.getElem?_map]) 9 Try.underlying9
        clear A hA hi hlt
        have keyL : ∀ lastHigh : Bool, (0 < s.size ∧ 194 ≤ byt s (s.size - 1)) = (lastHigh = true) → True := fun _ _ => trivial
        clear keyL
        by_cases hlast : 0 < s.size ∧ 194 ≤ byt s (s.size - 1)
        · obtain ⟨h0, hl⟩ := hlast
          obtain ⟨m, hm⟩ : ∃ m, s.size = m + 1 := ⟨s.size - 1, by omega⟩
          have fin : Hid (OW s 2 ⟨#[]⟩ true) := .inl ⟨rfl, (parse_badlast s h40 h0 hl).symm, fun h => absurd h (by decide)⟩
          have hix := ow_idx s (s.size - 1) (by omega)
          rw [hm, Nat.add_sub_cancel] at hix hl
          have z1 : (0 : Int) < (s.size : Int) := by omega
          have z2 : decide ((0 : Int) < (s.size : Int)) = true := decide_eq_true z1
          have z3 : (s.size : Int) - 1 = (m : Int) := by omega
          have z4 : (194 : Int) ≤ (byt s m : Int) := by omega
          clear h0 hl hm
          generalize byt s m = lb at *
          go_wp2
          go_ret3
          exact ⟨2, _, true, rfl, unhide qH, unhide fin⟩
        · have stepon : ∀ z : Unit, True := fun _ => trivial
          clear stepon
          by_cases h0 : 0 < s.size
          · obtain ⟨m, hm⟩ : ∃ m, s.size = m + 1 := ⟨s.size - 1, by omega⟩
            have hix := ow_idx s (s.size - 1) (by omega)
            have hl : byt s (s.size - 1) < 194 := by
              rcases Nat.lt_or_ge (byt s (s.size - 1)) 194 with h | h
              · exact h
              · exact absurd ⟨h0, h⟩ hlast
            rw [hm, Nat.add_sub_cancel] at hix hl
            have z1 : (0 : Int) < (s.size : Int) := by omega
            have z3 : (s.size : Int) - 1 = (m : Int) := by omega
            have z4 : ¬ (194 : Int) ≤ (byt s m : Int) := by omega
            have hmH := hide hm
            clear hl hm hlast h0
            generalize byt s m = lb at *
            go_wp2
            clear hix z4
            go_loopw [7, 8, 9] (fun n e z wv => ∃ k : Nat, Went s k ∧ n = .int .i64 (k : Int) ∧ e = .int .i64 (psAt s k).e ∧ z = .int .i64 ((psAt s k).i : Int) ∧ wv = wr) (fun _ _ z _ => 41 - (intOf z).toNat)
            case atStart => exact ⟨0, fun j hj => absurd hj (by omega), rfl, rfl, rfl, rfl⟩
            case round =>
              obtain ⟨n, went, rfl, rfl, rfl, rfl⟩ := hrel
              obtain ⟨hki, his, _, _⟩ := went_law s n went
              by_cases hlt : (psAt s n).i < s.size
              · have g1 : ((psAt s n).i : Int) < (s.size : Int) := by omega
                have i0 : (0 : Int) ≤ ((psAt s n).i : Int) := by omega
                have hix := ow_idx s (psAt s n).i hlt
                have wn : wrap64 ((n : Int) + 1) = (n : Int) + 1 := wrap_small (n + 1) (by omega)
                have hb := byt_lt s (psAt s n).i
                by_cases hhi : 128 ≤ byt s (psAt s n).i
                · have x1 : (128 : Int) ≤ (byt s (psAt s n).i : Int) := by omega
                  have w3 : wrap64 (((psAt s n).i : Int) + 3) = ((psAt s n).i : Int) + 3 := wrap_small ((psAt s n).i + 3) (by omega)
                  by_cases hfit : (psAt s n).i + 3 ≤ s.size
                  · have x2 : ¬ (s.size : Int) < ((psAt s n).i : Int) + 3 := by omega
                    have x3 : ((psAt s n).i : Int) + 3 ≤ (s.size : Int) := by omega
                    have hsl : ∀ W, (Instr.slice 9 (.string s) (some (.int .i64 ((psAt s n).i : Int))) (some (.int .i64 (((psAt s n).i : Int) + 3))) none).run Try.prog W = .ok (.string (s.extract (psAt s n).i ((psAt s n).i + 3))) W := fun W => cut_slice s _ 3 hfit W
                    by_cases he : s.extract (psAt s n).i ((psAt s n).i + 3) = ⟨#[239, 191, 189]⟩
                    · have hd := dec_fffd s _ hfit he
                      obtain ⟨s1, s2⟩ := ps_step s n 65533 3 hd
                      rw [if_pos (by decide)] at s2
                      have went1 := hide (went.next hlt (by rw [hd]; decide))
                      have heH := hide s2
                      have hiH := hide s1
                      have hmH2 : Hid (41 - ((psAt s n).i + 3) < 41 - (psAt s n).i) := by show _ < _; omega
                      rw [he] at hsl
                      have wi2 : wrap64 (((psAt s n).i : Int) + 2) = ((psAt s n).i : Int) + 2 := wrap_small ((psAt s n).i + 2) (by omega)
                      have wi1 : wrap64 (((psAt s n).i : Int) + 2 + 1) = ((psAt s n).i : Int) + 3 := by rw [show ((psAt s n).i : Int) + 2 + 1 = ((psAt s n).i : Int) + 3 by omega]; exact w3
                      have ad : ((psAt s n).i : Int) + 2 + 1 = ((psAt s n).i : Int) + 3 := by omega
                      clear went hki his hlt hb hhi hfit hd s1 s2 he
                      generalize byt s (psAt s n).i = b at *
                      generalize (psAt s n).e = ee at *
                      generalize hii : (psAt s n).i = ii at *
                      clear hii
                      go_wp2
                      go_roundw
                      case rel => exact ⟨n + 1, unhide went1, by simp; try exact wn, by rw [unhide heH], by rw [unhide hiH]; simp; first | done | exact wi1 | exact ad | omega, by first | rfl | trivial⟩
                      case measure =>
                        have h := unhide hmH2
                        first
                          | exact meas41 h
                          | (rw [ad]; exact meas41 h)
                          | (rw [wi1]; exact meas41 h)
                    · have he' : ((s.extract (psAt s n).i ((psAt s n).i + 3)).toList == [239, 191, 189]) = false := by
                        have := toList_beq (s.extract (psAt s n).i ((psAt s n).i + 3)) ⟨#[239, 191, 189]⟩
                        rw [decide_eq_false he] at this
                        rw [← this]; congr 1
                        exact (ByteArray.toList_mk [239, 191, 189]).symm
                      have he2 : ¬ (s.extract (psAt s n).i ((psAt s n).i + 3)).toList = [239, 191, 189] := by simpa using he'
                      have fin : Hid (OW s 0 (str (low s)) false) := .inr ⟨rfl, rfl, rfl, h40⟩
                      have hcv := unhide hcvb
                      clear went hki his hlt hb hhi hfit he
                      generalize byt s (psAt s n).i = b at *
                      generalize (psAt s n).e = ee at *
                      generalize s.extract (psAt s n).i ((psAt s n).i + 3) = SL at *
                      generalize (psAt s n).i = ii at *
                      generalize str (low s) = TT at *
                      go_wp2
                      go_quiet (fail)
                      go_wp2
                      go_ret3
                      exact ⟨0, _, false, rfl, (unhide qH).drewN _, unhide fin⟩
                  · have x2 : (s.size : Int) < ((psAt s n).i : Int) + 3 := by omega
                    have fin : Hid (OW s 0 (str (low s)) false) := .inr ⟨rfl, rfl, rfl, h40⟩
                    have hcv := unhide hcvb
                    clear went hki his hlt hb hhi hfit
                    generalize byt s (psAt s n).i = b at *
                    generalize (psAt s n).e = ee at *
                    generalize (psAt s n).i = ii at *
                    generalize str (low s) = TT at *
                    go_wp2
                    go_quiet (fail)
                    go_wp2
                    go_ret3
                    exact ⟨0, _, false, rfl, (unhide qH).drewN _, unhide fin⟩
                · have x1 : ¬ (128 : Int) ≤ (byt s (psAt s n).i : Int) := by omega
                  have hd := dec_asc s _ (show byt s (psAt s n).i < 128 by omega)
                  obtain ⟨s1, s2⟩ := ps_step s n _ _ hd
                  rw [fold_low _ (by omega)] at s2
                  have went1 := hide (went.next hlt (by rw [hd]; simp))
                  have hiH := hide s1
                  have hmH2 : Hid (41 - ((psAt s n).i + 1) < 41 - (psAt s n).i) := by show _ < _; omega
                  have wi1 : wrap64 (((psAt s n).i : Int) + 1) = ((psAt s n).i : Int) + 1 := wrap_small ((psAt s n).i + 1) (by omega)
                  have hlo := lowN_lt _ hb
                  have cB : wr.cell? ⟨w.heap.size, (psAt s n).i, none⟩ = some (.int .u8 (lowN (byt s (psAt s n).i) : Int)) := by
                    rw [(unhide hAH).cell _, List.getElem?_append_left (by rw [List.length_map, low_len]; exact hlt), List.getElem?_map, low_at s _ hlt]
                    show some (Value.int .u8 ((UInt8.ofNat (lowN (byt s (psAt s n).i))).toNat : Int)) = _
                    rw [UInt8.toNat_ofNat_of_lt' hlo]
                  by_cases e97 : 97 ≤ lowN (byt s (psAt s n).i)
                  · have y1 : ¬ (lowN (byt s (psAt s n).i) : Int) < 97 := by omega
                    by_cases e122 : lowN (byt s (psAt s n).i) ≤ 122
                    · have y2 : ¬ (122 : Int) < (lowN (byt s (psAt s n).i) : Int) := by omega
                      rw [show (if 97 ≤ lowN (byt s (psAt s n).i) ∧ lowN (byt s (psAt s n).i) ≤ 122 then (lowN (byt s (psAt s n).i) : Int) else -1) = (lowN (byt s (psAt s n).i) : Int) from if_pos ⟨e97, e122⟩, if_neg (by omega)] at s2
                      have heH := hide s2
                      clear went hki his hlt hb hhi hd s1 s2 hlo e97 e122
                      generalize lowN (byt s (psAt s n).i) = lo at *
                      generalize byt s (psAt s n).i = b at *
                      generalize (psAt s n).e = ee at *
                      generalize hii : (psAt s n).i = ii at *
                      clear hii
                      go_wp2
                      go_roundw
                      case rel => exact ⟨n + 1, unhide went1, by simp; try exact wn, by rw [unhide heH], by rw [unhide hiH]; simp; try exact wi1, by first | rfl | trivial⟩
                      case measure =>
                        have h := unhide hmH2
                        first
                          | exact meas41 h
                          | (rw [wi1]; exact meas41 h)
                    · have y2 : (122 : Int) < (lowN (byt s (psAt s n).i) : Int) := by omega
                      rw [show (if 97 ≤ lowN (byt s (psAt s n).i) ∧ lowN (byt s (psAt s n).i) ≤ 122 then (lowN (byt s (psAt s n).i) : Int) else -1) = -1 from if_neg (fun h => e122 h.2), if_pos (by decide)] at s2
                      have heH := hide s2
                      clear went hki his hlt hb hhi hd s1 s2 hlo e97 e122
                      generalize lowN (byt s (psAt s n).i) = lo at *
                      generalize byt s (psAt s n).i = b at *
                      generalize (psAt s n).e = ee at *
                      generalize hii : (psAt s n).i = ii at *
                      clear hii
                      go_wp2
                      go_roundw
                      case rel => exact ⟨n + 1, unhide went1, by simp; try exact wn, by rw [unhide heH], by rw [unhide hiH]; simp; try exact wi1, by first | rfl | trivial⟩
                      case measure =>
                        have h := unhide hmH2
                        first
                          | exact meas41 h
                          | (rw [wi1]; exact meas41 h)
                  · have y1 : (lowN (byt s (psAt s n).i) : Int) < 97 := by omega
                    have e122 : True := trivial
                    rw [show (if 97 ≤ lowN (byt s (psAt s n).i) ∧ lowN (byt s (psAt s n).i) ≤ 122 then (lowN (byt s (psAt s n).i) : Int) else -1) = -1 from if_neg (fun h => e97 h.1), if_pos (by decide)] at s2
                    have heH := hide s2
                    clear went hki his hlt hb hhi hd s1 s2 hlo e97 e122
                    generalize lowN (byt s (psAt s n).i) = lo at *
                    generalize byt s (psAt s n).i = b at *
                    generalize (psAt s n).e = ee at *
                    generalize hii : (psAt s n).i = ii at *
                    clear hii
                    go_wp2
                    go_roundw
                    case rel => exact ⟨n + 1, unhide went1, by simp; try exact wn, by rw [unhide heH], by rw [unhide hiH]; simp; try exact wi1, by first | rfl | trivial⟩
                    case measure =>
                      have h := unhide hmH2
                      first
                        | exact meas41 h
                        | (rw [wi1]; exact meas41 h)
              · have g1 : ¬ ((psAt s n).i : Int) < (s.size : Int) := by omega
                obtain ⟨p1, p2, p3⟩ := parse_end s n h40 went hlt
                have hcv := unhide hcvb
                by_cases h5 : n = 5
                · have g5 : ((n : Int) != 5) = false := by subst h5; rfl
                  have fin : Hid (OW s (psAt s n).e (str (low s)) true) := by
                    refine .inl ⟨rfl, ?_, fun _ => rfl⟩
                    by_cases he : (psAt s n).e = 0
                    · rw [(p3 h5 he).1, he]
                    · rw [p2 h5 he]
                  clear went hki his hlt p1 p2 p3 h5
                  generalize (psAt s n).e = ee at *
                  generalize (psAt s n).i = ii at *
                  generalize str (low s) = TT at *
                  go_wp2
                  go_quiet (fail)
                  go_wp2
                  go_ret3
                  exact ⟨ee, _, true, rfl, (unhide qH).drewN _, unhide fin⟩
                · have g5 : ((n : Int) != 5) = true := by simp; omega
                  have fin : Hid (OW s 3 ⟨#[]⟩ true) := .inl ⟨rfl, by rw [p1 h5], fun h => absurd h (by decide)⟩
                  clear went hki his hlt p1 p2 p3 h5 hcv
                  generalize (psAt s n).e = ee at *
                  generalize (psAt s n).i = ii at *
                  go_wp2
                  go_ret3
                  exact ⟨3, _, true, rfl, unhide qH, unhide fin⟩
          · have z1 : ¬ (0 : Int) < (s.size : Int) := by omega
            clear hlast h0
            go_wp2
            go_loopw [7, 8, 9] (fun n e z wv => ∃ k : Nat, Went s k ∧ n = .int .i64 (k : Int) ∧ e = .int .i64 (psAt s k).e ∧ z = .int .i64 ((psAt s k).i : Int) ∧ wv = wr) (fun _ _ z _ => 41 - (intOf z).toNat)
            case atStart => exact ⟨0, fun j hj => absurd hj (by omega), rfl, rfl, rfl, rfl⟩
            case round =>
              obtain ⟨n, went, rfl, rfl, rfl, rfl⟩ := hrel
              obtain ⟨hki, his, _, _⟩ := went_law s n went
              by_cases hlt : (psAt s n).i < s.size
              · have g1 : ((psAt s n).i : Int) < (s.size : Int) := by omega
                have i0 : (0 : Int) ≤ ((psAt s n).i : Int) := by omega
                have hix := ow_idx s (psAt s n).i hlt
                have wn : wrap64 ((n : Int) + 1) = (n : Int) + 1 := wrap_small (n + 1) (by omega)
                have hb := byt_lt s (psAt s n).i
                by_cases hhi : 128 ≤ byt s (psAt s n).i
                · have x1 : (128 : Int) ≤ (byt s (psAt s n).i : Int) := by omega
                  have w3 : wrap64 (((psAt s n).i : Int) + 3) = ((psAt s n).i : Int) + 3 := wrap_small ((psAt s n).i + 3) (by omega)
                  by_cases hfit : (psAt s n).i + 3 ≤ s.size
                  · have x2 : ¬ (s.size : Int) < ((psAt s n).i : Int) + 3 := by omega
                    have x3 : ((psAt s n).i : Int) + 3 ≤ (s.size : Int) := by omega
                    have hsl : ∀ W, (Instr.slice 9 (.string s) (some (.int .i64 ((psAt s n).i : Int))) (some (.int .i64 (((psAt s n).i : Int) + 3))) none).run Try.prog W = .ok (.string (s.extract (psAt s n).i ((psAt s n).i + 3))) W := fun W => cut_slice s _ 3 hfit W
                    by_cases he : s.extract (psAt s n).i ((psAt s n).i + 3) = ⟨#[239, 191, 189]⟩
                    · have hd := dec_fffd s _ hfit he
                      obtain ⟨s1, s2⟩ := ps_step s n 65533 3 hd
                      rw [if_pos (by decide)] at s2
                      have went1 := hide (went.next hlt (by rw [hd]; decide))
                      have heH := hide s2
                      have hiH := hide s1
                      have hmH2 : Hid (41 - ((psAt s n).i + 3) < 41 - (psAt s n).i) := by show _ < _; omega
                      rw [he] at hsl
                      have wi2 : wrap64 (((psAt s n).i : Int) + 2) = ((psAt s n).i : Int) + 2 := wrap_small ((psAt s n).i + 2) (by omega)
                      have wi1 : wrap64 (((psAt s n).i : Int) + 2 + 1) = ((psAt s n).i : Int) + 3 := by rw [show ((psAt s n).i : Int) + 2 + 1 = ((psAt s n).i : Int) + 3 by omega]; exact w3
                      have ad : ((psAt s n).i : Int) + 2 + 1 = ((psAt s n).i : Int) + 3 := by omega
                      clear went hki his hlt hb hhi hfit hd s1 s2 he
                      generalize byt s (psAt s n).i = b at *
                      generalize (psAt s n).e = ee at *
                      generalize hii : (psAt s n).i = ii at *
                      clear hii
                      go_wp2
                      go_roundw
                      case rel => exact ⟨n + 1, unhide went1, by simp; try exact wn, by rw [unhide heH], by rw [unhide hiH]; simp; first | done | exact wi1 | exact ad | omega, by first | rfl | trivial⟩
                      case measure =>
                        have h := unhide hmH2
                        first
                          | exact meas41 h
                          | (rw [ad]; exact meas41 h)
                          | (rw [wi1]; exact meas41 h)
                    · have he' : ((s.extract (psAt s n).i ((psAt s n).i + 3)).toList == [239, 191, 189]) = false := by
                        have := toList_beq (s.extract (psAt s n).i ((psAt s n).i + 3)) ⟨#[239, 191, 189]⟩
                        rw [decide_eq_false he] at this
                        rw [← this]; congr 1
                        exact (ByteArray.toList_mk [239, 191, 189]).symm
                      have he2 : ¬ (s.extract (psAt s n).i ((psAt s n).i + 3)).toList = [239, 191, 189] := by simpa using he'
                      have fin : Hid (OW s 0 (str (low s)) false) := .inr ⟨rfl, rfl, rfl, h40⟩
                      have hcv := unhide hcvb
                      clear went hki his hlt hb hhi hfit he
                      generalize byt s (psAt s n).i = b at *
                      generalize (psAt s n).e = ee at *
                      generalize s.extract (psAt s n).i ((psAt s n).i + 3) = SL at *
                      generalize (psAt s n).i = ii at *
                      generalize str (low s) = TT at *
                      go_wp2
                      go_quiet (fail)
                      go_wp2
                      go_ret3
                      exact ⟨0, _, false, rfl, (unhide qH).drewN _, unhide fin⟩
                  · have x2 : (s.size : Int) < ((psAt s n).i : Int) + 3 := by omega
                    have fin : Hid (OW s 0 (str (low s)) false) := .inr ⟨rfl, rfl, rfl, h40⟩
                    have hcv := unhide hcvb
                    clear went hki his hlt hb hhi hfit
                    generalize byt s (psAt s n).i = b at *
                    generalize (psAt s n).e = ee at *
                    generalize (psAt s n).i = ii at *
                    generalize str (low s) = TT at *
                    go_wp2
                    go_quiet (fail)
                    go_wp2
                    go_ret3
                    exact ⟨0, _, false, rfl, (unhide qH).drewN _, unhide fin⟩
                · have x1 : ¬ (128 : Int) ≤ (byt s (psAt s n).i : Int) := by omega
                  have hd := dec_asc s _ (show byt s (psAt s n).i < 128 by omega)
                  obtain ⟨s1, s2⟩ := ps_step s n _ _ hd
                  rw [fold_low _ (by omega)] at s2
                  have went1 := hide (went.next hlt (by rw [hd]; simp))
                  have hiH := hide s1
                  have hmH2 : Hid (41 - ((psAt s n).i + 1) < 41 - (psAt s n).i) := by show _ < _; omega
                  have wi1 : wrap64 (((psAt s n).i : Int) + 1) = ((psAt s n).i : Int) + 1 := wrap_small ((psAt s n).i + 1) (by omega)
                  have hlo := lowN_lt _ hb
                  have cB : wr.cell? ⟨w.heap.size, (psAt s n).i, none⟩ = some (.int .u8 (lowN (byt s (psAt s n).i) : Int)) := by
                    rw [(unhide hAH).cell _, List.getElem?_append_left (by rw [List.length_map, low_len]; exact hlt), List.getElem?_map, low_at s _ hlt]
                    show some (Value.int .u8 ((UInt8.ofNat (lowN (byt s (psAt s n).i))).toNat : Int)) = _
                    rw [UInt8.toNat_ofNat_of_lt' hlo]
                  by_cases e97 : 97 ≤ lowN (byt s (psAt s n).i)
                  · have y1 : ¬ (lowN (byt s (psAt s n).i) : Int) < 97 := by omega
                    by_cases e122 : lowN (byt s (psAt s n).i) ≤ 122
                    · have y2 : ¬ (122 : Int) < (lowN (byt s (psAt s n).i) : Int) := by omega
                      rw [show (if 97 ≤ lowN (byt s (psAt s n).i) ∧ lowN (byt s (psAt s n).i) ≤ 122 then (lowN (byt s (psAt s n).i) : Int) else -1) = (lowN (byt s (psAt s n).i) : Int) from if_pos ⟨e97, e122⟩, if_neg (by omega)] at s2
                      have heH := hide s2
                      clear went hki his hlt hb hhi hd s1 s2 hlo e97 e122
                      generalize lowN (byt s (psAt s n).i) = lo at *
                      generalize byt s (psAt s n).i = b at *
                      generalize (psAt s n).e = ee at *
                      generalize hii : (psAt s n).i = ii at *
                      clear hii
                      go_wp2
                      go_roundw
                      case rel => exact ⟨n + 1, unhide went1, by simp; try exact wn, by rw [unhide heH], by rw [unhide hiH]; simp; try exact wi1, by first | rfl | trivial⟩
                      case measure =>
                        have h := unhide hmH2
                        first
                          | exact meas41 h
                          | (rw [wi1]; exact meas41 h)
                    · have y2 : (122 : Int) < (lowN (byt s (psAt s n).i) : Int) := by omega
                      rw [show (if 97 ≤ lowN (byt s (psAt s n).i) ∧ lowN (byt s (psAt s n).i) ≤ 122 then (lowN (byt s (psAt s n).i) : Int) else -1) = -1 from if_neg (fun h => e122 h.2), if_pos (by decide)] at s2
                      have heH := hide s2
                      clear went hki his hlt hb hhi hd s1 s2 hlo e97 e122
                      generalize lowN (byt s (psAt s n).i) = lo at *
                      generalize byt s (psAt s n).i = b at *
                      generalize (psAt s n).e = ee at *
                      generalize hii : (psAt s n).i = ii at *
                      clear hii
                      go_wp2
                      go_roundw
                      case rel => exact ⟨n + 1, unhide went1, by simp; try exact wn, by rw [unhide heH], by rw [unhide hiH]; simp; try exact wi1, by first | rfl | trivial⟩
                      case measure =>
                        have h := unhide hmH2
                        first
                          | exact meas41 h
                          | (rw [wi1]; exact meas41 h)
                  · have y1 : (lowN (byt s (psAt s n).i) : Int) < 97 := by omega
                    have e122 : True := trivial
                    rw [show (if 97 ≤ lowN (byt s (psAt s n).i) ∧ lowN (byt s (psAt s n).i) ≤ 122 then (lowN (byt s (psAt s n).i) : Int) else -1) = -1 from if_neg (fun h => e97 h.1), if_pos (by decide)] at s2
                    have heH := hide s2
                    clear went hki his hlt hb hhi hd s1 s2 hlo e97 e122
                    generalize lowN (byt s (psAt s n).i) = lo at *
                    generalize byt s (psAt s n).i = b at *
                    generalize (psAt s n).e = ee at *
                    generalize hii : (psAt s n).i = ii at *
                    clear hii
                    go_wp2
                    go_roundw
                    case rel => exact ⟨n + 1, unhide went1, by simp; try exact wn, by rw [unhide heH], by rw [unhide hiH]; simp; try exact wi1, by first | rfl | trivial⟩
                    case measure =>
                      have h := unhide hmH2
                      first
                        | exact meas41 h
                        | (rw [wi1]; exact meas41 h)
              · have g1 : ¬ ((psAt s n).i : Int) < (s.size : Int) := by omega
                obtain ⟨p1, p2, p3⟩ := parse_end s n h40 went hlt
                have hcv := unhide hcvb
                by_cases h5 : n = 5
                · have g5 : ((n : Int) != 5) = false := by subst h5; rfl
                  have fin : Hid (OW s (psAt s n).e (str (low s)) true) := by
                    refine .inl ⟨rfl, ?_, fun _ => rfl⟩
                    by_cases he : (psAt s n).e = 0
                    · rw [(p3 h5 he).1, he]
                    · rw [p2 h5 he]
                  clear went hki his hlt p1 p2 p3 h5
                  generalize (psAt s n).e = ee at *
                  generalize (psAt s n).i = ii at *
                  generalize str (low s) = TT at *
                  go_wp2
                  go_quiet (fail)
                  go_wp2
                  go_ret3
                  exact ⟨ee, _, true, rfl, (unhide qH).drewN _, unhide fin⟩
                · have g5 : ((n : Int) != 5) = true := by simp; omega
                  have fin : Hid (OW s 3 ⟨#[]⟩ true) := .inl ⟨rfl, by rw [p1 h5], fun h => absurd h (by decide)⟩
                  clear went hki his hlt p1 p2 p3 h5 hcv
                  generalize (psAt s n).e = ee at *
                  generalize (psAt s n).i = ii at *
                  go_wp2
                  go_ret3
                  exact ⟨3, _, true, rfl, unhide qH, unhide fin⟩
end Go.Proofs.Qxb6500370a
