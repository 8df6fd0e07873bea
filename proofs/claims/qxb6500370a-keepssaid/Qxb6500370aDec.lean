/-
  THE MODEL: Dec. (gen70dec.py)
-/
import Derived.Test.Qxb6500370aDecL
import Derived.Laws.Cover4
import Derived.OwnWalk
import Derived.BigQuiet
namespace Go.Proofs.Qxb6500370a
open Go.RowKit Go.Qx
set_option linter.unusedVariables false
set_option linter.unusedSimpArgs false

theorem idx_byt (W : World) (s : ByteArray) (q : Nat) (h : q < s.size) : (Instr.index 9 (.string s) (.int .i64 (q : Int))).run Try.prog W = .ok (.int .u8 (byt s q : Int)) W := by
  rw [run_index_string W 9 s .i64 q Try.underlying9, dif_pos (by omega)]
  congr 2
  unfold byt
  have : s.get! q = s[q] := by
    show s.data[q]! = _
    exact getElem!_pos s.data q h
  rw [this]
  simp

def decV (s : ByteArray) (i : Nat) : Value := .tuple #[.int .i64 ((decP s i).1 : Int), .int .i64 ((decP s i).2 : Int)]
theorem head_lt (b : Nat) (h : b < 256) : headP b ≤ 191 := by unfold headP; (repeat' split) <;> omega
theorem acc_lt (s : ByteArray) (i : Nat) : accP s i 1 ≤ 191 ∧ accP s i 2 ≤ 12351 ∧ accP s i 3 ≤ 790591 ∧ accP s i 4 ≤ 50597951 := by
  have h1 := head_lt (byt s i) (byt_lt s i)
  have b1 := byt_lt s (i + 1)
  have b2 := byt_lt s (i + 2)
  have b3 := byt_lt s (i + 3)
  have e1 : accP s i 1 = headP (byt s i) := rfl
  have e2 : accP s i 2 = headP (byt s i) * 64 + (byt s (i + 1) - 128) := rfl
  have e3 : accP s i 3 = (headP (byt s i) * 64 + (byt s (i + 1) - 128)) * 64 + (byt s (i + 2) - 128) := rfl
  have e4 : accP s i 4 = ((headP (byt s i) * 64 + (byt s (i + 1) - 128)) * 64 + (byt s (i + 2) - 128)) * 64 + (byt s (i + 3) - 128) := rfl
  omega

theorem all_off (s : ByteArray) (i j : Nat) (h : allOn s i j = false) : ∀ n, j ≤ n → 1 ≤ j → allOn s i n = false := by
  intro n
  induction n with
  | zero => intro h1 h2; omega
  | succ n ih =>
    intro h1 h2
    by_cases e : j = n + 1
    · rw [← e]; exact h
    · obtain ⟨k, rfl⟩ : ∃ k, n = k + 1 := ⟨n - 1, by omega⟩
      show (allOn s i (k + 1) && _) = false
      rw [ih (by omega) h2]; rfl
theorem wr_ok (x : Int) (h : -1000 ≤ x) (h2 : x ≤ 1000000000) : wrap64 x = x := by unfold wrap64; omega
theorem xs_ok (A Y j : Nat) (hA : A ≤ 790591) (hY : Y ≤ 191) (hj : j ≤ 4) : wrap64 ((A : Int) * 64) = (A : Int) * 64 ∧ wrap64 ((A : Int) * 64 + (Y : Int)) = (A : Int) * 64 + (Y : Int) ∧ wrap64 ((A : Int) * 64 + (Y : Int) - 128) = (A : Int) * 64 + (Y : Int) - 128 ∧ wrap64 ((j : Int) + 1) = (j : Int) + 1 :=
  ⟨wr_ok _ (by omega) (by omega), wr_ok _ (by omega) (by omega), wr_ok _ (by omega) (by omega), wr_ok _ (by omega) (by omega)⟩

set_option maxHeartbeats 4000000 in
set_option maxRecDepth 100000 in
theorem dec_one (w : World) (s : ByteArray) (i : Nat) (hi : i < s.size) (hs : s.size ≤ 1000) (hb : byt s i < 128) : Calls Try.prog 56 #[.string s, .int .i64 (i : Int)] w fun e w' => e = .returned (.tuple #[.int .i64 (byt s i : Int), .int .i64 1]) ∧ w' = w := by
  have i0 : ¬ (i : Int) < 0 := by omega
  have i1 : ¬ (s.size : Int) ≤ (i : Int) := by omega
  have hx := fun W => idx_byt W s i hi
  have c1 : ¬ (240 : Int) ≤ (byt s i : Int) := by omega
  have c2 : ¬ (224 : Int) ≤ (byt s i : Int) := by omega
  have c3 : ¬ (192 : Int) ≤ (byt s i : Int) := by omega
  have c4 : ¬ (128 : Int) ≤ (byt s i : Int) := by omega
  have c5 : ¬ (byt s i : Int) < 0 := by omega
  have c6 : ¬ (1114111 : Int) < (byt s i : Int) := by omega
  have c7 : ¬ (55296 : Int) ≤ (byt s i : Int) := by omega
  have c8 : wrap64 (byt s i : Int) = (byt s i : Int) := by unfold wrap64; omega
  clear hb hi hs
  generalize (byt s i : Int) = B at *
  go_enter Try.func56, Try.ntmps56
  go_wp2
  go_loopw [9, 6] (fun k r wv => k = .int .i64 1 ∧ r = .int .i64 B ∧ wv = w) (fun k _ _ => 0)
  case atStart => exact ⟨rfl, rfl, rfl⟩
  case round =>
    obtain ⟨rfl, rfl, hwv⟩ := hrel
    subst hwv
    go_wp2
    go_ret2
    exact ⟨rfl, rfl⟩
theorem dec_none (w : World) (s : ByteArray) (i : Nat) (hi : i < s.size) (hs : s.size ≤ 1000) (hb : 128 ≤ byt s i) (hb2 : byt s i < 192) : Calls Try.prog 56 #[.string s, .int .i64 (i : Int)] w fun e w' => e = .returned (.tuple #[.int .i64 0, .int .i64 0]) ∧ w' = w := by
  have i0 : ¬ (i : Int) < 0 := by omega
  have i1 : ¬ (s.size : Int) ≤ (i : Int) := by omega
  have hx := fun W => idx_byt W s i hi
  have c1 : ¬ (240 : Int) ≤ (byt s i : Int) := by omega
  have c2 : ¬ (224 : Int) ≤ (byt s i : Int) := by omega
  have c3 : ¬ (192 : Int) ≤ (byt s i : Int) := by omega
  have c4 : (128 : Int) ≤ (byt s i : Int) := by omega
  have c8 : wrap64 (byt s i : Int) = (byt s i : Int) := by unfold wrap64; omega
  clear hb hb2 hi hs
  generalize (byt s i : Int) = B at *
  go_enter Try.func56, Try.ntmps56
  go_wp2
  go_ret2
  exact ⟨rfl, rfl⟩

set_option maxHeartbeats 4000000 in
set_option maxRecDepth 100000 in
theorem dec_2 (w : World) (s : ByteArray) (i : Nat) (hi : i < s.size) (hs : s.size ≤ 1000) (hb : 192 ≤ byt s i) (hb2 : byt s i < 224) : Calls Try.prog 56 #[.string s, .int .i64 (i : Int)] w fun e w' => e = .returned (decV s i) ∧ w' = w := by
  have hw : widP (byt s i) = 2 := by unfold widP; (repeat' split) <;> omega
  have hh : headP (byt s i) = byt s i - 192 := by unfold headP; (repeat' split) <;> omega
  have hlo : leastP (byt s i) = 128 := by unfold leastP; (repeat' split) <;> omega
  have blt := byt_lt s i
  have i0 : ¬ (i : Int) < 0 := by omega
  have i1 : ¬ (s.size : Int) ≤ (i : Int) := by omega
  have hx := fun W => idx_byt W s i hi
  have c1 : ¬ (240 : Int) ≤ (byt s i : Int) := by omega
  have c2 : ¬ (224 : Int) ≤ (byt s i : Int) := by omega
  have c3 : (192 : Int) ≤ (byt s i : Int) := by omega
  have c8 : wrap64 (byt s i : Int) = (byt s i : Int) := by unfold wrap64; omega
  have c9 : wrap64 ((byt s i : Int) - 192) = (accP s i 1 : Int) := by
    have e1 : accP s i 1 = headP (byt s i) := rfl
    rw [e1, hh]; unfold wrap64; omega
  have e9 : Hid ((byt s i : Int) - 192 = (accP s i 1 : Int)) := by
    show _ = _
    have e1 : accP s i 1 = headP (byt s i) := rfl
    rw [e1, hh]; omega
  have hno : Hid (allOn s i 2 = false → decV s i = .tuple #[.int .i64 0, .int .i64 0]) := fun h => by
    unfold decV decP
    rw [hw, if_neg (by decide), if_neg (by rw [h]; decide)]; rfl
  have hyes : Hid (allOn s i 2 = true → decV s i = if wellP (accP s i 2) 128 then .tuple #[.int .i64 (accP s i 2 : Int), .int .i64 2] else .tuple #[.int .i64 0, .int .i64 0]) := fun h => by
    unfold decV decP
    rw [hw, hlo, if_neg (by decide), if_pos h]
    split <;> rfl
  have accH := hide (acc_lt s i)
  have szH := hide (⟨hi, hs⟩ : _ ∧ _)
  clear hb hb2 hw hh hlo blt hi hs
  generalize (byt s i : Int) = B at *
  go_enter Try.func56, Try.ntmps56
  go_wp2
  clear hx c1 c2 c3 c8 c9
  go_loopw [9, 6] (fun k r wv => ∃ j : Nat, 1 ≤ j ∧ j ≤ 2 ∧ k = .int .i64 (j : Int) ∧ r = .int .i64 (accP s i j : Int) ∧ allOn s i j = true ∧ wv = w) (fun k _ _ => 6 - (intOf k).toNat)
  case atStart => exact ⟨1, by omega, by omega, rfl, by first | rfl | (rw [unhide e9]), rfl, rfl⟩
  case round =>
    obtain ⟨j, h1, h2, rfl, rfl, hon, hwv⟩ := hrel
    subst hwv
    by_cases hlt : j < 2
    · have k1 : (j : Int) < 2 := by omega
      obtain ⟨hi, hs⟩ := unhide szH
      obtain ⟨m, hmm⟩ : ∃ m, i + j = m := ⟨_, rfl⟩
      have wij : wrap64 ((i : Int) + (j : Int)) = (m : Int) := by unfold wrap64; omega
      have wij2 : (i : Int) + (j : Int) = (m : Int) := by omega
      by_cases hin : i + j < s.size
      · have k2 : ¬ (s.size : Int) ≤ (m : Int) := by omega
        have hx := fun W => idx_byt W s m (by omega)
        rw [← hmm] at hx
        have hc : goesOn s (i + j) = (decide (128 ≤ byt s (i + j)) && decide (byt s (i + j) ≤ 191)) := by
          unfold goesOn; rw [decide_eq_true hin, Bool.true_and]
        have es : allOn s i (j + 1) = (allOn s i j && goesOn s (i + j)) := by
          obtain ⟨k, rfl⟩ : ∃ k, j = k + 1 := ⟨j - 1, by omega⟩
          rfl
        have ea : accP s i (j + 1) = accP s i j * 64 + (byt s (i + j) - 128) := by
          obtain ⟨k, rfl⟩ : ∃ k, j = k + 1 := ⟨j - 1, by omega⟩
          rfl
        have hy : (byt s (i + j) : Int) = ((byt s (i + j) : Nat) : Int) := rfl
        by_cases hg : 128 ≤ byt s (i + j) ∧ byt s (i + j) ≤ 191
        · have k3 : ¬ (byt s (i + j) : Int) < 128 := by omega
          have k4 : ¬ (191 : Int) < (byt s (i + j) : Int) := by omega
          have hon2 : Hid (allOn s i (j + 1) = true) := by
            show _ = _
            rw [es, hon, hc, decide_eq_true hg.1, decide_eq_true hg.2]; rfl
          obtain ⟨a1, a2, a3, a4⟩ := unhide accH
          have ab : accP s i j ≤ 790591 := by
            rcases (by omega : j = 1 ∨ j = 2 ∨ j = 3) with rfl | rfl | rfl <;> omega
          obtain ⟨A, hA⟩ : ∃ A, accP s i j = A := ⟨_, rfl⟩
          obtain ⟨Y, hYe⟩ : ∃ Y, byt s (i + j) = Y := ⟨_, rfl⟩
          have fin : Hid ((A : Int) * 64 + (Y : Int) - 128 = (accP s i (j + 1) : Int)) := by
            show _ = _
            rw [ea, hA, hYe]; omega
          rw [hA] at ab ⊢
          rw [hYe] at k3 k4 hx
          have xH := hide (xs_ok A Y j ab (by rw [← hYe]; exact hg.2) (by omega))
          have jH := hide (⟨h1, hlt⟩ : _ ∧ _)
          have hx2 : ∀ W, (Instr.index 9 (.string s) (.int .i64 (m : Int))).run Try.prog W = .ok (.int .u8 (Y : Int)) W := fun W => by
            have := hx W
            rw [hmm] at this; exact this
          clear hi hs hin hc es ea hy hg a1 a2 a3 a4 ab hA hYe hon h1 h2 hlt hx hmm wij2
          go_wp2
          go_roundw
          case rel => exact ⟨j + 1, by omega, (unhide jH).2, by simp; try exact (unhide xH).2.2.2, by rw [← unhide fin]; try (first | rfl | rw [(unhide xH).2.1, (unhide xH).2.2.1] | rw [(unhide xH).1, (unhide xH).2.1, (unhide xH).2.2.1]), unhide hon2, by first | rfl | trivial⟩
          case measure =>
            obtain ⟨h1, h2⟩ := unhide jH
            first
              | (show 6 - ((j : Int) + 1).toNat < 6 - (j : Int).toNat; omega)
              | (rw [(unhide xH).2.2.2]; show 6 - ((j : Int) + 1).toNat < 6 - (j : Int).toNat; omega)
        · have hoff : Hid (allOn s i 2 = false) := all_off s i (j + 1) (by
            rw [es, hon, hc, Bool.true_and]
            rw [Bool.and_eq_false_iff]
            by_cases g1 : 128 ≤ byt s (i + j)
            · right; exact decide_eq_false (fun h => hg ⟨g1, h⟩)
            · left; exact decide_eq_false g1) 2 (by omega) (by omega)
          obtain ⟨Y, hYe⟩ : ∃ Y, byt s (i + j) = Y := ⟨_, rfl⟩
          rw [hYe] at hg hx
          have hx2 : ∀ W, (Instr.index 9 (.string s) (.int .i64 (m : Int))).run Try.prog W = .ok (.int .u8 (Y : Int)) W := fun W => by
            have := hx W
            rw [hmm] at this; exact this
          by_cases g1 : (Y : Int) < 128
          · clear hi hs hin hc es ea hy hg hYe hon h1 h2 hlt hx hmm wij2
            go_wp2
            go_ret2
            exact ⟨by rw [unhide hno (unhide hoff)]; first | done | rfl, rfl⟩
          · have g2 : (191 : Int) < (Y : Int) := by omega
            clear hi hs hin hc es ea hy hg hYe hon h1 h2 hlt hx hmm wij2
            go_wp2
            go_ret2
            exact ⟨by rw [unhide hno (unhide hoff)]; first | done | rfl, rfl⟩
      · have k2 : (s.size : Int) ≤ (m : Int) := by omega
        have hoff : Hid (allOn s i 2 = false) := all_off s i (j + 1) (by
          have es : allOn s i (j + 1) = (allOn s i j && goesOn s (i + j)) := by
            obtain ⟨k, rfl⟩ : ∃ k, j = k + 1 := ⟨j - 1, by omega⟩
            rfl
          rw [es]
          unfold goesOn
          rw [decide_eq_false hin]
          simp) 2 (by omega) (by omega)
        clear hi hs hin hon h1 h2 hlt hmm wij2
        go_wp2
        go_ret2
        exact ⟨by rw [unhide hno (unhide hoff)]; first | done | rfl, rfl⟩
    · obtain rfl : j = 2 := by omega
      have ans := hide (unhide hyes hon)
      obtain ⟨A, hA⟩ : ∃ A, accP s i 2 = A := ⟨_, rfl⟩
      rw [hA] at ans ⊢
      clear hlt h1 h2 hon hno hyes e9 accH i0 i1
      by_cases f1 : (A : Int) < 128
      · have fin : Hid (decV s i = .tuple #[.int .i64 0, .int .i64 0]) := by
          have := unhide ans
          rw [if_neg (by unfold wellP; rw [decide_eq_true (by omega : A < 128)]; simp)] at this
          exact this
        go_wp2
        go_ret2
        exact ⟨by rw [unhide fin]; first | done | rfl, rfl⟩
      · by_cases f2 : (1114111 : Int) < (A : Int)
        · have fin : Hid (decV s i = .tuple #[.int .i64 0, .int .i64 0]) := by
            have := unhide ans
            rw [if_neg (by unfold wellP; rw [decide_eq_true (by omega : 1114111 < A)]; simp)] at this
            exact this
          go_wp2
          go_ret2
          exact ⟨by rw [unhide fin]; first | done | rfl, rfl⟩
        · by_cases f3 : (55296 : Int) ≤ (A : Int)
          · by_cases f4 : (A : Int) ≤ 57343
            · have fin : Hid (decV s i = .tuple #[.int .i64 0, .int .i64 0]) := by
                have := unhide ans
                rw [if_neg (by unfold wellP; rw [decide_eq_true (by omega : 55296 ≤ A), decide_eq_true (by omega : A ≤ 57343)]; simp)] at this
                exact this
              go_wp2
              go_ret2
              exact ⟨by rw [unhide fin]; first | done | rfl, rfl⟩
            · have fin : Hid (decV s i = .tuple #[.int .i64 (A : Int), .int .i64 2]) := by
                have := unhide ans
                rw [if_pos (by unfold wellP; rw [decide_eq_false (by omega : ¬ A < 128), decide_eq_false (by omega : ¬ 1114111 < A), decide_eq_false (by omega : ¬ A ≤ 57343)]; simp)] at this
                exact this
              go_wp2
              go_ret2
              exact ⟨by rw [unhide fin]; first | done | rfl, rfl⟩
          · have fin : Hid (decV s i = .tuple #[.int .i64 (A : Int), .int .i64 2]) := by
              have := unhide ans
              rw [if_pos (by unfold wellP; rw [decide_eq_false (by omega : ¬ A < 128), decide_eq_false (by omega : ¬ 1114111 < A), decide_eq_false (by omega : ¬ 55296 ≤ A)]; simp)] at this
              exact this
            go_wp2
            go_ret2
            exact ⟨by rw [unhide fin]; first | done | rfl, rfl⟩

set_option maxHeartbeats 4000000 in
set_option maxRecDepth 100000 in
theorem dec_3 (w : World) (s : ByteArray) (i : Nat) (hi : i < s.size) (hs : s.size ≤ 1000) (hb : 224 ≤ byt s i) (hb2 : byt s i < 240) : Calls Try.prog 56 #[.string s, .int .i64 (i : Int)] w fun e w' => e = .returned (decV s i) ∧ w' = w := by
  have hw : widP (byt s i) = 3 := by unfold widP; (repeat' split) <;> omega
  have hh : headP (byt s i) = byt s i - 224 := by unfold headP; (repeat' split) <;> omega
  have hlo : leastP (byt s i) = 2048 := by unfold leastP; (repeat' split) <;> omega
  have blt := byt_lt s i
  have i0 : ¬ (i : Int) < 0 := by omega
  have i1 : ¬ (s.size : Int) ≤ (i : Int) := by omega
  have hx := fun W => idx_byt W s i hi
  have c1 : ¬ (240 : Int) ≤ (byt s i : Int) := by omega
  have c2 : (224 : Int) ≤ (byt s i : Int) := by omega
  have c8 : wrap64 (byt s i : Int) = (byt s i : Int) := by unfold wrap64; omega
  have c9 : wrap64 ((byt s i : Int) - 224) = (accP s i 1 : Int) := by
    have e1 : accP s i 1 = headP (byt s i) := rfl
    rw [e1, hh]; unfold wrap64; omega
  have e9 : Hid ((byt s i : Int) - 224 = (accP s i 1 : Int)) := by
    show _ = _
    have e1 : accP s i 1 = headP (byt s i) := rfl
    rw [e1, hh]; omega
  have hno : Hid (allOn s i 3 = false → decV s i = .tuple #[.int .i64 0, .int .i64 0]) := fun h => by
    unfold decV decP
    rw [hw, if_neg (by decide), if_neg (by rw [h]; decide)]; rfl
  have hyes : Hid (allOn s i 3 = true → decV s i = if wellP (accP s i 3) 2048 then .tuple #[.int .i64 (accP s i 3 : Int), .int .i64 3] else .tuple #[.int .i64 0, .int .i64 0]) := fun h => by
    unfold decV decP
    rw [hw, hlo, if_neg (by decide), if_pos h]
    split <;> rfl
  have accH := hide (acc_lt s i)
  have szH := hide (⟨hi, hs⟩ : _ ∧ _)
  clear hb hb2 hw hh hlo blt hi hs
  generalize (byt s i : Int) = B at *
  go_enter Try.func56, Try.ntmps56
  go_wp2
  clear hx c1 c2 c8 c9
  go_loopw [9, 6] (fun k r wv => ∃ j : Nat, 1 ≤ j ∧ j ≤ 3 ∧ k = .int .i64 (j : Int) ∧ r = .int .i64 (accP s i j : Int) ∧ allOn s i j = true ∧ wv = w) (fun k _ _ => 6 - (intOf k).toNat)
  case atStart => exact ⟨1, by omega, by omega, rfl, by first | rfl | (rw [unhide e9]), rfl, rfl⟩
  case round =>
    obtain ⟨j, h1, h2, rfl, rfl, hon, hwv⟩ := hrel
    subst hwv
    by_cases hlt : j < 3
    · have k1 : (j : Int) < 3 := by omega
      obtain ⟨hi, hs⟩ := unhide szH
      obtain ⟨m, hmm⟩ : ∃ m, i + j = m := ⟨_, rfl⟩
      have wij : wrap64 ((i : Int) + (j : Int)) = (m : Int) := by unfold wrap64; omega
      have wij2 : (i : Int) + (j : Int) = (m : Int) := by omega
      by_cases hin : i + j < s.size
      · have k2 : ¬ (s.size : Int) ≤ (m : Int) := by omega
        have hx := fun W => idx_byt W s m (by omega)
        rw [← hmm] at hx
        have hc : goesOn s (i + j) = (decide (128 ≤ byt s (i + j)) && decide (byt s (i + j) ≤ 191)) := by
          unfold goesOn; rw [decide_eq_true hin, Bool.true_and]
        have es : allOn s i (j + 1) = (allOn s i j && goesOn s (i + j)) := by
          obtain ⟨k, rfl⟩ : ∃ k, j = k + 1 := ⟨j - 1, by omega⟩
          rfl
        have ea : accP s i (j + 1) = accP s i j * 64 + (byt s (i + j) - 128) := by
          obtain ⟨k, rfl⟩ : ∃ k, j = k + 1 := ⟨j - 1, by omega⟩
          rfl
        have hy : (byt s (i + j) : Int) = ((byt s (i + j) : Nat) : Int) := rfl
        by_cases hg : 128 ≤ byt s (i + j) ∧ byt s (i + j) ≤ 191
        · have k3 : ¬ (byt s (i + j) : Int) < 128 := by omega
          have k4 : ¬ (191 : Int) < (byt s (i + j) : Int) := by omega
          have hon2 : Hid (allOn s i (j + 1) = true) := by
            show _ = _
            rw [es, hon, hc, decide_eq_true hg.1, decide_eq_true hg.2]; rfl
          obtain ⟨a1, a2, a3, a4⟩ := unhide accH
          have ab : accP s i j ≤ 790591 := by
            rcases (by omega : j = 1 ∨ j = 2 ∨ j = 3) with rfl | rfl | rfl <;> omega
          obtain ⟨A, hA⟩ : ∃ A, accP s i j = A := ⟨_, rfl⟩
          obtain ⟨Y, hYe⟩ : ∃ Y, byt s (i + j) = Y := ⟨_, rfl⟩
          have fin : Hid ((A : Int) * 64 + (Y : Int) - 128 = (accP s i (j + 1) : Int)) := by
            show _ = _
            rw [ea, hA, hYe]; omega
          rw [hA] at ab ⊢
          rw [hYe] at k3 k4 hx
          have xH := hide (xs_ok A Y j ab (by rw [← hYe]; exact hg.2) (by omega))
          have jH := hide (⟨h1, hlt⟩ : _ ∧ _)
          have hx2 : ∀ W, (Instr.index 9 (.string s) (.int .i64 (m : Int))).run Try.prog W = .ok (.int .u8 (Y : Int)) W := fun W => by
            have := hx W
            rw [hmm] at this; exact this
          clear hi hs hin hc es ea hy hg a1 a2 a3 a4 ab hA hYe hon h1 h2 hlt hx hmm wij2
          go_wp2
          go_roundw
          case rel => exact ⟨j + 1, by omega, (unhide jH).2, by simp; try exact (unhide xH).2.2.2, by rw [← unhide fin]; try (first | rfl | rw [(unhide xH).2.1, (unhide xH).2.2.1] | rw [(unhide xH).1, (unhide xH).2.1, (unhide xH).2.2.1]), unhide hon2, by first | rfl | trivial⟩
          case measure =>
            obtain ⟨h1, h2⟩ := unhide jH
            first
              | (show 6 - ((j : Int) + 1).toNat < 6 - (j : Int).toNat; omega)
              | (rw [(unhide xH).2.2.2]; show 6 - ((j : Int) + 1).toNat < 6 - (j : Int).toNat; omega)
        · have hoff : Hid (allOn s i 3 = false) := all_off s i (j + 1) (by
            rw [es, hon, hc, Bool.true_and]
            rw [Bool.and_eq_false_iff]
            by_cases g1 : 128 ≤ byt s (i + j)
            · right; exact decide_eq_false (fun h => hg ⟨g1, h⟩)
            · left; exact decide_eq_false g1) 3 (by omega) (by omega)
          obtain ⟨Y, hYe⟩ : ∃ Y, byt s (i + j) = Y := ⟨_, rfl⟩
          rw [hYe] at hg hx
          have hx2 : ∀ W, (Instr.index 9 (.string s) (.int .i64 (m : Int))).run Try.prog W = .ok (.int .u8 (Y : Int)) W := fun W => by
            have := hx W
            rw [hmm] at this; exact this
          by_cases g1 : (Y : Int) < 128
          · clear hi hs hin hc es ea hy hg hYe hon h1 h2 hlt hx hmm wij2
            go_wp2
            go_ret2
            exact ⟨by rw [unhide hno (unhide hoff)]; first | done | rfl, rfl⟩
          · have g2 : (191 : Int) < (Y : Int) := by omega
            clear hi hs hin hc es ea hy hg hYe hon h1 h2 hlt hx hmm wij2
            go_wp2
            go_ret2
            exact ⟨by rw [unhide hno (unhide hoff)]; first | done | rfl, rfl⟩
      · have k2 : (s.size : Int) ≤ (m : Int) := by omega
        have hoff : Hid (allOn s i 3 = false) := all_off s i (j + 1) (by
          have es : allOn s i (j + 1) = (allOn s i j && goesOn s (i + j)) := by
            obtain ⟨k, rfl⟩ : ∃ k, j = k + 1 := ⟨j - 1, by omega⟩
            rfl
          rw [es]
          unfold goesOn
          rw [decide_eq_false hin]
          simp) 3 (by omega) (by omega)
        clear hi hs hin hon h1 h2 hlt hmm wij2
        go_wp2
        go_ret2
        exact ⟨by rw [unhide hno (unhide hoff)]; first | done | rfl, rfl⟩
    · obtain rfl : j = 3 := by omega
      have ans := hide (unhide hyes hon)
      obtain ⟨A, hA⟩ : ∃ A, accP s i 3 = A := ⟨_, rfl⟩
      rw [hA] at ans ⊢
      clear hlt h1 h2 hon hno hyes e9 accH i0 i1
      by_cases f1 : (A : Int) < 2048
      · have fin : Hid (decV s i = .tuple #[.int .i64 0, .int .i64 0]) := by
          have := unhide ans
          rw [if_neg (by unfold wellP; rw [decide_eq_true (by omega : A < 2048)]; simp)] at this
          exact this
        go_wp2
        go_ret2
        exact ⟨by rw [unhide fin]; first | done | rfl, rfl⟩
      · by_cases f2 : (1114111 : Int) < (A : Int)
        · have fin : Hid (decV s i = .tuple #[.int .i64 0, .int .i64 0]) := by
            have := unhide ans
            rw [if_neg (by unfold wellP; rw [decide_eq_true (by omega : 1114111 < A)]; simp)] at this
            exact this
          go_wp2
          go_ret2
          exact ⟨by rw [unhide fin]; first | done | rfl, rfl⟩
        · by_cases f3 : (55296 : Int) ≤ (A : Int)
          · by_cases f4 : (A : Int) ≤ 57343
            · have fin : Hid (decV s i = .tuple #[.int .i64 0, .int .i64 0]) := by
                have := unhide ans
                rw [if_neg (by unfold wellP; rw [decide_eq_true (by omega : 55296 ≤ A), decide_eq_true (by omega : A ≤ 57343)]; simp)] at this
                exact this
              go_wp2
              go_ret2
              exact ⟨by rw [unhide fin]; first | done | rfl, rfl⟩
            · have fin : Hid (decV s i = .tuple #[.int .i64 (A : Int), .int .i64 3]) := by
                have := unhide ans
                rw [if_pos (by unfold wellP; rw [decide_eq_false (by omega : ¬ A < 2048), decide_eq_false (by omega : ¬ 1114111 < A), decide_eq_false (by omega : ¬ A ≤ 57343)]; simp)] at this
                exact this
              go_wp2
              go_ret2
              exact ⟨by rw [unhide fin]; first | done | rfl, rfl⟩
          · have fin : Hid (decV s i = .tuple #[.int .i64 (A : Int), .int .i64 3]) := by
              have := unhide ans
              rw [if_pos (by unfold wellP; rw [decide_eq_false (by omega : ¬ A < 2048), decide_eq_false (by omega : ¬ 1114111 < A), decide_eq_false (by omega : ¬ 55296 ≤ A)]; simp)] at this
              exact this
            go_wp2
            go_ret2
            exact ⟨by rw [unhide fin]; first | done | rfl, rfl⟩

set_option maxHeartbeats 4000000 in
set_option maxRecDepth 100000 in
theorem dec_4 (w : World) (s : ByteArray) (i : Nat) (hi : i < s.size) (hs : s.size ≤ 1000) (hb : 240 ≤ byt s i) : Calls Try.prog 56 #[.string s, .int .i64 (i : Int)] w fun e w' => e = .returned (decV s i) ∧ w' = w := by
  have hw : widP (byt s i) = 4 := by unfold widP; (repeat' split) <;> omega
  have hh : headP (byt s i) = byt s i - 240 := by unfold headP; (repeat' split) <;> omega
  have hlo : leastP (byt s i) = 65536 := by unfold leastP; (repeat' split) <;> omega
  have blt := byt_lt s i
  have i0 : ¬ (i : Int) < 0 := by omega
  have i1 : ¬ (s.size : Int) ≤ (i : Int) := by omega
  have hx := fun W => idx_byt W s i hi
  have c1 : (240 : Int) ≤ (byt s i : Int) := by omega
  have c8 : wrap64 (byt s i : Int) = (byt s i : Int) := by unfold wrap64; omega
  have c9 : wrap64 ((byt s i : Int) - 240) = (accP s i 1 : Int) := by
    have e1 : accP s i 1 = headP (byt s i) := rfl
    rw [e1, hh]; unfold wrap64; omega
  have e9 : Hid ((byt s i : Int) - 240 = (accP s i 1 : Int)) := by
    show _ = _
    have e1 : accP s i 1 = headP (byt s i) := rfl
    rw [e1, hh]; omega
  have hno : Hid (allOn s i 4 = false → decV s i = .tuple #[.int .i64 0, .int .i64 0]) := fun h => by
    unfold decV decP
    rw [hw, if_neg (by decide), if_neg (by rw [h]; decide)]; rfl
  have hyes : Hid (allOn s i 4 = true → decV s i = if wellP (accP s i 4) 65536 then .tuple #[.int .i64 (accP s i 4 : Int), .int .i64 4] else .tuple #[.int .i64 0, .int .i64 0]) := fun h => by
    unfold decV decP
    rw [hw, hlo, if_neg (by decide), if_pos h]
    split <;> rfl
  have accH := hide (acc_lt s i)
  have szH := hide (⟨hi, hs⟩ : _ ∧ _)
  clear hb hw hh hlo blt hi hs
  generalize (byt s i : Int) = B at *
  go_enter Try.func56, Try.ntmps56
  go_wp2
  clear hx c1 c8 c9
  go_loopw [9, 6] (fun k r wv => ∃ j : Nat, 1 ≤ j ∧ j ≤ 4 ∧ k = .int .i64 (j : Int) ∧ r = .int .i64 (accP s i j : Int) ∧ allOn s i j = true ∧ wv = w) (fun k _ _ => 6 - (intOf k).toNat)
  case atStart => exact ⟨1, by omega, by omega, rfl, by first | rfl | (rw [unhide e9]), rfl, rfl⟩
  case round =>
    obtain ⟨j, h1, h2, rfl, rfl, hon, hwv⟩ := hrel
    subst hwv
    by_cases hlt : j < 4
    · have k1 : (j : Int) < 4 := by omega
      obtain ⟨hi, hs⟩ := unhide szH
      obtain ⟨m, hmm⟩ : ∃ m, i + j = m := ⟨_, rfl⟩
      have wij : wrap64 ((i : Int) + (j : Int)) = (m : Int) := by unfold wrap64; omega
      have wij2 : (i : Int) + (j : Int) = (m : Int) := by omega
      by_cases hin : i + j < s.size
      · have k2 : ¬ (s.size : Int) ≤ (m : Int) := by omega
        have hx := fun W => idx_byt W s m (by omega)
        rw [← hmm] at hx
        have hc : goesOn s (i + j) = (decide (128 ≤ byt s (i + j)) && decide (byt s (i + j) ≤ 191)) := by
          unfold goesOn; rw [decide_eq_true hin, Bool.true_and]
        have es : allOn s i (j + 1) = (allOn s i j && goesOn s (i + j)) := by
          obtain ⟨k, rfl⟩ : ∃ k, j = k + 1 := ⟨j - 1, by omega⟩
          rfl
        have ea : accP s i (j + 1) = accP s i j * 64 + (byt s (i + j) - 128) := by
          obtain ⟨k, rfl⟩ : ∃ k, j = k + 1 := ⟨j - 1, by omega⟩
          rfl
        have hy : (byt s (i + j) : Int) = ((byt s (i + j) : Nat) : Int) := rfl
        by_cases hg : 128 ≤ byt s (i + j) ∧ byt s (i + j) ≤ 191
        · have k3 : ¬ (byt s (i + j) : Int) < 128 := by omega
          have k4 : ¬ (191 : Int) < (byt s (i + j) : Int) := by omega
          have hon2 : Hid (allOn s i (j + 1) = true) := by
            show _ = _
            rw [es, hon, hc, decide_eq_true hg.1, decide_eq_true hg.2]; rfl
          obtain ⟨a1, a2, a3, a4⟩ := unhide accH
          have ab : accP s i j ≤ 790591 := by
            rcases (by omega : j = 1 ∨ j = 2 ∨ j = 3) with rfl | rfl | rfl <;> omega
          obtain ⟨A, hA⟩ : ∃ A, accP s i j = A := ⟨_, rfl⟩
          obtain ⟨Y, hYe⟩ : ∃ Y, byt s (i + j) = Y := ⟨_, rfl⟩
          have fin : Hid ((A : Int) * 64 + (Y : Int) - 128 = (accP s i (j + 1) : Int)) := by
            show _ = _
            rw [ea, hA, hYe]; omega
          rw [hA] at ab ⊢
          rw [hYe] at k3 k4 hx
          have xH := hide (xs_ok A Y j ab (by rw [← hYe]; exact hg.2) (by omega))
          have jH := hide (⟨h1, hlt⟩ : _ ∧ _)
          have hx2 : ∀ W, (Instr.index 9 (.string s) (.int .i64 (m : Int))).run Try.prog W = .ok (.int .u8 (Y : Int)) W := fun W => by
            have := hx W
            rw [hmm] at this; exact this
          clear hi hs hin hc es ea hy hg a1 a2 a3 a4 ab hA hYe hon h1 h2 hlt hx hmm wij2
          go_wp2
          go_roundw
          case rel => exact ⟨j + 1, by omega, (unhide jH).2, by simp; try exact (unhide xH).2.2.2, by rw [← unhide fin]; try (first | rfl | rw [(unhide xH).2.1, (unhide xH).2.2.1] | rw [(unhide xH).1, (unhide xH).2.1, (unhide xH).2.2.1]), unhide hon2, by first | rfl | trivial⟩
          case measure =>
            obtain ⟨h1, h2⟩ := unhide jH
            first
              | (show 6 - ((j : Int) + 1).toNat < 6 - (j : Int).toNat; omega)
              | (rw [(unhide xH).2.2.2]; show 6 - ((j : Int) + 1).toNat < 6 - (j : Int).toNat; omega)
        · have hoff : Hid (allOn s i 4 = false) := all_off s i (j + 1) (by
            rw [es, hon, hc, Bool.true_and]
            rw [Bool.and_eq_false_iff]
            by_cases g1 : 128 ≤ byt s (i + j)
            · right; exact decide_eq_false (fun h => hg ⟨g1, h⟩)
            · left; exact decide_eq_false g1) 4 (by omega) (by omega)
          obtain ⟨Y, hYe⟩ : ∃ Y, byt s (i + j) = Y := ⟨_, rfl⟩
          rw [hYe] at hg hx
          have hx2 : ∀ W, (Instr.index 9 (.string s) (.int .i64 (m : Int))).run Try.prog W = .ok (.int .u8 (Y : Int)) W := fun W => by
            have := hx W
            rw [hmm] at this; exact this
          by_cases g1 : (Y : Int) < 128
          · clear hi hs hin hc es ea hy hg hYe hon h1 h2 hlt hx hmm wij2
            go_wp2
            go_ret2
            exact ⟨by rw [unhide hno (unhide hoff)]; first | done | rfl, rfl⟩
          · have g2 : (191 : Int) < (Y : Int) := by omega
            clear hi hs hin hc es ea hy hg hYe hon h1 h2 hlt hx hmm wij2
            go_wp2
            go_ret2
            exact ⟨by rw [unhide hno (unhide hoff)]; first | done | rfl, rfl⟩
      · have k2 : (s.size : Int) ≤ (m : Int) := by omega
        have hoff : Hid (allOn s i 4 = false) := all_off s i (j + 1) (by
          have es : allOn s i (j + 1) = (allOn s i j && goesOn s (i + j)) := by
            obtain ⟨k, rfl⟩ : ∃ k, j = k + 1 := ⟨j - 1, by omega⟩
            rfl
          rw [es]
          unfold goesOn
          rw [decide_eq_false hin]
          simp) 4 (by omega) (by omega)
        clear hi hs hin hon h1 h2 hlt hmm wij2
        go_wp2
        go_ret2
        exact ⟨by rw [unhide hno (unhide hoff)]; first | done | rfl, rfl⟩
    · obtain rfl : j = 4 := by omega
      have ans := hide (unhide hyes hon)
      obtain ⟨A, hA⟩ : ∃ A, accP s i 4 = A := ⟨_, rfl⟩
      rw [hA] at ans ⊢
      clear hlt h1 h2 hon hno hyes e9 accH i0 i1
      by_cases f1 : (A : Int) < 65536
      · have fin : Hid (decV s i = .tuple #[.int .i64 0, .int .i64 0]) := by
          have := unhide ans
          rw [if_neg (by unfold wellP; rw [decide_eq_true (by omega : A < 65536)]; simp)] at this
          exact this
        go_wp2
        go_ret2
        exact ⟨by rw [unhide fin]; first | done | rfl, rfl⟩
      · by_cases f2 : (1114111 : Int) < (A : Int)
        · have fin : Hid (decV s i = .tuple #[.int .i64 0, .int .i64 0]) := by
            have := unhide ans
            rw [if_neg (by unfold wellP; rw [decide_eq_true (by omega : 1114111 < A)]; simp)] at this
            exact this
          go_wp2
          go_ret2
          exact ⟨by rw [unhide fin]; first | done | rfl, rfl⟩
        · by_cases f3 : (55296 : Int) ≤ (A : Int)
          · by_cases f4 : (A : Int) ≤ 57343
            · have fin : Hid (decV s i = .tuple #[.int .i64 0, .int .i64 0]) := by
                have := unhide ans
                rw [if_neg (by unfold wellP; rw [decide_eq_true (by omega : 55296 ≤ A), decide_eq_true (by omega : A ≤ 57343)]; simp)] at this
                exact this
              go_wp2
              go_ret2
              exact ⟨by rw [unhide fin]; first | done | rfl, rfl⟩
            · have fin : Hid (decV s i = .tuple #[.int .i64 (A : Int), .int .i64 4]) := by
                have := unhide ans
                rw [if_pos (by unfold wellP; rw [decide_eq_false (by omega : ¬ A < 65536), decide_eq_false (by omega : ¬ 1114111 < A), decide_eq_false (by omega : ¬ A ≤ 57343)]; simp)] at this
                exact this
              go_wp2
              go_ret2
              exact ⟨by rw [unhide fin]; first | done | rfl, rfl⟩
          · have fin : Hid (decV s i = .tuple #[.int .i64 (A : Int), .int .i64 4]) := by
              have := unhide ans
              rw [if_pos (by unfold wellP; rw [decide_eq_false (by omega : ¬ A < 65536), decide_eq_false (by omega : ¬ 1114111 < A), decide_eq_false (by omega : ¬ 55296 ≤ A)]; simp)] at this
              exact this
            go_wp2
            go_ret2
            exact ⟨by rw [unhide fin]; first | done | rfl, rfl⟩

/-- The model's decoder at any place. -/
theorem dec_all (w : World) (s : ByteArray) (i : Nat) (hi : i < s.size) (hs : s.size ≤ 1000) : Calls Try.prog 56 #[.string s, .int .i64 (i : Int)] w fun e w' => e = .returned (decV s i) ∧ w' = w := by
  by_cases h1 : byt s i < 128
  · have : decV s i = .tuple #[.int .i64 (byt s i : Int), .int .i64 1] := by
      unfold decV; rw [decP_form]; unfold decG; rw [if_pos h1]; rfl
    rw [this]; exact dec_one w s i hi hs h1
  · by_cases h2 : byt s i < 192
    · have : decV s i = .tuple #[.int .i64 0, .int .i64 0] := by
        unfold decV; rw [decP_form]; unfold decG; rw [if_neg h1, if_pos h2]; rfl
      rw [this]; exact dec_none w s i hi hs (by omega) h2
    · by_cases h3 : byt s i < 224
      · exact dec_2 w s i hi hs (by omega) h3
      · by_cases h4 : byt s i < 240
        · exact dec_3 w s i hi hs (by omega) h4
        · exact dec_4 w s i hi hs (by omega)
end Go.Proofs.Qxb6500370a
