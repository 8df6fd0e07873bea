/-
  KEEPS: text, log.
-/
import Derived.Test.Qxb6500368aKSchool
import Derived.Test.Qxb6500368aKRead
namespace Go.Proofs.Qxb6500368a
open Go.RowKit Go.Qx
set_option linter.unusedVariables false
set_option linter.unusedSimpArgs false

theorem regQ_any (w : World) {c : Nat → Int} {n : Nat → Nat} {wk : Nat} (I : Inv c n wk) (r : Nat) (hr : r < 3) :
    Calls Try.prog 28 #[.string (regS c n r)] w fun e w' => ∃ p, e = .returned (.tuple #[.slice (some ⟨p, 0, none⟩) (n r) (n r), .int .i64 0]) ∧ Quiet w w' ∧ w.heap.size ≤ p ∧ Blk w' p 3 (ints .i64 (fun i => c (16 * r + i)) (n r)) :=
  quadsP_any w _ (n r) (I.n r hr) (fun i hi => I.c _ (by have := I.n r hr; omega))

set_option maxRecDepth 100000 in
set_option maxHeartbeats 4000000 in
theorem text_any (w : World) (c : Nat → Int) (n : Nat → Nat) (wk : Nat) (I : Inv c n wk) : Calls Try.prog 29 #[.agg #[.string (regS c n 0), .string (regS c n 1), .string (regS c n 2), .int .i64 (wk : Int)]] w fun e w' => e = .returned (.string (str (showTo c n wk 3))) ∧ Quiet w w' := by
  have hwk := I.wk
  have hit := hide (fun W => itoa_any (wk : Int) W (by omega) (by omega))
  have hlen := hide (showTo_len c n wk I.n)
  have IH := hide I
  have TB : Hid (Blk (w.alloc (.cells #[.string (regS c n 0), .string (regS c n 1), .string (regS c n 2), .int .i64 (wk : Int)] 29)) w.heap.size 29 (imgC (regS c n) wk)) := Blk.new w 29 (imgC (regS c n) wk)
  have Q0 : Hid (Quiet w (w.alloc (.cells #[.string (regS c n 0), .string (regS c n 1), .string (regS c n 2), .int .i64 (wk : Int)] 29))) := (Chg.refl _ _).alloc _
  clear I hwk
  go_enter Try.func29, Try.ntmps29
  go_wp2_with fail
  refine (unhide hit _).mono ?_
  clear hit
  rintro e w1 ⟨rfl, q1⟩
  have q1H : Hid (Quiet w w1) := (unhide Q0).trans q1
  have TB1 := hide (q1.blk (unhide TB))
  clear q1 Q0 TB
  go_wp2
  go_loopw [3, 4] (fun s i wr => ∃ r : Nat, r ≤ 3 ∧ i = .int .i64 r ∧ s = .string (str (showTo c n wk r)) ∧ Quiet w wr ∧ Blk wr w.heap.size 29 (imgC (regS c n) wk)) (fun _ i _ => 3 + 1 - (intOf i).toNat)
  case atStart => exact ⟨0, by omega, rfl, rfl, unhide q1H, unhide TB1⟩
  case round =>
    clear q1H TB1
    obtain ⟨r, hr, rfl, rfl, q, TB⟩ := hrel
    by_cases hlt : r < 3
    · have g1 : (r : Int) < 3 := by omega
      have r0 : (0 : Int) ≤ (r : Int) := by omega
      have cr := TB.cell r
      rw [imgC_get _ _ r hlt] at cr
      have hq := hide (regQ_any wr (unhide IH) r hlt)
      have hl := unhide hlen r (by omega)
      have z1 : (str (showTo c n wk r)).size ≤ 2000 := by rw [str_size]; omega
      have hT : Hid (str (showTo c n wk r) ++ ⟨#[59]⟩ = str (showTo c n wk r ++ [59])) := by
        show _ = _
        rw [show (⟨#[59]⟩ : ByteArray) = str [59] from rfl, str_append]
      have hl2 : Hid ((showTo c n wk r ++ [59]).length ≤ 1200) := by show _ ≤ _; simp; omega
      have hsuc : Hid (showTo c n wk (r + 1) = rowTo c r (showTo c n wk r ++ [59]) (n r)) := rfl
      have hn := hide ((unhide IH).n r hlt)
      have hltH := hide hlt
      have qH := hide q
      have TBH := hide TB
      have wi : wrap64 ((r : Int) + 1) = (r : Int) + 1 := wrap_small (r + 1) (by omega)
      clear hl hlt hr q TB
      generalize showTo c n wk r ++ [59] = S0 at *
      generalize str (showTo c n wk r) = s1 at *
      generalize regS c n r = SR at *
      go_wp2_with fail
      refine (unhide hq).mono ?_
      clear hq cr
      rintro e w2 ⟨p, rfl, q2, hp, BX⟩
      have q2H : Hid (Quiet w w2) := (unhide qH).trans q2
      have TB2 := hide (q2.blk (unhide TBH))
      have BXH := hide BX
      clear q2 hp BX qH TBH
      go_wp2
      rw [unhide hT]
      clear hT z1
      go_loopw [3, 7] (fun s i wr => ∃ j : Nat, j ≤ n r ∧ i = .int .i64 j ∧ s = .string (str (rowTo c r S0 j)) ∧ Quiet w wr ∧ Blk wr w.heap.size 29 (imgC (regS c n) wk) ∧ Blk wr p 3 (ints .i64 (fun i => c (16 * r + i)) (n r))) (fun _ i _ => n r + 1 - (intOf i).toNat)
      case atStart => exact ⟨0, by omega, rfl, rfl, unhide q2H, unhide TB2, unhide BXH⟩
      case round =>
        clear q2H TB2 BXH
        obtain ⟨j, hj, rfl, rfl, q, TB, BX⟩ := hrel
        by_cases hlt : j < n r
        · have g2 : (j : Int) < (n r : Int) := by omega
          have j0 : (0 : Int) ≤ (j : Int) := by omega
          have hnr := unhide hn
          have hrl := unhide hltH
          have cc := BX.cell j
          rw [ints_get _ _ _ _ hlt] at cc
          have hb := (unhide IH).c (16 * r + j) (by omega)
          have hit := hide (itoa_any (c (16 * r + j)) wr (by omega) (by unfold pP at hb; omega))
          have hil := itoa_length (c (16 * r + j))
          have hsuc2 : Hid (str (rowTo c r S0 (j + 1)) = (str (rowTo c r S0 j) ++ ⟨#[32]⟩) ++ str (itoa (c (16 * r + j)))) := by
            show _ = _
            rw [show (⟨#[32]⟩ : ByteArray) = str [32] from rfl, rowTo]
            simp only [str_append, List.append_assoc]
          have hl := rowTo_len c r S0 j
          have hl2' := unhide hl2
          have z1 : (str (rowTo c r S0 j)).size ≤ 2000 := by rw [str_size]; omega
          have z2 : (str (itoa (c (16 * r + j)))).size ≤ 2000 := by rw [str_size]; omega
          have wi2 : wrap64 ((j : Int) + 1) = (j : Int) + 1 := wrap_small (j + 1) (by omega)
          have hjH := hide hlt
          have allH := hide (⟨q, TB, BX⟩ : _ ∧ _ ∧ _)
          clear hl hl2' hil hb hlt hj hrl hnr q TB BX
          generalize c (16 * r + j) = z at *
          generalize str (rowTo c r S0 j) = s1 at *
          generalize str (itoa z) = s2 at *
          go_wp2_with fail
          refine (unhide hit).mono ?_
          clear hit
          rintro e w3 ⟨rfl, q3⟩
          have fin : Hid (Quiet w w3 ∧ Blk w3 w.heap.size 29 (imgC (regS c n) wk) ∧ Blk w3 p 3 (ints .i64 (fun i => c (16 * r + i)) (n r))) := ⟨(unhide allH).1.trans q3, q3.blk (unhide allH).2.1, q3.blk (unhide allH).2.2⟩
          clear q3 allH cc
          go_wp2
          go_roundw
          case rel => exact ⟨j + 1, unhide hjH, by simp; try exact wi2, by rw [unhide hsuc2], (unhide fin).1, (unhide fin).2.1, (unhide fin).2.2⟩
          case measure =>
            have h := unhide hjH
            first
              | exact meas_plain h
              | exact meas_next h wi2
        · have g2 : ¬ (j : Int) < (n r : Int) := by omega
          have hjn : Hid (j = n r) := by show _ = _; omega
          have qH := hide q
          have TBH := hide TB
          clear hlt hj q TB BX
          go_wp2
          go_roundw
          case rel => exact ⟨r + 1, unhide hltH, by simp; try exact wi, by rw [unhide hsuc, ← unhide hjn], unhide qH, unhide TBH⟩
          case measure =>
            have h := unhide hltH
            first
              | exact meas_plain h
              | exact meas_next h wi
    · have g1 : ¬ (r : Int) < 3 := by omega
      obtain rfl : r = 3 := by omega
      have qH := hide q
      clear q TB
      go_wp2
      go_ret
      exact ⟨rfl, unhide qH⟩

theorem log_any (w : World) (m : Nat) (hm : m ≤ 16) : Calls Try.prog 40 #[.int .i64 m] w fun e w' => e = .returned (.int .i64 (log2P m)) ∧ w' = w := by
  rcases (by omega : m = 0 ∨ m = 1 ∨ m = 2 ∨ m = 3 ∨ m = 4 ∨ m = 5 ∨ m = 6 ∨ m = 7 ∨ m = 8 ∨ m = 9 ∨ m = 10 ∨ m = 11 ∨ m = 12 ∨ m = 13 ∨ m = 14 ∨ m = 15 ∨ m = 16) with rfl | rfl | rfl | rfl | rfl | rfl | rfl | rfl | rfl | rfl | rfl | rfl | rfl | rfl | rfl | rfl | rfl
  all_goals
    go_enter Try.func40, Try.ntmps40
    go_wp2
    go_ret
    exact ⟨rfl, rfl⟩
end Go.Proofs.Qxb6500368a
