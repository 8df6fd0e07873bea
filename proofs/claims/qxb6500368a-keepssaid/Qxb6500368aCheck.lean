/-
  THE REAL BENCH: Check.
-/
import Derived.Test.Qxb6500368aLoad
namespace Go.Proofs.Qxb6500368a
open Go.RowKit Go.Qx
set_option linter.unusedVariables false
set_option linter.unusedSimpArgs false

theorem root_facts (j : Nat) (h : j < 8) : 0 ≤ rootT j ∧ rootT j < 998244353 ∧ 0 ≤ irootT j ∧ irootT j < 998244353 ∧ (rootT j * irootT j).tmod 998244353 = 1 ∧ 0 ≤ rootT j * irootT j ∧ rootT j * irootT j < 18446744073709551616 := by
  rcases (by omega : j = 0 ∨ j = 1 ∨ j = 2 ∨ j = 3 ∨ j = 4 ∨ j = 5 ∨ j = 6 ∨ j = 7) with rfl | rfl | rfl | rfl | rfl | rfl | rfl | rfl <;> decide +kernel
theorem root_next (j : Nat) (h : j < 7) : (rootT j * 929031873).tmod 998244353 = rootT (j + 1) ∧ 0 ≤ rootT j * 929031873 ∧ rootT j * 929031873 < 18446744073709551616 := by
  rcases (by omega : j = 0 ∨ j = 1 ∨ j = 2 ∨ j = 3 ∨ j = 4 ∨ j = 5 ∨ j = 6) with rfl | rfl | rfl | rfl | rfl | rfl | rfl <;> decide +kernel
theorem root_four : (rootT 4 * rootT 4).tmod 998244353 = 998244352 ∧ 0 ≤ rootT 4 * rootT 4 ∧ rootT 4 * rootT 4 < 18446744073709551616 := by decide +kernel

set_option maxRecDepth 100000 in
set_option maxHeartbeats 4000000 in
theorem check_any (w : World) (x v : Nat) (c : Nat → Int) (n : Nat → Nat) (wk : Nat) (R : Rep w x v c n wk) (I : Inv c n wk) : Calls Try.prog 23 #[ptr x] w fun e w' => e = .returned (.bool true) ∧ Quiet w w' := by
  have RH := hide R
  have IH := hide I
  have c4 := R.own.cell (4 + 4)
  rw [tabC, bench_rt _ _ _ _ _ _ 4 (by decide)] at c4
  have c0 := R.hd
  have c25 := R.work
  have r0 := R.own.cell (4 + 0)
  rw [tabC, bench_rt _ _ _ _ _ _ 0 (by decide)] at r0
  have i0 := R.own.cell (12 + 0)
  rw [tabC, bench_it _ _ _ _ _ _ 0 (by decide)] at i0
  obtain ⟨f1, f2, f3⟩ := root_four
  have e0 : rootT 0 = 1 := rfl
  have e1 : irootT 0 = 1 := rfl
  rw [e0] at r0
  rw [e1] at i0
  have wz : IntKind.u64.wrap (rootT 4 * rootT 4) = rootT 4 * rootT 4 := by rw [IntKind.wrap_u64]; omega
  have k0 : (0 : Int) ≤ (wk : Int) := by omega
  clear R I e0 e1 f2 f3
  generalize rootT 4 = h4 at *
  unfold ptr
  go_enter Try.func23, Try.ntmps23
  go_wp2
  clear c4 c0 c25 r0 i0 f1 wz k0
  go_loopw [4, 50] (fun ok z wr => ∃ j : Nat, j ≤ 8 ∧ ok = .bool true ∧ z = .int .i64 j ∧ Quiet w wr) (fun _ z _ => 8 + 1 - (intOf z).toNat)
  case atStart => exact ⟨0, by omega, rfl, rfl, Chg.refl _ _⟩
  case round =>
    obtain ⟨j, hj, rfl, rfl, q⟩ := hrel
    by_cases hlt : j < 8
    · have g1 : (j : Int) < 8 := by omega
      have j0 : (0 : Int) ≤ (j : Int) := by omega
      have Rr := (unhide RH).quiet q
      have c1 := Rr.own.cell (4 + j)
      rw [tabC, bench_rt _ _ _ _ _ _ j hlt] at c1
      have c2 := Rr.own.cell (12 + j)
      rw [tabC, bench_it _ _ _ _ _ _ j hlt] at c2
      obtain ⟨f1, f2, f3, f4, f5, f6, f7⟩ := root_facts j hlt
      have wz : IntKind.u64.wrap (rootT j * irootT j) = rootT j * irootT j := by rw [IntKind.wrap_u64]; omega
      have wi : wrap64 ((j : Int) + 1) = (j : Int) + 1 := by unfold wrap64; omega
      have qH := hide q
      have hltH := hide hlt
      have RrH := hide Rr
      clear f6 f7 q Rr hlt hj
      by_cases hz : j = 0
      · subst hz
        generalize rootT 0 = a at *
        generalize irootT 0 = b at *
        go_wp2
        go_quiet (fail)
        go_wp2
        go_quiet (fail)
        clear c1 c2 f1 f2 f3 f4 f5 wz
        go_wp2
        go_roundw
        case rel => exact ⟨1, by omega, rfl, rfl, (unhide qH).drewN _⟩
        case measure => decide
      · obtain ⟨i, hi⟩ : ∃ i, j = i + 1 := ⟨j - 1, by omega⟩
        have ei : (j : Int) - 1 = (i : Int) := by omega
        have zj : ¬ (j : Int) = 0 := by omega
        have zjb : ((j : Int) == 0) = false := by simpa using zj
        have i0 : (0 : Int) ≤ (i : Int) := by omega
        have i8 : (i : Int) < 8 := by omega
        have hi8 : i < 8 := by have := unhide hltH; omega
        have c3 := (unhide RrH).own.cell (4 + i)
        rw [tabC, bench_rt _ _ _ _ _ _ i hi8] at c3
        obtain ⟨n1, n2, n3⟩ := root_next i (by have := unhide hltH; omega)
        rw [← hi] at n1
        have wn : IntKind.u64.wrap (rootT i * 929031873) = rootT i * 929031873 := by rw [IntKind.wrap_u64]; omega
        clear hi hz n2 n3 hi8
        generalize rootT j = a at *
        generalize irootT j = b at *
        generalize rootT i = d at *
        go_wp2
        go_quiet (fail)
        clear f3 f4 f5 wz
        go_wp2
        go_quiet (fail)
        clear c1 c2 c3 f1 f2 n1 wn
        go_wp2
        go_roundw
        case rel => exact ⟨j + 1, unhide hltH, rfl, by simp, (unhide qH).drewN _⟩
        case measure =>
          have h := unhide hltH
          show 8 + 1 - ((j : Int) + 1).toNat < 8 + 1 - (j : Int).toNat
          omega
    · have g1 : ¬ (j : Int) < 8 := by omega
      have qH := hide q
      clear hlt hj q
      go_wp2
      go_loopw [4, 113] (fun ok z wr => ∃ j : Nat, j ≤ 5 ∧ ok = .bool true ∧ z = .int .i64 j ∧ Quiet w wr) (fun _ z _ => 5 + 1 - (intOf z).toNat)
      case atStart => exact ⟨0, by omega, rfl, rfl, unhide qH⟩
      case round =>
        clear qH g1
        obtain ⟨j, hj, rfl, rfl, q⟩ := hrel
        by_cases hlt : j < 5
        · have Rr := (unhide RH).quiet q
          have c1 := Rr.own.cell (20 + j)
          rw [tabC, bench_nv _ _ _ _ _ _ j hlt] at c1
          have qH := hide q
          clear q Rr
          rcases (by omega : j = 0 ∨ j = 1 ∨ j = 2 ∨ j = 3 ∨ j = 4) with rfl | rfl | rfl | rfl | rfl
          · rw [show ninvT 0 = 1 from rfl] at c1
            go_wp2
            go_roundw
            case rel => exact ⟨1, by omega, rfl, rfl, unhide qH⟩
            case measure => decide
          · rw [show ninvT 1 = 499122177 by decide +kernel] at c1
            go_wp2
            go_roundw
            case rel => exact ⟨2, by omega, rfl, rfl, unhide qH⟩
            case measure => decide
          · rw [show ninvT 2 = 748683265 by decide +kernel] at c1
            go_wp2
            go_roundw
            case rel => exact ⟨3, by omega, rfl, rfl, unhide qH⟩
            case measure => decide
          · rw [show ninvT 3 = 873463809 by decide +kernel] at c1
            go_wp2
            go_roundw
            case rel => exact ⟨4, by omega, rfl, rfl, unhide qH⟩
            case measure => decide
          · rw [show ninvT 4 = 935854081 by decide +kernel] at c1
            go_wp2
            go_roundw
            case rel => exact ⟨5, by omega, rfl, rfl, unhide qH⟩
            case measure => decide
        · obtain rfl : j = 5 := by omega
          have qH := hide q
          clear hlt hj q
          go_wp2
          go_loopw [4, 139] (fun ok z wr => ∃ j : Nat, j ≤ 3 ∧ ok = .bool true ∧ z = .int .i64 j ∧ Quiet w wr) (fun _ z _ => 3 + 1 - (intOf z).toNat)
          case atStart => exact ⟨0, by omega, rfl, rfl, unhide qH⟩
          case round =>
            clear qH
            obtain ⟨r, hr, rfl, rfl, q⟩ := hrel
            by_cases hlt : r < 3
            · have g1 : (r : Int) < 3 := by omega
              have r0 : (0 : Int) ≤ (r : Int) := by omega
              have Rr := (unhide RH).quiet q
              have c1 := Rr.len r hlt
              have hn := (unhide IH).n r hlt
              have n0 : (0 : Int) ≤ (n r : Int) := by omega
              have n16 : (n r : Int) ≤ 16 := by omega
              have hnH := hide hn
              have hltH := hide hlt
              have qH := hide q
              clear hn hr hlt q Rr
              go_wp2
              go_loopw [4, 8] (fun ok z wr' => ∃ i : Nat, i ≤ n r ∧ ok = .bool true ∧ z = .int .i64 i ∧ wr' = wr) (fun _ z _ => n r + 1 - (intOf z).toNat)
              case atStart => exact ⟨0, by omega, rfl, rfl, rfl⟩
              case round =>
                obtain ⟨i, hi, rfl, rfl, hwr⟩ := hrel
                subst hwr
                by_cases hlt : i < n r
                · have g2 : (i : Int) < (n r : Int) := by omega
                  have Rr := (unhide RH).quiet (unhide qH)
                  have hn := unhide hnH
                  have hr3 := unhide hltH
                  have c0 := Rr.hd
                  have cc := Rr.at (16 * r + i) (by omega)
                  have hb := (unhide IH).c (16 * r + i) (by omega)
                  have ek : (r : Int) * 16 + (i : Int) = ((16 * r + i : Nat) : Int) := by omega
                  have q1 : ((16 * r + i : Nat) : Int) < 48 := by omega
                  have q0 : (0 : Int) ≤ ((16 * r + i : Nat) : Int) := by omega
                  have wi : wrap64 ((i : Int) + 1) = (i : Int) + 1 := by unfold wrap64; omega
                  obtain ⟨hb1, hb2⟩ := hb
                  unfold pP at hb2
                  generalize c (16 * r + i) = z at *
                  generalize 16 * r + i = p at *
                  have hiH := hide hlt
                  clear hlt hi Rr hn hr3
                  go_wp2
                  go_roundw
                  case rel => exact ⟨i + 1, unhide hiH, rfl, by simp, by trivial⟩
                  case measure =>
                    have h := unhide hiH
                    show n r + 1 - ((i : Int) + 1).toNat < n r + 1 - (i : Int).toNat
                    omega
                · have g2 : ¬ (i : Int) < (n r : Int) := by omega
                  clear hlt hi
                  go_wp2
                  go_roundw
                  case rel => exact ⟨r + 1, unhide hltH, rfl, by simp, unhide qH⟩
                  case measure =>
                    have h := unhide hltH
                    show 3 + 1 - ((r : Int) + 1).toNat < 3 + 1 - (r : Int).toNat
                    omega
            · obtain rfl : r = 3 := by omega
              have qH := hide q
              clear hlt hr q
              go_wp2
              go_ret
              exact ⟨rfl, unhide qH⟩
end Go.Proofs.Qxb6500368a
