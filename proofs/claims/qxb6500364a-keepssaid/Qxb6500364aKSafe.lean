/-
  THE WALK OF KeepsSafe. (gen64kk.py)
-/
import Derived.Test.Qxb6500364aKInner
import Derived.Test.Qxb6500364aRefine
import Derived.Deep.CutBlock
namespace Go.Proofs.Qxb6500364a
open Go.RowKit Go.Qx
set_option linter.unusedVariables false
set_option linter.unusedSimpArgs false

/-- What both loops hold. -/
def KI (safe : Bool) (w : World) (x g : Nat) (s : Value) (wr : World) : Prop :=
  ∃ (C : Nat → Nat → Int) (H : Nat → Nat → Nat → Int) (M F : Nat → Nat → Bool) (rd : Nat), s = .string (str (showP C H)) ∧ KB w wr x g C H C H M F rd ∧ Booked safe C H M F rd

set_option maxHeartbeats 40000000 in
set_option maxRecDepth 100000 in
theorem keep_true (w : World) (a : Option Addr) (len cap : Nat) (ops : List Opr) (ho : IsOps w a len cap ops) :
    Calls Try.prog 7 #[.slice a len cap, .bool true] w fun e w' => e = .returned (.int .i64 (-1)) ∧ Below w.heap.size w w' := by
  have hlen := ho.small
  have hnew := new_any w
  unfold newPost ptr at hnew
  go_enter Try.func7, Try.ntmps7
  go_wp2_with fail
  refine hnew.mono ?_
  clear hnew
  rintro e w1 ⟨x, r, n, rfl, q1, ho1, R1⟩
  have hgn := newG_any w1
  go_wp2_with fail
  refine hgn.mono ?_
  clear hgn
  rintro e w2 ⟨g, p, q, m, f, rfl, q2, ho2, G2⟩
  have hb2 : KB w w2 x g (fun _ _ => 0) (fun _ _ _ => 16) (fun _ _ => 0) (fun _ _ _ => 16) (fun _ _ => false) (fun _ _ => false) 0 := by
    have hz := q1.size
    refine ⟨(q1.trans q2).chg _, r, n, p, q, m, f, R1.quiet q2, G2, ?_, ?_⟩
    · intro k hk
      refine ⟨ho1 k hk, fun hg => ?_⟩
      have h1 := R1.lts k hk
      have h2 := ho2 k hg
      omega
    · intro k hk
      exact Nat.le_trans hz (ho2 k hk)
  clear q1 q2 R1 G2 ho1 ho2
  have hB2 : Hid (Booked true (fun _ _ => 0) (fun _ _ _ => 16) (fun _ _ => false) (fun _ _ => false) 0) := ⟨inv_first, fed_first, fun _ => (rnd_start inv_first).2, by omega⟩
  have cs := hide (kb_show hb2 inv_first)
  have hb2H := hide hb2
  clear hb2
  have hcd : Hid (∀ W, KB w W x g (fun _ _ => 0) (fun _ _ _ => 16) (fun _ _ => 0) (fun _ _ _ => 16) (fun _ _ => false) (fun _ _ => false) 0 → Calls Try.prog 12 #[.pointer (some ⟨g, 0, none⟩)] W fun e w' => e = .returned (.string (str (showP (fun _ _ => 0) (fun _ _ _ => 16)))) ∧ Quiet W w') := fun W h => kb_shown h inv_first
  generalize hS : str (showP (fun _ _ => 0) (fun _ _ _ => 16)) = S at *
  have hSH := hide hS
  clear hS
  have hSS : (S.toList == S.toList) = true := by simp
  go_wp2_with fail
  refine (unhide cs).mono ?_
  rintro e w3 ⟨rfl, q3⟩
  have hb3 := hide ((unhide hb2H).quiet q3)
  clear cs q3 hb2H
  have cd := hide (unhide hcd w3 (unhide hb3))
  go_wp2_with fail
  refine (unhide cd).mono ?_
  rintro e w4 ⟨rfl, q4⟩
  have hb4 := hide ((unhide hb3).quiet q4)
  clear cd q4 hb3 hcd
  go_wp2
  have st0 : Hid (KI true w x g (.string S) w4) := ⟨_, _, _, _, _, by rw [unhide hSH], unhide hb4, unhide hB2⟩
  clear hb4 hB2 hSH hSS
  go_loopw [7, 8] (fun s iv wr => ∃ i : Nat, i ≤ len ∧ iv = .int .i64 i ∧ KI true w x g s wr) (fun _ iv _ => len - (intOf iv).toNat)
  case atStart => exact ⟨0, Nat.zero_le _, rfl, unhide st0⟩
  case round =>
    obtain ⟨i, hi, rfl, C, H, M, F, rd, rfl, hb, hB⟩ := hrel
    clear st0
    have hbelH := hide hb.below
    have hki : Hid (KI true w x g (.string (str (showP C H))) wr) := ⟨C, H, M, F, rd, rfl, hb, hB⟩
    generalize str (showP C H) = S1 at *
    clear hb hB
    by_cases hlt : i < len
    · by_cases hmax : (i : Int) < 4398046511104
      · have hjo : i < ops.length := by rw [ho.count]; exact hlt
        obtain ⟨sb, so, rfl, hsb, hcells⟩ := ho.cells i hjo
        generalize ops[i] = o at *
        obtain ⟨ok, oa, ob, oc, os, ot⟩ := o
        simp only at hcells
        have i1 : (0 : Int) ≤ (i : Int) := by omega
        have i2 : (i : Int) < (len : Int) := by omega
        have g1 : decide (i < len) = true := by simpa using hlt
        have iH := hide (And.intro hlt hmax)
        have hcH := hide hcells
        clear hcells hbelH
        go_wp2
        clear g1 hmax hlt hi hjo
        go_loopw [7, 9] (fun s k w2 => ∃ j : Nat, j ≤ 25 ∧ k = .int .i64 j ∧ KI true w x g s w2) (fun _ k _ => 26 - (intOf k).toNat)
        case atStart => exact ⟨0, by omega, rfl, unhide hki⟩
        case round =>
          obtain ⟨j, hj, rfl, C, H, M, F, rd, rfl, hb, hB⟩ := hrel
          clear hki
          have hbel := hb.below
          obtain ⟨k0, k1, k2, k3, k4, k5⟩ := unhide hcH
          rw [← hbel.cell (p := ⟨sb, so + i * 6, none⟩) hsb] at k0
          rw [← hbel.cell (p := ⟨sb, so + i * 6 + 1, none⟩) hsb] at k1
          rw [← hbel.cell (p := ⟨sb, so + i * 6 + 2, none⟩) hsb] at k2
          rw [← hbel.cell (p := ⟨sb, so + i * 6 + 3, none⟩) hsb] at k3
          rw [← hbel.cell (p := ⟨sb, so + i * 6 + 4, none⟩) hsb] at k4
          rw [← hbel.cell (p := ⟨sb, so + i * 6 + 5, none⟩) hsb] at k5
          have hbelH := hide hbel
          have hbH := hide hb
          have hBH := hide hB
          clear hbel hb hB
          have hiH : Hid (i < len) := (unhide iH).1
          by_cases hj0 : j = 0
          · have c1 : ((j : Int) == 0) = true := by simp; omega
            have jH : Hid (j < 25) := by show j < 25; omega
            clear hj0
            go_upto_if 48 with fail
            clear c1
            go_upto_block 3 with fail
            go_step
            refine inner_true w wr x g sb so len cap i j C H M F rd ok oa ob oc os ot hbH hBH hj hiH k0 k1 k2 k3 k4 k5 _ _ _ _ _ _ _ _ _ _ _ _ _ _ _ _ _ _ _ _ _ _ _ _ _ _ _ _ _ _ _ _ _ _ _ _ _ _ _ _ _ _ _ _ _ _ _ _ _ _ _ _ _ _ _ _ _ _ _ _ _ _ _ _ _ _ _ _ _ _ _ _ _ _ _ _ _ _ _ _ _ _ _ _ _ _ _ _ _ _ _ _ _ _ _ _ _ _ _ _ _ _ _ _ _ _ _ _ _ _ _ _ _ _ _ _ _ _ _ _ _ _ _ _ _ _ _ _ _ _ _ _ _ _ _ _ _ ?_
            intro wx C2 H2 M2 F2 r2 y10 y11 y12 y13 y14 y15 y16 y51 y52 y53 y54 y55 y56 y57 y58 y59 y60 y61 y62 y63 y64 y65 y66 y67 y68 y69 y70 y71 y72 y73 y74 y75 y76 y77 y78 y79 y80 y81 y82 y83 y84 y85 y86 y87 y88 y89 y90 y91 y92 y93 y94 y95 y96 y97 y98 y99 y100 y101 y102 y103 y104 y105 y106 y107 y108 y109 y110 y111 y112 y113 y114 y115 y116 y117 y118 y119 y120 y121 y122 y123 y124 y125 y126 y127 y128 y129 y130 y131 y132 y133 y134 y135 y136 y137 y138 y139 y140 y141 y142 hb2 hB2
            have fin : Hid (KI true w x g (.string (str (showP C2 H2))) wx) := ⟨C2, H2, M2, F2, r2, rfl, hb2, hB2⟩
            clear hb2 hB2
            generalize str (showP C2 H2) = S3 at *
            go_wp2
            go_roundw
            case rel => exact ⟨j + 1, by have := unhide jH; omega, by go_num, unhide fin⟩
            case measure =>
              have := unhide jH
              simp [intOf]; omega
          · have c1 : ((j : Int) == 0) = false := by simp; omega
            by_cases h7 : ok = 7
            · have c2 : (ok == 7) = true := by simpa using h7
              by_cases h25 : j < 25
              · have c3 : (j : Int) < 25 := by omega
                have c4 : decide ((j : Int) < 25) = true := decide_eq_true c3
                have jH := hide h25
                clear hj0 h7 h25
                go_upto_if 48 with fail
                clear c1 c2 c3 c4
                go_upto_block 3 with fail
                go_step
                refine inner_true w wr x g sb so len cap i j C H M F rd ok oa ob oc os ot hbH hBH hj hiH k0 k1 k2 k3 k4 k5 _ _ _ _ _ _ _ _ _ _ _ _ _ _ _ _ _ _ _ _ _ _ _ _ _ _ _ _ _ _ _ _ _ _ _ _ _ _ _ _ _ _ _ _ _ _ _ _ _ _ _ _ _ _ _ _ _ _ _ _ _ _ _ _ _ _ _ _ _ _ _ _ _ _ _ _ _ _ _ _ _ _ _ _ _ _ _ _ _ _ _ _ _ _ _ _ _ _ _ _ _ _ _ _ _ _ _ _ _ _ _ _ _ _ _ _ _ _ _ _ _ _ _ _ _ _ _ _ _ _ _ _ _ _ _ _ _ ?_
                intro wx C2 H2 M2 F2 r2 y10 y11 y12 y13 y14 y15 y16 y51 y52 y53 y54 y55 y56 y57 y58 y59 y60 y61 y62 y63 y64 y65 y66 y67 y68 y69 y70 y71 y72 y73 y74 y75 y76 y77 y78 y79 y80 y81 y82 y83 y84 y85 y86 y87 y88 y89 y90 y91 y92 y93 y94 y95 y96 y97 y98 y99 y100 y101 y102 y103 y104 y105 y106 y107 y108 y109 y110 y111 y112 y113 y114 y115 y116 y117 y118 y119 y120 y121 y122 y123 y124 y125 y126 y127 y128 y129 y130 y131 y132 y133 y134 y135 y136 y137 y138 y139 y140 y141 y142 hb2 hB2
                have fin : Hid (KI true w x g (.string (str (showP C2 H2))) wx) := ⟨C2, H2, M2, F2, r2, rfl, hb2, hB2⟩
                clear hb2 hB2
                generalize str (showP C2 H2) = S3 at *
                go_wp2
                go_roundw
                case rel => exact ⟨j + 1, by have := unhide jH; omega, by go_num, unhide fin⟩
                case measure =>
                  have := unhide jH
                  simp [intOf]; omega
              · have c3 : ¬ (j : Int) < 25 := by omega
                have c4 : decide ((j : Int) < 25) = false := decide_eq_false c3
                have fin : Hid (KI true w x g (.string (str (showP C H))) wr) := ⟨C, H, M, F, rd, rfl, unhide hbH, unhide hBH⟩
                clear hj0 h7 h25
                generalize str (showP C H) = S2 at *
                go_wp2
                go_roundw
                case rel => exact ⟨i + 1, (unhide iH).1, by have := (unhide iH).2; go_num, unhide fin⟩
                case measure =>
                  have := (unhide iH).1
                  simp [intOf]; omega
            · have c2 : (ok == 7) = false := by simpa using h7
              have fin : Hid (KI true w x g (.string (str (showP C H))) wr) := ⟨C, H, M, F, rd, rfl, unhide hbH, unhide hBH⟩
              clear hj0 h7
              generalize str (showP C H) = S2 at *
              go_wp2
              go_roundw
              case rel => exact ⟨i + 1, (unhide iH).1, by have := (unhide iH).2; go_num, unhide fin⟩
              case measure =>
                have := (unhide iH).1
                simp [intOf]; omega
      · have g1 : decide (i < len) = true := by simpa using hlt
        have g2 : ¬ (i : Int) < 4398046511104 := hmax
        clear hmax hki
        go_wp2
        go_ret
        exact ⟨rfl, unhide hbelH⟩
    · have g1 : decide (i < len) = false := by simpa using hlt
      have g2 : ¬ (i : Int) < (len : Int) := by omega
      clear hki
      go_wp2
      go_ret
      exact ⟨rfl, unhide hbelH⟩

theorem keepsSafe_any (w : World) (a : Option Addr) (len cap : Nat) (ops : List Opr) (ho : IsOps w a len cap ops) :
    Calls Try.prog 4 #[.slice a len cap] w fun e w' => e = .returned (.bool true) ∧ Below w.heap.size w w' := by
  go_enter Try.func4, Try.ntmps4
  go_wp2_with fail
  refine (keep_true w a len cap ops ho).mono ?_
  rintro e w1 ⟨rfl, bel⟩
  go_wp2
  go_ret
  exact ⟨rfl, bel⟩
end Go.Proofs.Qxb6500364a
