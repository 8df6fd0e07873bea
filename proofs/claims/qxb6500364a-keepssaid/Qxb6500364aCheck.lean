/-
  THE REAL MESH: Check.
-/
import Derived.Test.Qxb6500364aSound
import Derived.Test.Qxb6500364aMesh
namespace Go.Proofs.Qxb6500364a
open Go.RowKit Go.Qx
set_option linter.unusedVariables false
set_option linter.unusedSimpArgs false

set_option maxRecDepth 100000 in
set_option maxHeartbeats 2000000 in
theorem check_any (w : World) (x r : Nat) (n : Nat → Nat) (C : Nat → Nat → Int) (H : Nat → Nat → Nat → Int) (R : Rep w x r n C H) (I : Inv C H) :
    Calls Try.prog 29 #[ptr x] w fun e w' => e = .returned (.bool true) ∧ Quiet w w' := by
  have c0 := R.blk.cell 0
  simp at c0
  have hrow : Hid (∀ W, Quiet w W → ∀ k, k < 5 → W.cell? ⟨r, k, none⟩ = some (.pointer (some ⟨n k, 0, none⟩))) := fun W q k hk => ((R.quiet q).row.cell k).trans (rowC_get n k hk)
  have hself : Hid (∀ W, Quiet w W → ∀ k, k < 5 → W.cell? ⟨n k, 0, none⟩ = some (.int .i64 k)) := fun W q k hk => cell_s ((R.quiet q).nd k hk)
  have hcost : Hid (∀ W, Quiet w W → ∀ a b, a < 5 → b < 5 → W.cell? ⟨n a, 1 + b, none⟩ = some (.int .i64 (C a b))) := fun W q a b ha hb => cell_c ((R.quiet q).nd a ha) b hb
  have hsnd : Hid (∀ W, Quiet w W → ∀ a b : Nat, a < 5 → b < 5 → Calls Try.prog 44 #[.pointer (some ⟨n a, 0, none⟩), .int .i64 b] W fun e w' => e = .returned (.bool true) ∧ Quiet W w') := fun W q a b ha hb => sound_any W (n a) a (C a) (H a) ((R.quiet q).nd a ha) (I.ok a ha) ha (I.diag a ha) b hb (fun e d hd => I.far a b d ha hb hd e)
  have hx : Hid (∀ W, Quiet w W → W.cell? ⟨x, 0, none⟩ = some (.slice (some ⟨r, 0, none⟩) 5 5)) := fun W q => Quiet.cell q c0
  have hsym := I.sym
  have hnil := fun (W : World) (p : Addr) => run_eql_nil_ptr (P := Try.prog) W 53 58 Try.underlying53 p
  clear R I
  have hsymH := hide hsym
  clear hsym
  unfold ptr
  go_enter Try.func29, Try.ntmps29
  go_wp2
  go_loopw [21] (fun i wr => ∃ k : Nat, k ≤ 5 ∧ i = .int .i64 k ∧ wr = w) (fun i _ => 6 - (intOf i).toNat)
  case atStart => exact ⟨0, by omega, rfl, rfl⟩
  case round =>
    obtain ⟨k, hk, rfl, rfl⟩ := hrel
    by_cases hlt : k < 5
    · have k0 : (0 : Int) ≤ (k : Int) := by omega
      have k1 : (k : Int) < 5 := by omega
      have d1 := unhide hrow wr (Chg.refl _ _) k hlt
      have d2 := unhide hself wr (Chg.refl _ _) k hlt
      go_wp2
      go_roundw
      case rel => first | exact ⟨k + 1, by omega, by go_num, rfl⟩ | exact ⟨k + 1, by omega, by go_num, trivial⟩ | exact ⟨k + 1, by omega, by go_num⟩
      case measure => simp [intOf]; omega
    · have k1 : ¬ (k : Int) < 5 := by omega
      clear hk hlt
      go_wp2
      clear k1
      go_loopw [42] (fun i w2 => ∃ a : Nat, a ≤ 5 ∧ i = .int .i64 a ∧ Quiet wr w2) (fun i _ => 6 - (intOf i).toNat)
      case atStart => exact ⟨0, by omega, rfl, Chg.refl _ _⟩
      case round =>
        obtain ⟨a, ha, rfl, q⟩ := hrel
        clear c0
        by_cases hlt : a < 5
        · have a0 : (0 : Int) ≤ (a : Int) := by omega
          have a1 : (a : Int) < 5 := by omega
          have d1 := unhide hrow _ q a hlt
          have d2 := unhide hx _ q
          have qH := hide q
          clear q
          go_wp2
          clear d1 d2
          go_loopw [52] (fun i w2 => ∃ b : Nat, b ≤ 5 ∧ i = .int .i64 b ∧ Quiet _ w2) (fun i _ => 6 - (intOf i).toNat)
          case atStart => exact ⟨0, by omega, rfl, unhide qH⟩
          case round =>
            obtain ⟨b, hb, rfl, q⟩ := hrel
            clear qH
            by_cases hltb : b < 5
            · have b0 : (0 : Int) ≤ (b : Int) := by omega
              have b1 : (b : Int) < 5 := by omega
              have d1 := unhide hrow _ q b hltb
              have hcall := hide (unhide hsnd _ q a b hlt hltb)
              have qH := hide q
              clear q
              go_wp2_with fail
              refine (unhide hcall).mono ?_
              rintro e w3 ⟨rfl, q3⟩
              have q4 := Quiet.trans (unhide qH) q3
              have e1 := unhide hcost _ q4 a b hlt hltb
              have e2 := unhide hcost _ q4 b a hltb hlt
              have hs := unhide hsymH a b hlt hltb
              rw [← hs] at e2
              have e3 : (C a b != C a b) = false := by simp
              have q4H := hide q4
              clear hcall qH q3 q4 d1 hs
              go_wp2
              go_big_quiet (fail)
              go_wp2
              go_roundw
              case rel => exact ⟨b + 1, by omega, by go_num, Chg.drewN (unhide q4H) _⟩
              case measure => simp [intOf]; omega
            · have b1 : ¬ (b : Int) < 5 := by omega
              have qH := hide q
              clear q
              go_wp2
              go_roundw
              case rel => exact ⟨a + 1, by omega, by go_num, unhide qH⟩
              case measure => simp [intOf]; omega
        · have a1 : ¬ (a : Int) < 5 := by omega
          go_wp2
          go_ret
          exact ⟨rfl, q⟩
end Go.Proofs.Qxb6500364a
