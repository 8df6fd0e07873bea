/-
  THE ABSTRACT MESH: Check, New.
-/
import Derived.Test.Qxb6500364aRouteM
namespace Go.Proofs.Qxb6500364a
open Go.RowKit Go.Qx
set_option linter.unusedVariables false
set_option linter.unusedSimpArgs false

set_option maxRecDepth 100000 in
set_option maxHeartbeats 4000000 in
theorem mcheck_any (w : World) (m p q : Nat) (C : Nat → Nat → Int) (H : Nat → Nat → Nat → Int) (R : RepM w m p q C H) (I : Inv C H) :
    Calls Try.prog 37 #[ptr m] w fun e w' => e = .returned (.bool true) ∧ w' = w := by
  have c0 := R.blk.cell 0
  have c1 := R.blk.cell 1
  simp at c0 c1
  have RH := hide R
  have IH := hide I
  clear R I
  unfold ptr
  go_enter Try.func37, Try.ntmps37
  go_wp2
  go_loopw [3] (fun k wr => ∃ i : Nat, i ≤ 25 ∧ k = .int .i64 i ∧ wr = w) (fun k _ => 26 - (intOf k).toNat)
  case atStart => exact ⟨0, by omega, rfl, rfl⟩
  case round =>
    obtain ⟨i, hi, rfl, rfl⟩ := hrel
    by_cases hlt : i < 25
    · have i0 : (0 : Int) ≤ (i : Int) := by omega
      have i1 : (i : Int) < 25 := by omega
      obtain ⟨a, b, ha, hb, rfl⟩ : ∃ a b, a < 5 ∧ b < 5 ∧ i = a * 5 + b := ⟨i / 5, i % 5, by omega, by omega, by omega⟩
      have t1 : (((a * 5 + b : Nat)) : Int).tdiv 5 = (a : Int) := by rw [Int.tdiv_eq_ediv_of_nonneg (by omega)]; omega
      have t2 : (((a * 5 + b : Nat)) : Int).tmod 5 = (b : Int) := by rw [Int.tmod_eq_emod_of_nonneg (by omega)]; omega
      have ecast : ((a * 5 + b : Nat) : Int) = (a : Int) * 5 + (b : Int) := by omega
      rw [ecast] at t1 t2 i0 i1
      have cc : wr.cell? ⟨p, a * 5 + b, none⟩ = some (.int .i64 (C a b)) := ((unhide RH).cb.cell _).trans (grid_get iv C a b ha hb)
      have cc2 : wr.cell? ⟨p, b * 5 + a, none⟩ = some (.int .i64 (C a b)) := by
        rw [(unhide IH).sym a b ha hb]
        exact ((unhide RH).cb.cell _).trans (grid_get iv C b a hb ha)
      have ch : wr.cell? ⟨q, a * 5 + b, none⟩ = some (.string (ear (H a b))) := ((unhide RH).hb.cell _).trans (grid_get sv H a b ha hb)
      have es := ear_size (H a b)
      have hix : Hid (∀ d : Nat, d < 5 → (∀ W, (Instr.index 9 (.string (ear (H a b))) (.int .i64 d)).run Try.prog W = .ok (.int .u8 (48 + H a b d)) W) ∧ 0 ≤ H a b d ∧ H a b d ≤ 16) := fun d hd => ⟨ear_index (H a b) d hd ((unhide IH).h a b d ha hb hd).1 ((unhide IH).h a b d ha hb hd).2, (unhide IH).h a b d ha hb hd⟩
      obtain ⟨o1, o2⟩ := (unhide IH).c a b ha hb
      have hfar : C a b = 0 → ear (H a b) = ⟨#[64, 64, 64, 64, 64]⟩ := by
        intro h0
        have e : earTo (H a b) 5 = earTo (fun _ => 16) 5 := by
          have k := fun d hd => (unhide IH).far a b d ha hb hd h0
          simp only [earTo]
          rw [k 0 (by omega), k 1 (by omega), k 2 (by omega), k 3 (by omega), k 4 (by omega)]
        have h1 := far_sv
        unfold ear
        rw [e]
        unfold sv ear at h1
        exact (Value.string.inj h1).symm
      have hdiag : a = b → C a b = 0 := fun e => by subst e; exact (unhide IH).diag a ha
      have p1 : ¬ C a b < 0 := by omega
      have p2 : ¬ 16 < C a b := by omega
      have p3 : (C a b != C a b) = false := by simp
      generalize ear (H a b) = er at *
      generalize hcab : C a b = cab at *
      have ix1 : (0 : Int) ≤ (b : Int) * 5 + (a : Int) := by omega
      have ix2 : (b : Int) * 5 + (a : Int) < 25 := by omega
      have wr1 : IntKind.i64.wrap ((b : Int) * 5) = (b : Int) * 5 := by rw [IntKind.wrap_i64]; omega
      have wr2 : IntKind.i64.wrap ((b : Int) * 5 + (a : Int)) = (b : Int) * 5 + (a : Int) := by rw [IntKind.wrap_i64]; omega
      have tn : ((a : Int) * 5 + (b : Int)).toNat = a * 5 + b := by omega
      have tn2 : ((b : Int) * 5 + (a : Int)).toNat = b * 5 + a := by omega
      have facts : Hid (((cab == 0) = true ∧ (er.toList == [64, 64, 64, 64, 64]) = true ∧ (cab != 0) = false) ∨ ((cab == 0) = false ∧ ((a : Int) == (b : Int)) = false)) := by
        by_cases h0 : cab = 0
        · left
          refine ⟨by simp [h0], ?_, by simp [h0]⟩
          rw [hfar h0, show (⟨#[64, 64, 64, 64, 64]⟩ : ByteArray) = str [64, 64, 64, 64, 64] from rfl, str_toList]; simp
        · right
          refine ⟨by simpa using h0, ?_⟩
          have : ¬ a = b := fun e => h0 (hdiag e)
          simp; omega
      clear hfar hdiag hcab
      rw [ecast]
      rcases unhide facts with ⟨f1, f2, f3⟩ | ⟨f1, f2⟩
      case' inl =>
        have f4 : Hid (((a : Int) == (b : Int)) = true ∨ ((a : Int) == (b : Int)) = false) := by
          cases ((a : Int) == (b : Int)) <;> simp [Hid]
        rcases unhide f4 with f5 | f5
      all_goals
        clear facts
        try clear f4
        go_wp2
        go_loopw [5] (fun k w2 => ∃ d : Nat, d ≤ 5 ∧ k = .int .i64 d ∧ w2 = wr) (fun k _ => 6 - (intOf k).toNat)
        case atStart => exact ⟨0, by omega, rfl, rfl⟩
        case round =>
          obtain ⟨d, hd, rfl, hw2⟩ := hrel
          subst hw2
          by_cases hltd : d < 5
          · have d0 : (0 : Int) ≤ (d : Int) := by omega
            have d1 : (d : Int) < 5 := by omega
            obtain ⟨hx, h1, h2⟩ := unhide hix d hltd
            generalize H a b d = hv at *
            have k1 : ¬ 48 + hv < 48 := by omega
            have k2 : ¬ 64 < 48 + hv := by omega
            have k3 : ¬ hv < 0 := by omega
            go_wp2
            go_roundw
            case rel => first | exact ⟨d + 1, by omega, by go_num, rfl⟩ | exact ⟨d + 1, by omega, by go_num, trivial⟩ | exact ⟨d + 1, by omega, by go_num⟩
            case measure => simp [intOf]; omega
          · have d1 : ¬ (d : Int) < 5 := by omega
            go_wp2
            go_roundw
            case rel => first | exact ⟨a * 5 + b + 1, by omega, by go_num, rfl⟩ | exact ⟨a * 5 + b + 1, by omega, by go_num, trivial⟩ | exact ⟨a * 5 + b + 1, by omega, by go_num⟩
            case measure => simp [intOf]; omega
    · have i1 : ¬ (i : Int) < 25 := by omega
      go_wp2
      go_ret
      exact ⟨rfl, rfl⟩
end Go.Proofs.Qxb6500364a
