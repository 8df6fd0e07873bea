/-
  367 Keeps: Slack.
-/
import Derived.Test.Qxb6500367aKGh
namespace Go.Proofs.Qxb6500367a
open Go.RowKit Go.Qx
set_option linter.unusedSimpArgs false
set_option linter.unusedVariables false

set_option maxHeartbeats 8000000 in
set_option maxRecDepth 100000 in
theorem slack_any (w : World) (g : Nat) (vX vW vG : Value) (n : Nat) (h4 : n ≤ 4) (X : List Value) (W : List M4) (S : Nat → Nd) (H : GR w g vX vW vG n X W S) (hW : W.length ≤ 36) (i : Int) (hs : ∀ j, W.countP (onLink i j) ≤ 3) :
    Calls Try.prog 46 #[ptr g, .int .i64 i] w fun e w' => e = .returned (.bool true) ∧ w' = w := by
  obtain ⟨ax, cx, rfl⟩ := H.rX.shape
  obtain ⟨aw, cw, rfl⟩ := H.rW.shape
  have c0 : w.cell? ⟨g, 0, none⟩ = some (.slice ax n cx) := H.blk.cell 0
  have c1 : w.cell? ⟨g, 1, none⟩ = some (.slice aw W.length cw) := H.blk.cell 1
  have hgl := H.blk.lt
  have HH := hide H
  have hsH := hide hs
  clear H hs
  generalize hN : W.length = N at *
  have hNH := hide hN
  clear hN
  unfold ptr
  go_enter Try.func46, Try.ntmps46
  go_wp2
  go_loopw [5] (fun c wr => ∃ j : Nat, j ≤ n ∧ c = .int .i64 j ∧ wr = w) (fun c _ => 5 - (intOf c).toNat)
  case atStart => exact ⟨0, Nat.zero_le _, rfl, rfl⟩
  case round =>
    obtain ⟨j, hj, rfl, rfl⟩ := hrel
    by_cases hlt : j < n
    · have i1 : (j : Int) < (n : Int) := by omega
      have wj : IntKind.i64.wrap ((j : Int) + 1) = (j : Int) + 1 := by rw [IntKind.wrap_i64]; omega
      go_wp2
      go_loopw [6, 7] (fun c x wr' => ∃ k : Nat, k ≤ N ∧ x = .int .i64 k ∧ c = .int .i64 ((W.take k).countP (onLink i (j : Int)) : Nat) ∧ wr' = wr) (fun _ x _ => 37 - (intOf x).toNat)
      case atStart => exact ⟨0, Nat.zero_le _, rfl, by simp, rfl⟩
      case round =>
        obtain ⟨k, hk, rfl, rfl, rfl⟩ := hrel
        have k0 : (0 : Int) ≤ (k : Int) := by omega
        by_cases hkl : k < N
        · have k1 : (k : Int) < (N : Int) := by omega
          have wk : IntKind.i64.wrap ((k : Int) + 1) = (k : Int) + 1 := by rw [IntKind.wrap_i64]; omega
          have hkW : k < W.length := by rw [unhide hNH]; exact hkl
          obtain ⟨m, hm⟩ : ∃ m, W[k]? = some m := ⟨_, List.getElem?_eq_getElem hkW⟩
          obtain ⟨wb, cw', hv, m0, m1, m2, m3⟩ := (unhide HH).post hm
          rw [unhide hNH] at hv
          injection hv with e1 e2 e3
          subst e1 e3
          have hst : (W.take (k + 1)).countP (onLink i (j : Int)) = (W.take k).countP (onLink i (j : Int)) + (if onLink i (j : Int) m then 1 else 0) := by
            rw [List.take_succ_eq_append_getElem hkW, List.countP_append]
            have : W[k] = m := (List.getElem?_eq_some_iff.1 hm).2
            rw [this, List.countP_singleton]
          have hstH := hide hst
          have hcb : (W.take k).countP (onLink i (j : Int)) ≤ 36 := Nat.le_trans (List.countP_le_length) (by rw [List.length_take]; omega)
          generalize (W.take k).countP (onLink i (j : Int)) = c at *
          have wc : IntKind.i64.wrap ((c : Int) + 1) = (c : Int) + 1 := by rw [IntKind.wrap_i64]; omega
          obtain ⟨mk, mf, mt, mc⟩ := m
          dsimp only at m0 m1 m2 m3
          clear hst hm hkW m0 m3
          by_cases hf : (mf : Int) = i
          · have b1 : ((mf : Int) == i) = true := by simpa using hf
            by_cases ht : (mt : Int) = (j : Int)
            · have b2 : ((mt : Int) == (j : Int)) = true := by simpa using ht
              have hnx : Hid ((W.take (k + 1)).countP (onLink i (j : Int)) = c + 1) := by
                show _ = _
                rw [unhide hstH, if_pos (by simp [onLink, hf, ht])]
              clear hstH hf ht
              go_wp2
              go_roundw
              case rel => first | exact ⟨k + 1, by omega, by go_num, by rw [unhide hnx]; push_cast; rfl, rfl⟩ | exact ⟨k + 1, by omega, by go_num, by rw [unhide hnx]; push_cast; rfl, trivial⟩ | exact ⟨k + 1, by omega, by go_num, by rw [unhide hnx]; push_cast; rfl⟩
              case measure => simp [intOf]; omega
            · have b2 : ((mt : Int) == (j : Int)) = false := by simpa using ht
              have hnx : Hid ((W.take (k + 1)).countP (onLink i (j : Int)) = c) := by
                show _ = _
                rw [unhide hstH, if_neg (by simp [onLink]; intro _; omega)]; rfl
              clear hstH hf ht
              go_wp2
              go_roundw
              case rel => first | exact ⟨k + 1, by omega, by go_num, by rw [unhide hnx], rfl⟩ | exact ⟨k + 1, by omega, by go_num, by rw [unhide hnx], trivial⟩ | exact ⟨k + 1, by omega, by go_num, by rw [unhide hnx]⟩
              case measure => simp [intOf]; omega
          · have b1 : ((mf : Int) == i) = false := by simpa using hf
            have hnx : Hid ((W.take (k + 1)).countP (onLink i (j : Int)) = c) := by
              show _ = _
              rw [unhide hstH, if_neg (by simp [onLink, hf])]; rfl
            clear hstH hf
            go_wp2
            go_roundw
            case rel => first | exact ⟨k + 1, by omega, by go_num, by rw [unhide hnx], rfl⟩ | exact ⟨k + 1, by omega, by go_num, by rw [unhide hnx], trivial⟩ | exact ⟨k + 1, by omega, by go_num, by rw [unhide hnx]⟩
            case measure => simp [intOf]; omega
        · have k1 : ¬ (k : Int) < (N : Int) := by omega
          have hc3 : (W.take k).countP (onLink i (j : Int)) ≤ 3 := by
            rw [List.take_of_length_le (by have := unhide hNH; omega)]
            exact unhide hsH (j : Int)
          generalize (W.take k).countP (onLink i (j : Int)) = c at *
          have c3 : ¬ (3 : Int) < (c : Int) := by omega
          go_wp2
          go_roundw
          case rel => first | exact ⟨j + 1, by omega, by go_num, rfl⟩ | exact ⟨j + 1, by omega, by go_num, trivial⟩ | exact ⟨j + 1, by omega, by go_num⟩
          case measure => simp [intOf]; omega
    · have i1 : ¬ (j : Int) < (n : Int) := by omega
      go_wp2
      go_ret
      exact ⟨rfl, rfl⟩
end Go.Proofs.Qxb6500367a
