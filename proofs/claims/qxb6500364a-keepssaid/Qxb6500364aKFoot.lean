/-
  THE BOOK: Foot (W4).
-/
import Derived.Test.Qxb6500364aKWant
namespace Go.Proofs.Qxb6500364a
open Go.RowKit Go.Qx
set_option linter.unusedVariables false
set_option linter.unusedSimpArgs false

theorem pairs_at (C : Nat → Nat → Int) (H : Nat → Nat → Nat → Int) (k : Nat) (hk : k < 9) : ∀ n i, i < n → (pairsTo C H n)[i * 9 + k]? = (pairP C H (i / 5) (i % 5))[k]?
  | 0, i, h => by omega
  | n + 1, i, h => by
    rw [pairsTo]
    have hl := pairsTo_length C H n
    by_cases e : i = n
    · subst e
      rw [List.getElem?_append_right (by omega), hl, show i * 9 + k - 9 * i = k by omega]
    · rw [List.getElem?_append_left (by omega)]
      exact pairs_at C H k hk n i (by omega)
theorem show_size (C : Nat → Nat → Int) (H : Nat → Nat → Nat → Int) : (str (showP C H)).size = 225 := by rw [str_size, ← pairsTo_all, pairsTo_length]
theorem show_index (C : Nat → Nat → Int) (H : Nat → Nat → Nat → Int) (i k : Nat) (hi : i < 25) (hk : k < 9) (c : UInt8) (hc : (pairP C H (i / 5) (i % 5))[k]? = some c) (W : World) : (Instr.index 9 (.string (str (showP C H))) (.int .i64 ((i : Int) * 9 + k))).run Try.prog W = .ok (.int .u8 (c.toNat : Int)) W := by
  rw [run_index_string W 9 _ _ _ Try.underlying9, dif_pos ⟨by omega, by rw [show_size]; omega⟩]
  have h3 := pairs_at C H k hk 25 i hi
  rw [hc, pairsTo_all] at h3
  have e : (str (showP C H))[((i : Int) * 9 + k).toNat]'(by rw [show_size]; omega) = c := by
    have h4 : i * 9 + k < (showP C H).length := by rw [← pairsTo_all, pairsTo_length]; omega
    rw [List.getElem?_eq_getElem h4] at h3
    have h5 := Option.some.inj h3
    have h6 : ((i : Int) * 9 + k).toNat = i * 9 + k := by omega
    rw [← h5]
    simp only [h6]
    rfl
  rw [e]
theorem show_dist (C : Nat → Nat → Int) (H : Nat → Nat → Nat → Int) (I : Inv C H) (a b : Nat) (ha : a < 5) (hb : b < 5) (W : World) : (Instr.index 9 (.string (str (showP C H))) (.int .i64 (((a : Int) * 5 + b) * 9))).run Try.prog W = .ok (.int .u8 (48 + (bestP a (C a) (H a) b).1)) W := by
  have r1 : 0 ≤ (bestP a (C a) (H a) b).1 ∧ (bestP a (C a) (H a) b).1 ≤ 16 := ((I.ok a ha).best a ha b hb).1
  have h := show_index C H (a * 5 + b) 0 (by omega) (by omega) (gl (bestP a (C a) (H a) b).1) (by rw [show (a * 5 + b) / 5 = a by omega, show (a * 5 + b) % 5 = b by omega]; rfl) W
  rw [gl_toNat _ (by omega) r1.2] at h
  rw [← h]
  congr 3
theorem show_hop (C : Nat → Nat → Int) (H : Nat → Nat → Nat → Int) (I : Inv C H) (a b : Nat) (ha : a < 5) (hb : b < 5) (W : World) : (Instr.index 9 (.string (str (showP C H))) (.int .i64 (((a : Int) * 5 + b) * 9 + 1))).run Try.prog W = .ok (.int .u8 (48 + (bestP a (C a) (H a) b).2)) W := by
  have r1 : -1 ≤ (bestP a (C a) (H a) b).2 ∧ (bestP a (C a) (H a) b).2 ≤ 4 := ((I.ok a ha).best a ha b hb).2
  have h := show_index C H (a * 5 + b) 1 (by omega) (by omega) (gl (bestP a (C a) (H a) b).2) (by rw [show (a * 5 + b) / 5 = a by omega, show (a * 5 + b) % 5 = b by omega]; rfl) W
  rw [gl_toNat _ r1.1 (by omega)] at h
  rw [← h]
  congr 3

def anyTo (F : Nat → Bool) : Nat → Bool
  | 0 => false
  | k + 1 => anyTo F k || F k
theorem anyTo_false {F : Nat → Bool} : ∀ {k}, anyTo F k = false → ∀ b, b < k → F b = false
  | 0, _, b, hb => by omega
  | k + 1, h, b, hb => by
    rw [anyTo, Bool.or_eq_false_iff] at h
    by_cases e : b = k
    · rw [e]; exact h.2
    · exact anyTo_false h.1 b (by omega)

/-- W4, plainly. -/
def Feet (C : Nat → Nat → Int) (H : Nat → Nat → Nat → Int) (F : Nat → Nat → Bool) : Prop := ∀ a d, a < 5 → d < 5 → a ≠ d → (∀ b, b < 5 → F a b = false) → bestP a (C a) (H a) d = (16, -1)

set_option maxRecDepth 100000 in
set_option maxHeartbeats 2000000 in
theorem foot_any (w : World) (g p q m f : Nat) (C : Nat → Nat → Int) (H : Nat → Nat → Nat → Int) (M F : Nat → Nat → Bool) (r : Nat) (R : RepG w g p q m f C H M F r) (I : Inv C H) (Ft : Feet C H F) :
    Calls Try.prog 17 #[.pointer (some ⟨g, 0, none⟩), .string (str (showP C H))] w fun e w' => e = .returned (.bool true) ∧ w' = w := by
  have RH := hide R
  have IH := hide I
  have FH := hide Ft
  have hdist : Hid (∀ a b : Nat, a < 5 → b < 5 → ∀ W, (Instr.index 9 (.string (str (showP C H))) (.int .i64 (((a : Int) * 5 + b) * 9))).run Try.prog W = .ok (.int .u8 (48 + (bestP a (C a) (H a) b).1)) W) := fun a b ha hb => show_dist C H I a b ha hb
  have hhop : Hid (∀ a b : Nat, a < 5 → b < 5 → ∀ W, (Instr.index 9 (.string (str (showP C H))) (.int .i64 (((a : Int) * 5 + b) * 9 + 1))).run Try.prog W = .ok (.int .u8 (48 + (bestP a (C a) (H a) b).2)) W) := fun a b ha hb => show_hop C H I a b ha hb
  have c3 := R.cells.2.2.2.1
  have sz := show_size C H
  generalize str (showP C H) = S at *
  clear R I Ft
  go_enter Try.func17, Try.ntmps17
  go_wp2
  go_loopw [5] (fun k wr => ∃ i : Nat, i ≤ 25 ∧ k = .int .i64 i ∧ wr = w) (fun k _ => 26 - (intOf k).toNat)
  case atStart => exact ⟨0, by omega, rfl, rfl⟩
  case round =>
    obtain ⟨i, hi, rfl, rfl⟩ := hrel
    by_cases hlt : i < 25
    · have i0 : (0 : Int) ≤ (i : Int) := by omega
      have i1 : (i : Int) < 25 := by omega
      obtain ⟨a, b, ha, hb, rfl⟩ : ∃ a b, a < 5 ∧ b < 5 ∧ i = a * 5 + b := ⟨i / 5, i % 5, by omega, by omega, by omega⟩
      have t1 : (((a * 5 + b : Nat)) : Int).tdiv 5 = (a : Int) := by rw [Int.tdiv_eq_ediv_of_nonneg (by omega)]; omega
      have t2 : (((a * 5 + b : Nat)) : Int).tmod 5 = (b : Int) := by rw [Int.tmod_eq_emod_of_nonneg (by omega)]; omega
      have ecast : ((a * 5 + b : Nat) : Int) = (a : Int) * 5 + (b : Int) := by omega
      rw [ecast] at t1 t2 i0 i1
      rw [ecast]
      obtain ⟨D, hD⟩ : ∃ D : Bool, ((a : Int) == (b : Int)) = D := ⟨_, rfl⟩
      have a0 : (0 : Int) ≤ (a : Int) := by omega
      have a1 : (a : Int) < 5 := by omega
      have wa : IntKind.i64.wrap ((a : Int) * 5) = (a : Int) * 5 := by rw [IntKind.wrap_i64]; omega
      go_wp2
      go_loopw [6, 7] (fun fd k wr' => ∃ n : Nat, n ≤ 5 ∧ k = .int .i64 n ∧ fd = .bool (D || anyTo (F a) n) ∧ wr' = wr) (fun _ k _ => 6 - (intOf k).toNat)
      case atStart => exact ⟨0, by omega, rfl, by rw [anyTo, Bool.or_false], rfl⟩
      case round =>
        obtain ⟨n, hn, rfl, rfl, rfl⟩ := hrel
        by_cases hnl : n < 5
        · have n0 : (0 : Int) ≤ (n : Int) := by omega
          have n1 : (n : Int) < 5 := by omega
          have cf := (unhide RH).fd a n ha hnl
          have wb : IntKind.i64.wrap ((a : Int) * 5 + (n : Int)) = (a : Int) * 5 + (n : Int) := by rw [IntKind.wrap_i64]; omega
          have x1 : (0 : Int) ≤ (a : Int) * 5 + (n : Int) := by omega
          have x2 : (a : Int) * 5 + (n : Int) < 25 := by omega
          have tn : ((a : Int) * 5 + (n : Int)).toNat = a * 5 + n := by omega
          have hst : Hid ((D || anyTo (F a) (n + 1)) = ((D || anyTo (F a) n) || F a n)) := by show _ = _; rw [anyTo, Bool.or_assoc]
          generalize hQ : (D || anyTo (F a) n) = Q at *
          generalize F a n = Fn at *
          have hQH := hide hQ
          clear hQ
          cases Q
          · go_wp2
            go_roundw
            case rel => exact ⟨n + 1, by omega, by go_num, by rw [unhide hst]; rfl, by first | rfl | trivial⟩
            case measure => simp [intOf]; omega
          · go_wp2
            go_roundw
            case rel => exact ⟨n + 1, by omega, by go_num, by rw [unhide hst]; rfl, by first | rfl | trivial⟩
            case measure => simp [intOf]; omega
        · have n1 : ¬ (n : Int) < 5 := by omega
          obtain rfl : n = 5 := by omega
          have hd := unhide hdist a b ha hb
          have hh := unhide hhop a b ha hb
          have w9 : IntKind.i64.wrap (((a : Int) * 5 + (b : Int)) * 9) = ((a : Int) * 5 + (b : Int)) * 9 := by rw [IntKind.wrap_i64]; omega
          have w10 : IntKind.i64.wrap (((a : Int) * 5 + (b : Int)) * 9 + 1) = ((a : Int) * 5 + (b : Int)) * 9 + 1 := by rw [IntKind.wrap_i64]; omega
          have w11 : IntKind.i64.wrap ((a : Int) * 5 + (b : Int) + 1) = (a : Int) * 5 + (b : Int) + 1 := by rw [IntKind.wrap_i64]; omega
          cases hQ : (D || anyTo (F a) 5)
          · rw [Bool.or_eq_false_iff] at hQ
            have hab : a ≠ b := by
              intro e
              rw [← hD, e] at hQ
              simp at hQ
            have hbest := unhide FH a b ha hb hab (anyTo_false hQ.2)
            rw [hbest] at hd hh
            clear hQ hab hbest hD
            simp only at hd hh
            go_wp2
            go_roundw
            case rel => exact ⟨a * 5 + b + 1, by omega, by rw [← ecast]; rfl, by first | rfl | trivial⟩
            case measure => simp [intOf]; omega
          · clear hd hh hQ hD
            go_wp2
            go_roundw
            case rel => exact ⟨a * 5 + b + 1, by omega, by rw [← ecast]; rfl, by first | rfl | trivial⟩
            case measure => simp [intOf]; omega
    · have i1 : ¬ (i : Int) < 25 := by omega
      go_wp2
      go_ret
      exact ⟨rfl, rfl⟩
end Go.Proofs.Qxb6500364a
