/-
  Show, both sides; the model's bench.
-/
import Derived.Test.Qxb6500368aLoad
namespace Go.Proofs.Qxb6500368a
open Go.RowKit Go.Qx
set_option linter.unusedVariables false
set_option linter.unusedSimpArgs false

def rowTo (c : Nat → Int) (r : Nat) (l : List UInt8) : Nat → List UInt8
  | 0 => l
  | i + 1 => rowTo c r l i ++ ([32] ++ itoa (c (16 * r + i)))
def showTo (c : Nat → Int) (n : Nat → Nat) (wk : Nat) : Nat → List UInt8
  | 0 => itoa wk
  | r + 1 => rowTo c r (showTo c n wk r ++ [59]) (n r)

theorem rowTo_len (c : Nat → Int) (r : Nat) (l : List UInt8) : ∀ i, (rowTo c r l i).length ≤ l.length + 21 * i
  | 0 => by simp [rowTo]
  | i + 1 => by
    have h1 := rowTo_len c r l i
    have h2 := itoa_length (c (16 * r + i))
    simp [rowTo]; omega
theorem showTo_len (c : Nat → Int) (n : Nat → Nat) (wk : Nat) (h : ∀ r, r < 3 → n r ≤ 16) : ∀ r, r ≤ 3 → (showTo c n wk r).length ≤ 20 + 337 * r
  | 0, _ => by have := itoa_length (wk : Int); simpa [showTo] using this
  | r + 1, hr => by
    have h1 := showTo_len c n wk h r (by omega)
    have h2 := rowTo_len c r (showTo c n wk r ++ [59]) (n r)
    have h3 := h r (by omega)
    simp [showTo] at h2 ⊢; omega

set_option maxRecDepth 100000 in
set_option maxHeartbeats 4000000 in
theorem show_any (w : World) (x v : Nat) (c : Nat → Int) (n : Nat → Nat) (wk : Nat) (R : Rep w x v c n wk) (I : Inv c n wk) : Calls Try.prog 22 #[ptr x] w fun e w' => e = .returned (.string (str (showTo c n wk 3))) ∧ Quiet w w' := by
  have c25 := R.work
  have hwk := I.wk
  have hit := hide (itoa_any (wk : Int) w (by omega) (by omega))
  have hlen := hide (showTo_len c n wk I.n)
  have RH := hide R
  have IH := hide I
  clear R I hwk
  unfold ptr
  go_enter Try.func22, Try.ntmps22
  go_wp2_with fail
  refine (unhide hit).mono ?_
  clear hit c25
  rintro e w1 ⟨rfl, q1⟩
  have q1H := hide q1
  clear q1
  go_wp2
  go_loopw [3, 12] (fun s i wr => ∃ r : Nat, r ≤ 3 ∧ i = .int .i64 r ∧ s = .string (str (showTo c n wk r)) ∧ Quiet w wr) (fun _ i _ => 3 + 1 - (intOf i).toNat)
  case atStart => exact ⟨0, by omega, rfl, rfl, unhide q1H⟩
  case round =>
    clear q1H
    obtain ⟨r, hr, rfl, rfl, q⟩ := hrel
    by_cases hlt : r < 3
    · have g1 : (r : Int) < 3 := by omega
      have hreg := hide (rreg_any wr x v c n wk ((unhide RH).quiet q) r hlt ((unhide IH).n r hlt))
      have hl := unhide hlen r (by omega)
      have z1 : (str (showTo c n wk r)).size ≤ 2000 := by rw [str_size]; omega
      have hT : Hid (str (showTo c n wk r) ++ ⟨#[59]⟩ = str (showTo c n wk r ++ [59])) := by
        show _ = _
        rw [show (⟨#[59]⟩ : ByteArray) = str [59] from rfl, str_append]
      have hl2 : Hid ((showTo c n wk r ++ [59]).length ≤ 1200) := by show _ ≤ _; simp; omega
      have hsuc : Hid (showTo c n wk (r + 1) = rowTo c r (showTo c n wk r ++ [59]) (n r)) := rfl
      have hn := hide ((unhide IH).n r hlt)
      have hltH := hide hlt
      have qH := hide q
      have wi : wrap64 ((r : Int) + 1) = (r : Int) + 1 := by unfold wrap64; omega
      clear hl hlt hr q
      unfold ptr at hreg
      generalize showTo c n wk r ++ [59] = S0 at *
      generalize str (showTo c n wk r) = s1 at *
      go_wp2_with fail
      refine (unhide hreg).mono ?_
      clear hreg
      rintro e w2 ⟨rfl, q2⟩
      have q2H : Hid (Quiet w w2) := (unhide qH).trans q2
      clear q2 qH
      rw [unhide hT]
      clear hT z1
      go_wp2
      go_loopw [3, 21] (fun s i wr => ∃ j : Nat, j ≤ n r ∧ i = .int .i64 j ∧ s = .string (str (rowTo c r S0 j)) ∧ Quiet w wr) (fun _ i _ => n r + 1 - (intOf i).toNat)
      case atStart => exact ⟨0, by omega, rfl, rfl, unhide q2H⟩
      case round =>
        clear q2H
        obtain ⟨j, hj, rfl, rfl, q⟩ := hrel
        by_cases hlt : j < n r
        · have g2 : (j : Int) < (n r : Int) := by omega
          have j0 : (0 : Int) ≤ (j : Int) := by omega
          have hrl := unhide hltH
          have hnr := unhide hn
          have cc := ((unhide RH).quiet q).at (16 * r + j) (by omega)
          have hb := (unhide IH).c (16 * r + j) (by omega)
          have wz : IntKind.i64.wrap (c (16 * r + j)) = c (16 * r + j) := by rw [IntKind.wrap_i64]; obtain ⟨h1, h2⟩ := hb; unfold pP at h2; omega
          have wz2 : wrap64 (c (16 * r + j)) = c (16 * r + j) := by unfold wrap64; obtain ⟨h1, h2⟩ := hb; unfold pP at h2; omega
          have hit := hide (itoa_any (c (16 * r + j)) wr (by omega) (by unfold pP at hb; omega))
          have hil := itoa_length (c (16 * r + j))
          have hsuc2 : Hid (str (rowTo c r S0 (j + 1)) = str (rowTo c r S0 j) ++ (⟨#[32]⟩ ++ str (itoa (c (16 * r + j))))) := by
            show _ = _
            rw [show (⟨#[32]⟩ : ByteArray) = str [32] from rfl, rowTo]
            simp only [str_append, List.append_assoc]
          have hl := rowTo_len c r S0 j
          have hl2' := unhide hl2
          have z1 : (str (rowTo c r S0 j)).size ≤ 2000 := by rw [str_size]; omega
          have z2 : (str (itoa (c (16 * r + j)))).size ≤ 2000 := by rw [str_size]; omega
          have wi2 : wrap64 ((j : Int) + 1) = (j : Int) + 1 := by unfold wrap64; omega
          have hjH := hide hlt
          have qH := hide q
          clear hl hl2' hil hb hlt hj hrl hnr q
          generalize c (16 * r + j) = z at *
          generalize str (rowTo c r S0 j) = s1 at *
          generalize str (itoa z) = s2 at *
          go_wp2_with fail
          refine (unhide hit).mono ?_
          clear hit
          rintro e w3 ⟨rfl, q3⟩
          have q3H : Hid (Quiet w w3) := (unhide qH).trans q3
          clear q3 qH cc
          go_wp2
          go_roundw
          case rel => exact ⟨j + 1, unhide hjH, by simp; exact wi2, by rw [unhide hsuc2], unhide q3H⟩
          case measure =>
            have h := unhide hjH
            show n r + 1 - (intOf (.int .i64 (wrap64 ((j : Int) + 1)))).toNat < n r + 1 - (intOf (.int .i64 (j : Int))).toNat
            exact meas_next h wi2
        · have g2 : ¬ (j : Int) < (n r : Int) := by omega
          have hjn : Hid (j = n r) := by show _ = _; omega
          have qH := hide q
          clear hlt hj q
          go_wp2
          go_roundw
          case rel => exact ⟨r + 1, unhide hltH, by simp, by rw [unhide hsuc, ← unhide hjn], unhide qH⟩
          case measure =>
            have h := unhide hltH
            show 3 + 1 - ((r : Int) + 1).toNat < 3 + 1 - (r : Int).toNat
            omega
    · have g1 : ¬ (r : Int) < 3 := by omega
      obtain rfl : r = 3 := by omega
      have qH := hide q
      clear q
      go_wp2
      go_ret
      exact ⟨rfl, unhide qH⟩
end Go.Proofs.Qxb6500368a
