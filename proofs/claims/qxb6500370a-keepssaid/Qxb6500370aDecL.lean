/-
  THE MODEL'S DECODER, PLAINLY, beside Go's own.
-/
import Derived.Test.Qxb6500370aParse
namespace Go.Proofs.Qxb6500370a
open Go.RowKit Go.Qx
set_option linter.unusedVariables false
set_option linter.unusedSimpArgs false

/-- The byte at place j. -/
def byt (s : ByteArray) (j : Nat) : Nat := (s.get! j).toNat
/-- A byte that goes on. -/
def goesOn (s : ByteArray) (j : Nat) : Bool := decide (j < s.size) && decide (128 ≤ byt s j) && decide (byt s j ≤ 191)
theorem byt_lt (s : ByteArray) (j : Nat) : byt s j < 256 := (s.get! j).toNat_lt
/-- How wide the form should be, by its first byte; what the first byte gives; the least code point of that width. -/
def widP (b : Nat) : Nat := if 240 ≤ b then 4 else if 224 ≤ b then 3 else if 192 ≤ b then 2 else if 128 ≤ b then 0 else 1
def headP (b : Nat) : Nat := if 240 ≤ b then b - 240 else if 224 ≤ b then b - 224 else if 192 ≤ b then b - 192 else b
def leastP (b : Nat) : Nat := if 240 ≤ b then 65536 else if 224 ≤ b then 2048 else if 192 ≤ b then 128 else 0
/-- The code point behind k bytes. -/
def accP (s : ByteArray) (i : Nat) : Nat → Nat
  | 0 => 0
  | 1 => headP (byt s i)
  | k + 2 => accP s i (k + 1) * 64 + (byt s (i + (k + 1)) - 128)
def allOn (s : ByteArray) (i : Nat) : Nat → Bool
  | 0 => true
  | 1 => true
  | k + 2 => allOn s i (k + 1) && goesOn s (i + (k + 1))
def wellP (r lo : Nat) : Bool := !(decide (r < lo) || decide (1114111 < r) || (decide (55296 ≤ r) && decide (r ≤ 57343)))
def decP (s : ByteArray) (i : Nat) : Nat × Nat :=
  if widP (byt s i) = 0 then (0, 0)
  else if allOn s i (widP (byt s i)) then (if wellP (accP s i (widP (byt s i))) (leastP (byt s i)) then (accP s i (widP (byt s i)), widP (byt s i)) else (0, 0))
  else (0, 0)

def badAt (s : ByteArray) (pos : Nat) : Prop := (Utf8.decode s pos).1 = 65533 ∧ (s.size < pos + 3 ∨ s.extract pos (pos + 3) ≠ ⟨#[239, 191, 189]⟩)

theorem cont_iff (s : ByteArray) (j : Nat) : (decide (j < s.size) && (s.get! j).toNat / 64 == 2) = goesOn s j := by
  unfold goesOn byt
  generalize (s.get! j).toNat = b
  rw [Bool.and_assoc]
  congr 1
  rw [Bool.eq_iff_iff]
  simp
  omega

def decF (b0 b1 b2 b3 : Nat) (g1 g2 g3 : Bool) : Nat × Nat :=
  if b0 < 128 then (b0, 1)
  else if b0 / 32 == 6 && g1 then
    (if (b0 % 32) * 64 + b1 % 64 ≥ 128 then ((b0 % 32) * 64 + b1 % 64, 2) else (65533, 1))
  else if b0 / 16 == 14 && g1 && g2 then
    (if (b0 % 16) * 4096 + (b1 % 64) * 64 + b2 % 64 ≥ 2048 && Utf8.valid (((b0 % 16) * 4096 + (b1 % 64) * 64 + b2 % 64 : Nat) : Int) then ((b0 % 16) * 4096 + (b1 % 64) * 64 + b2 % 64, 3) else (65533, 1))
  else if b0 / 8 == 30 && g1 && g2 && g3 then
    (if (b0 % 8) * 262144 + (b1 % 64) * 4096 + (b2 % 64) * 64 + b3 % 64 ≥ 65536 && Utf8.valid (((b0 % 8) * 262144 + (b1 % 64) * 4096 + (b2 % 64) * 64 + b3 % 64 : Nat) : Int) then ((b0 % 8) * 262144 + (b1 % 64) * 4096 + (b2 % 64) * 64 + b3 % 64, 4) else (65533, 1))
  else (65533, 1)
theorem decode_form (s : ByteArray) (i : Nat) : Utf8.decode s i = decF (byt s i) (byt s (i + 1)) (byt s (i + 2)) (byt s (i + 3)) (goesOn s (i + 1)) (goesOn s (i + 2)) (goesOn s (i + 3)) := by
  have h : Utf8.decode s i = decF (byt s (i + 0)) (byt s (i + 1)) (byt s (i + 2)) (byt s (i + 3)) (goesOn s (i + 1)) (goesOn s (i + 2)) (goesOn s (i + 3)) := by
    rw [← cont_iff, ← cont_iff, ← cont_iff]
    unfold byt Utf8.decode decF Utf8.runeError
    dsimp only
  rw [Nat.add_zero] at h
  exact h

def decG (b0 b1 b2 b3 : Nat) (g1 g2 g3 : Bool) : Nat × Nat :=
  if b0 < 128 then (b0, 1)
  else if b0 < 192 then (0, 0)
  else if b0 < 224 then (if g1 && wellP ((b0 - 192) * 64 + (b1 - 128)) 128 then ((b0 - 192) * 64 + (b1 - 128), 2) else (0, 0))
  else if b0 < 240 then (if g1 && g2 && wellP (((b0 - 224) * 64 + (b1 - 128)) * 64 + (b2 - 128)) 2048 then (((b0 - 224) * 64 + (b1 - 128)) * 64 + (b2 - 128), 3) else (0, 0))
  else (if g1 && g2 && g3 && wellP ((((b0 - 240) * 64 + (b1 - 128)) * 64 + (b2 - 128)) * 64 + (b3 - 128)) 65536 then ((((b0 - 240) * 64 + (b1 - 128)) * 64 + (b2 - 128)) * 64 + (b3 - 128), 4) else (0, 0))
theorem decP_form (s : ByteArray) (i : Nat) : decP s i = decG (byt s i) (byt s (i + 1)) (byt s (i + 2)) (byt s (i + 3)) (goesOn s (i + 1)) (goesOn s (i + 2)) (goesOn s (i + 3)) := by
  by_cases h1 : byt s i < 128
  · have e1 : widP (byt s i) = 1 := by unfold widP; (repeat' split) <;> omega
    have e2 : headP (byt s i) = byt s i := by unfold headP; (repeat' split) <;> omega
    have e3 : leastP (byt s i) = 0 := by unfold leastP; (repeat' split) <;> omega
    have e4 : wellP (byt s i) 0 = true := by unfold wellP; simp; omega
    have d1 : decP s i = (byt s i, 1) := by
      unfold decP
      rw [e1, e3, if_neg (by decide)]
      show (if true then (if wellP (headP (byt s i)) 0 then (headP (byt s i), 1) else (0, 0)) else (0, 0)) = _
      rw [e2, e4]; rfl
    rw [d1]; unfold decG; rw [if_pos h1]
  · by_cases h2 : byt s i < 192
    · have e1 : widP (byt s i) = 0 := by unfold widP; (repeat' split) <;> omega
      have d1 : decP s i = (0, 0) := by
        unfold decP
        rw [e1, if_pos rfl]
      rw [d1]; unfold decG; rw [if_neg h1, if_pos h2]
    · by_cases h3 : byt s i < 224
      · have e1 : widP (byt s i) = 2 := by unfold widP; (repeat' split) <;> omega
        have e2 : headP (byt s i) = byt s i - 192 := by unfold headP; (repeat' split) <;> omega
        have e3 : leastP (byt s i) = 128 := by unfold leastP; (repeat' split) <;> omega
        have d1 : decP s i = if (true && goesOn s (i + 1)) then (if wellP (headP (byt s i) * 64 + (byt s (i + 1) - 128)) 128 then (headP (byt s i) * 64 + (byt s (i + 1) - 128), 2) else (0, 0)) else (0, 0) := by
          unfold decP
          rw [e1, e3, if_neg (by decide)]; rfl
        rw [d1, e2]; unfold decG; rw [if_neg h1, if_neg h2, if_pos h3]
        cases goesOn s (i + 1) <;> simp
      · by_cases h4 : byt s i < 240
        · have e1 : widP (byt s i) = 3 := by unfold widP; (repeat' split) <;> omega
          have e2 : headP (byt s i) = byt s i - 224 := by unfold headP; (repeat' split) <;> omega
          have e3 : leastP (byt s i) = 2048 := by unfold leastP; (repeat' split) <;> omega
          have d1 : decP s i = if (true && goesOn s (i + 1) && goesOn s (i + 2)) then (if wellP ((headP (byt s i) * 64 + (byt s (i + 1) - 128)) * 64 + (byt s (i + 2) - 128)) 2048 then ((headP (byt s i) * 64 + (byt s (i + 1) - 128)) * 64 + (byt s (i + 2) - 128), 3) else (0, 0)) else (0, 0) := by
            unfold decP
            rw [e1, e3, if_neg (by decide)]; rfl
          rw [d1, e2]; unfold decG; rw [if_neg h1, if_neg h2, if_neg h3, if_pos h4]
          cases goesOn s (i + 1) <;> cases goesOn s (i + 2) <;> simp
        · have e1 : widP (byt s i) = 4 := by unfold widP; (repeat' split) <;> omega
          have e2 : headP (byt s i) = byt s i - 240 := by unfold headP; (repeat' split) <;> omega
          have e3 : leastP (byt s i) = 65536 := by unfold leastP; (repeat' split) <;> omega
          have d1 : decP s i = if (true && goesOn s (i + 1) && goesOn s (i + 2) && goesOn s (i + 3)) then (if wellP (((headP (byt s i) * 64 + (byt s (i + 1) - 128)) * 64 + (byt s (i + 2) - 128)) * 64 + (byt s (i + 3) - 128)) 65536 then (((headP (byt s i) * 64 + (byt s (i + 1) - 128)) * 64 + (byt s (i + 2) - 128)) * 64 + (byt s (i + 3) - 128), 4) else (0, 0)) else (0, 0) := by
            unfold decP
            rw [e1, e3, if_neg (by decide)]; rfl
          rw [d1, e2]; unfold decG; rw [if_neg h1, if_neg h2, if_neg h3, if_neg h4]
          cases goesOn s (i + 1) <;> cases goesOn s (i + 2) <;> cases goesOn s (i + 3) <;> simp

theorem valid_iff (c : Nat) : Utf8.valid (c : Int) = (decide (c < 55296) || (decide (57344 ≤ c) && decide (c ≤ 1114111))) := by
  unfold Utf8.valid
  rw [Bool.eq_iff_iff]
  simp
  omega

/-- The two decoders: the same, or the one refuses and the other answers the error rune; and a true error rune stands there in its three bytes. -/
theorem dec_cases (b0 b1 b2 b3 : Nat) (g1 g2 g3 : Bool) (h0 : b0 < 256) (h1 : g1 = true → 128 ≤ b1 ∧ b1 ≤ 191) (h2 : g2 = true → 128 ≤ b2 ∧ b2 ≤ 191) (h3 : g3 = true → 128 ≤ b3 ∧ b3 ≤ 191) :
    ((decG b0 b1 b2 b3 g1 g2 g3).2 = 0 ∧ (decF b0 b1 b2 b3 g1 g2 g3).1 = 65533 ∧ ¬ (b0 = 239 ∧ b1 = 191 ∧ b2 = 189 ∧ g1 = true ∧ g2 = true)) ∨
      ((decG b0 b1 b2 b3 g1 g2 g3).2 ≠ 0 ∧ decF b0 b1 b2 b3 g1 g2 g3 = decG b0 b1 b2 b3 g1 g2 g3 ∧ ((decF b0 b1 b2 b3 g1 g2 g3).1 = 65533 → b0 = 239 ∧ b1 = 191 ∧ b2 = 189 ∧ g1 = true ∧ g2 = true)) := by
  unfold decF decG wellP
  rw [valid_iff, valid_iff]
  by_cases c1 : b0 < 128
  · right
    simp [c1]
    omega
  by_cases c2 : b0 < 192
  · left
    have d1 : (b0 / 32 == 6) = false := beq_eq_false_iff_ne.2 (by omega)
    have d2 : (b0 / 16 == 14) = false := beq_eq_false_iff_ne.2 (by omega)
    have d3 : (b0 / 8 == 30) = false := beq_eq_false_iff_ne.2 (by omega)
    simp [c1, c2, d1, d2, d3]
    omega
  by_cases c3 : b0 < 224
  · have d1 : (b0 / 32 == 6) = true := beq_iff_eq.2 (by omega)
    have d2 : (b0 / 16 == 14) = false := beq_eq_false_iff_ne.2 (by omega)
    have d3 : (b0 / 8 == 30) = false := beq_eq_false_iff_ne.2 (by omega)
    cases g1 with
    | false => left; simp [c1, c2, c3, d1, d2, d3]
    | true =>
      have hb := h1 rfl
      have e : (b0 - 192) * 64 + (b1 - 128) = b0 % 32 * 64 + b1 % 64 := by omega
      rw [e]
      by_cases c4 : b0 % 32 * 64 + b1 % 64 ≥ 128
      · right
        have x1 : ¬ b0 % 32 * 64 + b1 % 64 < 128 := by omega
        have x2 : ¬ 1114111 < b0 % 32 * 64 + b1 % 64 := by omega
        have x3 : ¬ 55296 ≤ b0 % 32 * 64 + b1 % 64 := by omega
        simp only [c1, c2, c3, d1, c4, x1, x2, x3, if_true, if_false, Bool.true_and, decide_false, decide_true, Bool.or_self, Bool.false_and, Bool.not_false]
        simp; omega
      · left
        have x1 : b0 % 32 * 64 + b1 % 64 < 128 := by omega
        simp only [c1, c2, c3, d1, c4, x1, if_true, if_false, Bool.true_and, decide_true, Bool.true_or, Bool.not_true]
        simp; omega
  by_cases c4 : b0 < 240
  · have d1 : (b0 / 32 == 6) = false := beq_eq_false_iff_ne.2 (by omega)
    have d2 : (b0 / 16 == 14) = true := beq_iff_eq.2 (by omega)
    have d3 : (b0 / 8 == 30) = false := beq_eq_false_iff_ne.2 (by omega)
    cases g1 with
    | false => left; simp [c1, c2, c3, c4, d1, d2, d3]
    | true =>
      cases g2 with
      | false => left; simp [c1, c2, c3, c4, d1, d2, d3]
      | true =>
        have hb1 := h1 rfl
        have hb2 := h2 rfl
        have e : ((b0 - 224) * 64 + (b1 - 128)) * 64 + (b2 - 128) = b0 % 16 * 4096 + b1 % 64 * 64 + b2 % 64 := by omega
        rw [e]
        obtain ⟨c, hc⟩ : ∃ c, b0 % 16 * 4096 + b1 % 64 * 64 + b2 % 64 = c := ⟨_, rfl⟩
        rw [hc]
        simp only [c1, c2, c3, c4, d1, d2, if_true, if_false, Bool.true_and, Bool.false_and, Bool.and_true, Bool.false_eq_true]
        by_cases x1 : c < 2048
        · left; have y9 : ¬ 2048 ≤ c := by omega
          simp [x1, y9]; omega
        · by_cases x3 : 55296 ≤ c ∧ c ≤ 57343
          · left
            have y1 : ¬ c < 55296 := by omega
            have y2 : ¬ 57344 ≤ c := by omega
            simp [x1, x3.1, x3.2, y1, y2]; omega
          · right
            have y0 : c ≥ 2048 := by omega
            have y1 : ¬ 1114111 < c := by omega
            have y2 : c ≤ 1114111 := by omega
            have y3 : (decide (55296 ≤ c) && decide (c ≤ 57343)) = false := by simpa using x3
            rcases (by omega : c < 55296 ∨ 57344 ≤ c) with y4 | y4
            · have y5 : ¬ 55296 ≤ c := by omega
              simp [x1, y0, y1, y2, y4, y5]
              omega
            · have y5 : ¬ c ≤ 57343 := by omega
              simp [x1, y0, y1, y2, y4, y5]
              omega
  · have d1 : (b0 / 32 == 6) = false := beq_eq_false_iff_ne.2 (by omega)
    have d2 : (b0 / 16 == 14) = false := beq_eq_false_iff_ne.2 (by omega)
    cases g1 with
    | false => left; simp [c1, c2, c3, c4, d1, d2]
    | true =>
      cases g2 with
      | false => left; simp [c1, c2, c3, c4, d1, d2]
      | true =>
        cases g3 with
        | false => left; simp [c1, c2, c3, c4, d1, d2]; omega
        | true =>
          have hb1 := h1 rfl
          have hb2 := h2 rfl
          have hb3 := h3 rfl
          by_cases c5 : b0 < 248
          · have d3 : (b0 / 8 == 30) = true := beq_iff_eq.2 (by omega)
            have e : (((b0 - 240) * 64 + (b1 - 128)) * 64 + (b2 - 128)) * 64 + (b3 - 128) = b0 % 8 * 262144 + b1 % 64 * 4096 + b2 % 64 * 64 + b3 % 64 := by omega
            rw [e]
            obtain ⟨c, hc⟩ : ∃ c, b0 % 8 * 262144 + b1 % 64 * 4096 + b2 % 64 * 64 + b3 % 64 = c := ⟨_, rfl⟩
            rw [hc]
            simp only [c1, c2, c3, c4, d1, d2, d3, if_true, if_false, Bool.true_and, Bool.false_and, Bool.and_true, Bool.false_eq_true]
            by_cases x1 : c < 65536
            · left; have y9 : ¬ 65536 ≤ c := by omega
              simp [x1, y9]; omega
            · by_cases x2 : 1114111 < c
              · left
                have y1 : ¬ c < 55296 := by omega
                have y2 : ¬ c ≤ 1114111 := by omega
                simp [x1, x2, y1, y2]; omega
              · right
                have y0 : c ≥ 65536 := by omega
                have y2 : c ≤ 1114111 := by omega
                have y3 : ¬ c ≤ 57343 := by omega
                have y4 : 57344 ≤ c := by omega
                simp [x1, x2, y0, y2, y3, y4]; omega
          · have d3 : (b0 / 8 == 30) = false := beq_eq_false_iff_ne.2 (by omega)
            left
            obtain ⟨c, hc⟩ : ∃ c, (((b0 - 240) * 64 + (b1 - 128)) * 64 + (b2 - 128)) * 64 + (b3 - 128) = c := ⟨_, rfl⟩
            have x2 : 1114111 < c := by omega
            rw [hc]
            simp [c1, c2, c3, c4, d1, d2, d3, x2]; omega

/-- Three bytes that stand at a place. -/
theorem extract3 (s : ByteArray) (pos : Nat) (h : pos + 3 ≤ s.size) : s.extract pos (pos + 3) = ⟨#[239, 191, 189]⟩ ↔ byt s pos = 239 ∧ byt s (pos + 1) = 191 ∧ byt s (pos + 2) = 189 := by
  have hg : ∀ k, (hk : pos + k < s.size) → byt s (pos + k) = (s.data[pos + k]'hk).toNat := fun k hk => by
    unfold byt
    have : s.get! (pos + k) = s.data[pos + k]'hk := by
      show s.data[pos + k]! = _
      exact getElem!_pos s.data (pos + k) hk
    rw [this]
  have l0 : pos + 0 < s.size := by omega
  have l1 : pos + 1 < s.size := by omega
  have l2 : pos + 2 < s.size := by omega
  have hd : (s.extract pos (pos + 3)).data = #[s.data[pos + 0]'l0, s.data[pos + 1]'l1, s.data[pos + 2]'l2] := by
    rw [ByteArray.data_extract]
    apply Array.ext
    · simp
      have : s.data.size = s.size := rfl
      omega
    · intro k h1 h2
      simp at h2
      rcases (by omega : k = 0 ∨ k = 1 ∨ k = 2) with rfl | rfl | rfl <;> simp
  have e0 := hg 0 l0
  have e1 := hg 1 l1
  have e2 := hg 2 l2
  have e0' : byt s pos = (s.data[pos + 0]'l0).toNat := e0
  rw [e0', e1, e2]
  generalize s.data[pos + 0]'l0 = x at hd
  generalize s.data[pos + 1]'l1 = y at hd
  generalize s.data[pos + 2]'l2 = z at hd
  constructor
  · intro h
    rw [h] at hd
    simp at hd
    obtain ⟨h1, h2, h3⟩ := hd
    subst h1 h2 h3
    exact ⟨rfl, rfl, rfl⟩
  · rintro ⟨h1, h2, h3⟩
    have a1 : x = 239 := UInt8.toNat_inj.1 h1
    have a2 : y = 191 := UInt8.toNat_inj.1 h2
    have a3 : z = 189 := UInt8.toNat_inj.1 h3
    subst a1 a2 a3
    exact ByteArray.ext hd

theorem goesOn_spec {s : ByteArray} {j : Nat} (h : goesOn s j = true) : 128 ≤ byt s j ∧ byt s j ≤ 191 := by
  unfold goesOn at h
  simp at h
  omega
theorem goesOn_lt {s : ByteArray} {j : Nat} (h : goesOn s j = true) : j < s.size := by
  unfold goesOn at h
  simp at h
  omega

theorem dec_decode (s : ByteArray) (i : Nat) (h : i < s.size) : ((decP s i).2 = 0 ∧ badAt s i) ∨ ((decP s i).2 ≠ 0 ∧ Utf8.decode s i = decP s i ∧ ¬ badAt s i) := by
  have hc := dec_cases (byt s i) (byt s (i + 1)) (byt s (i + 2)) (byt s (i + 3)) (goesOn s (i + 1)) (goesOn s (i + 2)) (goesOn s (i + 3)) (byt_lt s i) goesOn_spec goesOn_spec goesOn_spec
  rw [← decode_form, ← decP_form] at hc
  unfold badAt
  rcases hc with ⟨h1, h2, h3⟩ | ⟨h1, h2, h3⟩
  · refine .inl ⟨h1, h2, ?_⟩
    by_cases hs : s.size < i + 3
    · exact .inl hs
    · refine .inr (fun e => h3 ?_)
      obtain ⟨e1, e2, e3⟩ := (extract3 s i (by omega)).1 e
      refine ⟨e1, e2, e3, ?_, ?_⟩
      · unfold goesOn; rw [e2]; simp; omega
      · unfold goesOn; rw [e3]; simp; omega
  · refine .inr ⟨h1, h2, ?_⟩
    rintro ⟨e, hs⟩
    obtain ⟨e1, e2, e3, e4, e5⟩ := h3 e
    have l := goesOn_lt e5
    rcases hs with hs | hs
    · omega
    · exact hs ((extract3 s i (by omega)).2 ⟨e1, e2, e3⟩)
end Go.Proofs.Qxb6500370a
