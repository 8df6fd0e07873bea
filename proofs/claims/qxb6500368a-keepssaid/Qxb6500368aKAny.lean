/-
  KEEPS: Owed and Kept at a step that the bench played.
-/
import Derived.Test.Qxb6500368aKOwed2
import Derived.Test.Qxb6500368aKOwed4
import Derived.Test.Qxb6500368aKKept2
import Derived.Test.Qxb6500368aKKept3
import Derived.Test.Qxb6500368aKKept4
import Derived.Test.Qxb6500368aKKept5
import Derived.Test.Qxb6500368aPlay
import Derived.Test.Qxb6500368aKNet
namespace Go.Proofs.Qxb6500368a
open Go.RowKit Go.Qx
set_option linter.unusedVariables false
set_option linter.unusedSimpArgs false

def St.R (σ : St) : Nat → ByteArray := regS σ.c σ.n
theorem St.size (σ : St) (r : Nat) : (σ.R r).size = 4 * σ.n r := by
  unfold St.R regS; rw [str_size, packL_length]
theorem St.empty (σ : St) (r : Nat) (h : σ.n r = 0) : (σ.R r).toList = [] := by
  unfold St.R regS; rw [h, packL]; exact str_toList []

theorem owed_any (w : World) (σ : St) (I : σ.Ok) (k a b c : Int) (s t : ByteArray) :
    Calls Try.prog 25 #[.agg #[.string (σ.R 0), .string (σ.R 1), .string (σ.R 2), .int .i64 (σ.wk : Int)], .agg #[.int .i64 k, .int .i64 a, .int .i64 b, .int .i64 c, .string s, .string t]] w
      (owedPost w (ansP σ ⟨k, a, b, c, s, t⟩).e ((nextP σ ⟨k, a, b, c, s, t⟩).wk : Nat)) := by
  by_cases h1 : k = 1
  · subst h1
    rw [show (ansP σ ⟨1, a, b, c, s, t⟩).e = loadE s a by simp [ansP], show (nextP σ ⟨1, a, b, c, s, t⟩).wk = σ.wk by simp [nextP]]
    by_cases hE : quadsE s = 0
    · rcases reg_cases a with ⟨ka, rfl, hka, hreg⟩ | hreg
      · rw [show loadE s ka = 0 by simp [loadE, hE, hreg]]
        exact owed_load w σ.R σ.wk ka (σ.n ka) b c s t hka (I.n ka hka) (σ.size ka) hE
      · rw [show loadE s a = 4 by simp [loadE, hE, hreg]]
        exact owed_load_reg w σ.R σ.wk a b c s t hE hreg
    · rw [show loadE s a = quadsE s by simp [loadE, hE]]
      exact owed_load_bad w σ.R σ.wk a b c s t hE
  by_cases h2 : k = 2
  · subst h2
    rw [show (ansP σ ⟨2, a, b, c, s, t⟩).e = (atP σ.c σ.n a b).2 by simp [ansP], show (nextP σ ⟨2, a, b, c, s, t⟩).wk = σ.wk by simp [nextP]]
    rcases reg_cases a with ⟨ka, rfl, hka, hreg⟩ | hreg
    · by_cases hb : b < 0
      · rw [show (atP σ.c σ.n ka b).2 = 5 by unfold atP; rw [if_pos hreg, if_neg (by omega)]]
        exact owed_at_lo w σ.R σ.wk ka (σ.n ka) b c s t hka (I.n ka hka) (σ.size ka) hb
      · by_cases hb2 : (σ.n ka : Int) ≤ b
        · rw [show (atP σ.c σ.n ka b).2 = 5 by unfold atP; rw [if_pos hreg, if_neg (by simp; omega)]]
          exact owed_at_hi w σ.R σ.wk ka (σ.n ka) b c s t hka (I.n ka hka) (σ.size ka) hb hb2
        · rw [show (atP σ.c σ.n ka b).2 = 0 by unfold atP; rw [if_pos hreg, if_pos (by simp; omega)]]
          exact owed_at w σ.R σ.wk ka (σ.n ka) b c s t hka (I.n ka hka) (σ.size ka) hb hb2
    · rw [show (atP σ.c σ.n a b).2 = 4 by simp [atP, hreg]]
      exact owed_reg2 w σ.R σ.wk a b c s t hreg
  by_cases h3 : k = 3
  · subst h3
    rw [show (ansP σ ⟨3, a, b, c, s, t⟩).e = turnE σ.n a by simp [ansP], show (nextP σ ⟨3, a, b, c, s, t⟩).wk = turnW σ.n σ.wk a false by simp [nextP]]
    rcases reg_cases a with ⟨ka, rfl, hka, hreg⟩ | hreg
    · by_cases hl : log2P (σ.n ka) < 0
      · have e1 : turnE σ.n ka = 2 := by simp [turnE, hreg, hl]
        rw [e1, show turnW σ.n σ.wk ka false = σ.wk by simp [turnW, e1]]
        exact owed_fw_len w σ.R σ.wk ka (σ.n ka) b c s t hka (I.n ka hka) (σ.size ka) hl
      · have e1 : turnE σ.n ka = 0 := by simp [turnE, hreg, hl]
        rw [e1, show turnW σ.n σ.wk ka false = ceilP (σ.n ka) * (σ.n ka / 2) by simp [turnW, e1]]
        exact owed_fw w σ.R σ.wk ka (σ.n ka) b c s t hka (I.n ka hka) (σ.size ka) _ (ceil_le _) (log2_nonneg hl)
    · have e1 : turnE σ.n a = 4 := by simp [turnE, hreg]
      rw [e1, show turnW σ.n σ.wk a false = σ.wk by simp [turnW, e1]]
      exact owed_reg3 w σ.R σ.wk a b c s t hreg
  by_cases h4 : k = 4
  · subst h4
    rw [show (ansP σ ⟨4, a, b, c, s, t⟩).e = turnE σ.n a by simp [ansP], show (nextP σ ⟨4, a, b, c, s, t⟩).wk = turnW σ.n σ.wk a true by simp [nextP]]
    rcases reg_cases a with ⟨ka, rfl, hka, hreg⟩ | hreg
    · by_cases hl : log2P (σ.n ka) < 0
      · have e1 : turnE σ.n ka = 2 := by simp [turnE, hreg, hl]
        rw [e1, show turnW σ.n σ.wk ka true = σ.wk by simp [turnW, e1]]
        exact owed_iv_len w σ.R σ.wk ka (σ.n ka) b c s t hka (I.n ka hka) (σ.size ka) hl
      · have e1 : turnE σ.n ka = 0 := by simp [turnE, hreg, hl]
        rw [e1, show turnW σ.n σ.wk ka true = ceilP (σ.n ka) * (σ.n ka / 2) + σ.n ka by simp [turnW, e1]]
        exact owed_iv w σ.R σ.wk ka (σ.n ka) b c s t hka (I.n ka hka) (σ.size ka) _ (ceil_le _) (log2_nonneg hl)
    · have e1 : turnE σ.n a = 4 := by simp [turnE, hreg]
      rw [e1, show turnW σ.n σ.wk a true = σ.wk by simp [turnW, e1]]
      exact owed_reg4 w σ.R σ.wk a b c s t hreg
  by_cases h5 : k = 5
  · subst h5
    rw [show (ansP σ ⟨5, a, b, c, s, t⟩).e = convE σ.n a b c by simp [ansP], show (nextP σ ⟨5, a, b, c, s, t⟩).wk = convW σ.n σ.wk a b c by simp [nextP]]
    cases hr : regsB a b c with
    | false =>
      have e0 : convK σ.n a b c = 0 := by simp [convK, hr]
      rw [show convE σ.n a b c = 4 by simp [convE, hr], show convW σ.n σ.wk a b c = σ.wk by simp [convW, e0]]
      rcases reg_cases a with ⟨ka, rfl, hka, hreg⟩ | hreg
      · exact owed_conv_regs w σ.R σ.wk ka (σ.n ka) b c s t hka (I.n ka hka) (σ.size ka) hr
      · exact owed_reg5 w σ.R σ.wk a b c s t hreg
    | true =>
      obtain ⟨ka, ha, rfl⟩ : ∃ k : Nat, k < 3 ∧ a = k := by
        unfold regsB regP at hr; simp at hr; exact ⟨a.toNat, by omega, by omega⟩
      obtain ⟨kb, hb, rfl⟩ : ∃ k : Nat, k < 3 ∧ b = k := by
        unfold regsB regP at hr; simp at hr; exact ⟨b.toNat, by omega, by omega⟩
      obtain ⟨kc, hc, rfl⟩ : ∃ k : Nat, k < 3 ∧ c = k := by
        unfold regsB regP at hr; simp at hr; exact ⟨c.toNat, by omega, by omega⟩
      by_cases hz : σ.n kb = 0 ∨ σ.n kc = 0
      · have hzB : zeroB σ.n kb kc = true := by simpa [zeroB] using hz
        have e0 : convK σ.n ka kb kc = 1 := by simp [convK, hr, hzB]
        rw [show convE σ.n ka kb kc = 0 by simp [convE, hr, hzB], show convW σ.n σ.wk ka kb kc = 0 by simp [convW, e0]]
        by_cases hzb : σ.n kb = 0
        · exact owed_conv_zb w σ.R σ.wk ka kb kc (σ.n ka) (σ.n kb) (σ.n kc) s t ha hb hc (I.n ka ha) (σ.size ka) (σ.size kb) (σ.size kc) (σ.empty kb hzb)
        · exact owed_conv_zc w σ.R σ.wk ka kb kc (σ.n ka) (σ.n kb) (σ.n kc) s t ha hb hc (I.n ka ha) (σ.size ka) (σ.size kb) (σ.size kc) hzb (σ.empty kc (by omega))
      · have hzB : zeroB σ.n kb kc = false := by simpa [zeroB] using hz
        have hL : σ.n kb + σ.n kc = convLen σ.n kb kc + 1 := by unfold convLen; simp; omega
        by_cases h16 : 16 < convLen σ.n kb kc
        · have e0 : convK σ.n ka kb kc = 0 := by simp [convK, hr, hzB, h16]
          rw [show convE σ.n ka kb kc = 2 by simp [convE, hr, hzB, h16], show convW σ.n σ.wk ka kb kc = σ.wk by simp [convW, e0]]
          exact owed_conv_len w σ.R σ.wk ka kb kc (σ.n ka) (σ.n kb) (σ.n kc) s t ha hb hc (I.n ka ha) (σ.size ka) (σ.size kb) (σ.size kc) (by omega) (by omega) _ (I.n kb hb) (I.n kc hc) hL h16
        · have e0 : convK σ.n ka kb kc = 2 := by simp [convK, hr, hzB, h16]
          rw [show convE σ.n ka kb kc = 0 by simp [convE, hr, hzB, h16], show convW σ.n σ.wk ka kb kc = 3 * (ceilP (convLen σ.n kb kc) * (2 ^ ceilP (convLen σ.n kb kc) / 2)) + 2 * 2 ^ ceilP (convLen σ.n kb kc) by simp [convW, e0]]
          exact owed_conv w σ.R σ.wk ka kb kc (σ.n ka) (σ.n kb) (σ.n kc) s t ha hb hc (I.n ka ha) (σ.size ka) (σ.size kb) (σ.size kc) (by omega) (by omega) _ (I.n kb hb) (I.n kc hc) hL h16
  · have e1 : (ansP σ ⟨k, a, b, c, s, t⟩).e = 0 := by
      simp only [ansP, h1, h2, h3, h4, h5, if_false]
      split
      · rfl
      · split
        · rfl
        · split <;> rfl
    have e2 : (nextP σ ⟨k, a, b, c, s, t⟩).wk = σ.wk := by simp [nextP, h1, h3, h4, h5]
    rw [e1, e2]
    exact owed_none w σ.R σ.wk k a b c s t h1 (by omega)

theorem St.reg_in (σ : St) (I : σ.Ok) (r : Nat) (hr : r < 3) : ∀ i, i < σ.n r → 0 ≤ σ.c (16 * r + i) ∧ σ.c (16 * r + i) < pP := fun i hi => I.c _ (by have := I.n r hr; omega)

/-- A register that was written. -/
theorem R_new {c c' : Nat → Int} {n' : Nat → Nat} {d L : Nat} {y : Nat → Int} (hc : c' = win c (16 * d) L y) (hn : n' d = L) : regS c' n' d = str (packL y L) := by
  subst hc
  unfold regS
  rw [hn, packL_congr (z := y) (fun i hi => win_get c (16 * d) L y i hi)]
/-- A register that was not. -/
theorem R_same {c c' : Nat → Int} {n n' : Nat → Nat} {d L r : Nat} {y : Nat → Int} (hc : c' = win c (16 * d) L y) (hL : L ≤ 16) (hr : r ≠ d) (hnr : n r ≤ 16) (hn : n' r = n r) : regS c' n' r = regS c n r := by
  subst hc
  unfold regS
  rw [hn, packL_congr (fun i hi => ?_)]
  unfold win
  rw [if_neg (by omega)]

theorem err_same (σ : St) (k a b c : Int) (s t : ByteArray) (h : ¬ (ansP σ ⟨k, a, b, c, s, t⟩).e = 0) : nextP σ ⟨k, a, b, c, s, t⟩ = σ ∧ ansP σ ⟨k, a, b, c, s, t⟩ = ⟨(ansP σ ⟨k, a, b, c, s, t⟩).e, 0, 0, ⟨#[]⟩⟩ := by
  by_cases h1 : k = 1
  · subst h1
    have hE : ¬ loadE s a = 0 := by simpa [ansP] using h
    exact ⟨by simp [nextP, loadC, loadN, hE], by simp [ansP]⟩
  by_cases h2 : k = 2
  · subst h2
    have hE : ¬ (atP σ.c σ.n a b).2 = 0 := by simpa [ansP] using h
    refine ⟨by simp [nextP], ?_⟩
    have : (atP σ.c σ.n a b).1 = 0 := by
      unfold atP at hE ⊢
      split
      · rename_i hr
        rw [if_pos hr] at hE
        split
        · rename_i hb; rw [if_pos hb] at hE; exact absurd rfl hE
        · rfl
      · rfl
    simp [ansP, this]
  by_cases h3 : k = 3
  · subst h3
    have hE : ¬ turnE σ.n a = 0 := by simpa [ansP] using h
    exact ⟨by simp [nextP, turnC, turnW, hE], by simp [ansP]⟩
  by_cases h4 : k = 4
  · subst h4
    have hE : ¬ turnE σ.n a = 0 := by simpa [ansP] using h
    exact ⟨by simp [nextP, turnC, turnW, hE], by simp [ansP]⟩
  by_cases h5 : k = 5
  · subst h5
    have hE : ¬ convE σ.n a b c = 0 := by simpa [ansP] using h
    have h0 : convK σ.n a b c = 0 := by
      unfold convE at hE
      unfold convK
      split
      · rename_i hr
        rw [if_pos hr] at hE
        split
        · rename_i hz; rw [if_pos hz] at hE; exact absurd rfl hE
        · rename_i hz
          rw [if_neg hz] at hE
          split
          · rfl
          · rename_i h16; rw [if_neg h16] at hE; exact absurd rfl hE
      · rfl
    exact ⟨by simp [nextP, convC, convN, convW, h0], by simp [ansP]⟩
  · exfalso
    apply h
    simp only [ansP, h1, h2, h3, h4, h5, if_false]
    split
    · rfl
    · split
      · rfl
      · split <;> rfl

def keptPost (w : World) (e : Ending) (w' : World) : Prop := e = .returned (.bool true) ∧ Quiet w w'

theorem sum_reg (σ : St) (I : σ.Ok) (ka : Nat) (hka : ka < 3) (hl : ¬ log2P (σ.n ka) < 0) (W : World) : Calls Try.prog 26 #[.string (σ.R ka)] W fun e w' => e = .returned (.string (str (packL (netP (ceilP (σ.n ka)) false (fun i => σ.c (16 * ka + i))) (σ.n ka)))) ∧ Quiet W w' := by
  have hm := log2_ok hl
  have h := sum_any W (fun i => σ.c (16 * ka + i)) (ceilP (σ.n ka)) (ceil_le _) (by rw [← hm]; exact σ.reg_in I ka hka)
  rw [← hm] at h
  exact h

theorem sum_back (σ : St) (I : σ.Ok) (ka : Nat) (hka : ka < 3) (hl : ¬ log2P (σ.n ka) < 0) (W : World) : Calls Try.prog 26 #[.string (str (packL (netP (ceilP (σ.n ka)) true (fun i => σ.c (16 * ka + i))) (σ.n ka)))] W fun e w' => e = .returned (.string (σ.R ka)) ∧ Quiet W w' := by
  have hm := log2_ok hl
  have hx : InP (2 ^ ceilP (σ.n ka)) (fun i => σ.c (16 * ka + i)) := by rw [← hm]; exact σ.reg_in I ka hka
  have h := sum_any W (netP (ceilP (σ.n ka)) true (fun i => σ.c (16 * ka + i))) (ceilP (σ.n ka)) (ceil_le _) (fun j _ => net_in true _ hx j)
  rw [packL_congr (z := fun i => σ.c (16 * ka + i)) (fun i hi => net_back (ceil_le _) _ hx hi), ← hm] at h
  exact h
end Go.Proofs.Qxb6500368a
