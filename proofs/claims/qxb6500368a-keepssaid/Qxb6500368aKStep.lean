/-
  KEEPS: Kept at a step that the bench played. (gen8kstep.py)
-/
import Derived.Test.Qxb6500368aKAny
namespace Go.Proofs.Qxb6500368a
open Go.RowKit Go.Qx
set_option linter.unusedVariables false
set_option linter.unusedSimpArgs false

/-- Kept's answer at the state σ, the state σ' behind it, the step and its answer. -/
def KeptAt (w : World) (σ σ' : St) (k a b c : Int) (s t : ByteArray) (x : An) : Prop :=
  Calls Try.prog 12 #[.agg #[.string (σ.R 0), .string (σ.R 1), .string (σ.R 2), .int .i64 (σ.wk : Int)], .agg #[.string (σ'.R 0), .string (σ'.R 1), .string (σ'.R 2), .int .i64 (σ'.wk : Int)], .agg #[.int .i64 k, .int .i64 a, .int .i64 b, .int .i64 c, .string s, .string t], .agg #[.int .i64 x.e, .int .i64 x.n, .int .i64 x.m, .string x.s]] w (keptPost w)

theorem owedQ (w : World) (σ : St) (I : σ.Ok) (k a b c : Int) (s t : ByteArray) {E : Int} {W : Nat} (hE : (ansP σ ⟨k, a, b, c, s, t⟩).e = E) (hW : (nextP σ ⟨k, a, b, c, s, t⟩).wk = W) :
    Hid (QC w 25 #[.agg #[.string (σ.R 0), .string (σ.R 1), .string (σ.R 2), .int .i64 (σ.wk : Int)], .agg #[.int .i64 k, .int .i64 a, .int .i64 b, .int .i64 c, .string s, .string t]] (.tuple #[.int .i64 E, .int .i64 (W : Int)])) := by
  subst hE hW
  exact fun W' _ => owed_any W' σ I k a b c s t

theorem quads_size {s : ByteArray} (h : quadsE s = 0) : s.size = 4 * (s.size / 4) := by
  unfold quadsE at h
  split at h
  · cases h
  · split at h
    · cases h
    · omega

theorem step_err (w : World) (σ : St) (I : σ.Ok) (k a b c : Int) (s t : ByteArray) (h : ¬ (ansP σ ⟨k, a, b, c, s, t⟩).e = 0) : KeptAt w σ (nextP σ ⟨k, a, b, c, s, t⟩) k a b c s t (ansP σ ⟨k, a, b, c, s, t⟩) := by
  obtain ⟨h1, h2⟩ := err_same σ k a b c s t h
  have hO := owedQ w σ I k a b c s t rfl (W := σ.wk) (by rw [h1])
  generalize hE : (ansP σ ⟨k, a, b, c, s, t⟩).e = E at *
  rw [h1, h2]
  exact kept_err w σ.R σ.wk k a b c E h s t hO

theorem step_load (w : World) (σ : St) (I : σ.Ok) (a b c : Int) (s t : ByteArray) (h : loadE s a = 0) : KeptAt w σ (nextP σ ⟨1, a, b, c, s, t⟩) 1 a b c s t (ansP σ ⟨1, a, b, c, s, t⟩) := by
  have hA : ansP σ ⟨1, a, b, c, s, t⟩ = ⟨0, 0, 0, ⟨#[]⟩⟩ := by simp [ansP, h]
  have hq : quadsE s = 0 := by
    unfold loadE at h
    split at h
    · assumption
    · exact h
  have hr : regP a = true := by
    unfold loadE at h
    rw [if_pos hq] at h
    split at h
    · assumption
    · cases h
  have hN : nextP σ ⟨1, a, b, c, s, t⟩ = ⟨loadC σ.c s a, loadN σ.n s a, σ.wk⟩ := by simp [nextP]
  have hO := owedQ w σ I 1 a b c s t (E := 0) (W := σ.wk) (by rw [hA]) (by rw [hN])
  obtain ⟨ka, rfl, hka, -⟩ | hf := reg_cases a
  · have h16 := (quadsE_zero hq).1
    have hC : loadC σ.c s ka = win σ.c (16 * ka) (s.size / 4) (fun i => (quadN s i : Int)) := by unfold loadC; rw [if_pos h]; rfl
    have hM : loadN σ.n s ka = updN σ.n ka (s.size / 4) := by unfold loadN; rw [if_pos h]; rfl
    have hnew : regS (loadC σ.c s ka) (loadN σ.n s ka) ka = s := by
      rw [R_new hC (n' := loadN σ.n s ka) (L := s.size / 4) (by rw [hM]; simp [updN]), pack_quad s _ (quads_size hq)]
    have hsame : ∀ q, q < 3 → q ≠ ka → regS (loadC σ.c s ka) (loadN σ.n s ka) q = σ.R q := fun q hq3 hne =>
      R_same hC h16 hne (I.n q hq3) (by rw [hM]; simp [updN, hne])
    rw [hN, hA]
    unfold KeptAt
    rcases (by omega : ka = 0 ∨ ka = 1 ∨ ka = 2) with rfl | rfl | rfl
    · show Calls Try.prog 12 #[_, .agg #[.string (regS _ _ 0), .string (regS _ _ 1), .string (regS _ _ 2), _], _, _] w _
      rw [hnew, hsame 1 (by decide) (by decide), hsame 2 (by decide) (by decide)]
      exact kept_load0 w σ.R σ.wk b c s t hO
    · show Calls Try.prog 12 #[_, .agg #[.string (regS _ _ 0), .string (regS _ _ 1), .string (regS _ _ 2), _], _, _] w _
      rw [hsame 0 (by decide) (by decide), hnew, hsame 2 (by decide) (by decide)]
      exact kept_load1 w σ.R σ.wk b c s t hO
    · show Calls Try.prog 12 #[_, .agg #[.string (regS _ _ 0), .string (regS _ _ 1), .string (regS _ _ 2), _], _, _] w _
      rw [hsame 0 (by decide) (by decide), hsame 1 (by decide) (by decide), hnew]
      exact kept_load2 w σ.R σ.wk b c s t hO
  · rw [hf] at hr; cases hr

theorem step_at (w : World) (σ : St) (I : σ.Ok) (a b c : Int) (s t : ByteArray) (h : (atP σ.c σ.n a b).2 = 0) : KeptAt w σ (nextP σ ⟨2, a, b, c, s, t⟩) 2 a b c s t (ansP σ ⟨2, a, b, c, s, t⟩) := by
  have hN : nextP σ ⟨2, a, b, c, s, t⟩ = σ := by simp [nextP]
  have hO := owedQ w σ I 2 a b c s t (E := 0) (W := σ.wk) (by simpa [ansP] using h) (by rw [hN])
  obtain ⟨ka, rfl, hka, hr⟩ | hf := reg_cases a
  · by_cases hb : 0 ≤ b ∧ b < σ.n ka
    · obtain ⟨j, rfl⟩ : ∃ j : Nat, b = j := ⟨b.toNat, by omega⟩
      have hj : j < σ.n ka := by omega
      have hA : ansP σ ⟨2, ka, j, c, s, t⟩ = ⟨0, σ.c (16 * ka + j), 0, ⟨#[]⟩⟩ := by simp [ansP, atP_in hka hj]
      rw [hN, hA]
      exact kept_at w σ.R σ.wk c ka j (σ.n ka) (fun i => σ.c (16 * ka + i)) s t hO (fun W _ => regQ_any W I ka hka) hka hj
    · exfalso
      unfold atP at h
      rw [if_pos hr, if_neg (by simpa using hb)] at h
      cases h
  · exfalso
    unfold atP at h
    rw [if_neg (by simp [hf])] at h
    cases h

theorem step_fw (w : World) (σ : St) (I : σ.Ok) (a b c : Int) (s t : ByteArray) (h : turnE σ.n a = 0) : KeptAt w σ (nextP σ ⟨3, a, b, c, s, t⟩) 3 a b c s t (ansP σ ⟨3, a, b, c, s, t⟩) := by
  have hA : ansP σ ⟨3, a, b, c, s, t⟩ = ⟨0, 0, 0, ⟨#[]⟩⟩ := by simp [ansP, h]
  have hN : nextP σ ⟨3, a, b, c, s, t⟩ = ⟨turnC σ.c σ.n a false, σ.n, turnW σ.n σ.wk a false⟩ := by simp [nextP]
  have hO := owedQ w σ I 3 a b c s t (E := 0) (W := turnW σ.n σ.wk a false) (by rw [hA]) (by rw [hN])
  obtain ⟨ka, rfl, hka, hr⟩ | hf := reg_cases a
  · have hl : ¬ log2P (σ.n ka) < 0 := fun hlt => by
      have : turnE σ.n ka = 2 := by simp [turnE, hr, hlt]
      rw [this] at h; cases h
    have hC : turnC σ.c σ.n ka false = win σ.c (16 * ka) (σ.n ka) (netP (ceilP (σ.n ka)) false (fun p => σ.c (16 * ka + p))) := by simp [turnC, h]
    have hnew : regS (turnC σ.c σ.n ka false) σ.n ka = str (packL (netP (ceilP (σ.n ka)) false (fun p => σ.c (16 * ka + p))) (σ.n ka)) := R_new hC rfl
    have hsame : ∀ q, q < 3 → q ≠ ka → regS (turnC σ.c σ.n ka false) σ.n q = σ.R q := fun q hq3 hne => R_same hC (I.n ka hka) hne (I.n q hq3) rfl
    rw [hN, hA]
    unfold KeptAt
    rcases (by omega : ka = 0 ∨ ka = 1 ∨ ka = 2) with rfl | rfl | rfl
    · show Calls Try.prog 12 #[_, .agg #[.string (regS _ _ 0), .string (regS _ _ 1), .string (regS _ _ 2), _], _, _] w _
      rw [hnew, hsame 1 (by decide) (by decide), hsame 2 (by decide) (by decide)]
      exact kept_fw0 w σ.R σ.wk b c _ _ s t hO (fun W _ => sum_reg σ I 0 hka hl W)
    · show Calls Try.prog 12 #[_, .agg #[.string (regS _ _ 0), .string (regS _ _ 1), .string (regS _ _ 2), _], _, _] w _
      rw [hsame 0 (by decide) (by decide), hnew, hsame 2 (by decide) (by decide)]
      exact kept_fw1 w σ.R σ.wk b c _ _ s t hO (fun W _ => sum_reg σ I 1 hka hl W)
    · show Calls Try.prog 12 #[_, .agg #[.string (regS _ _ 0), .string (regS _ _ 1), .string (regS _ _ 2), _], _, _] w _
      rw [hsame 0 (by decide) (by decide), hsame 1 (by decide) (by decide), hnew]
      exact kept_fw2 w σ.R σ.wk b c _ _ s t hO (fun W _ => sum_reg σ I 2 hka hl W)
  · have : turnE σ.n a = 4 := by simp [turnE, hf]
    rw [this] at h; cases h

theorem step_iv (w : World) (σ : St) (I : σ.Ok) (a b c : Int) (s t : ByteArray) (h : turnE σ.n a = 0) : KeptAt w σ (nextP σ ⟨4, a, b, c, s, t⟩) 4 a b c s t (ansP σ ⟨4, a, b, c, s, t⟩) := by
  have hA : ansP σ ⟨4, a, b, c, s, t⟩ = ⟨0, 0, 0, ⟨#[]⟩⟩ := by simp [ansP, h]
  have hN : nextP σ ⟨4, a, b, c, s, t⟩ = ⟨turnC σ.c σ.n a true, σ.n, turnW σ.n σ.wk a true⟩ := by simp [nextP]
  have hO := owedQ w σ I 4 a b c s t (E := 0) (W := turnW σ.n σ.wk a true) (by rw [hA]) (by rw [hN])
  obtain ⟨ka, rfl, hka, hr⟩ | hf := reg_cases a
  · have hl : ¬ log2P (σ.n ka) < 0 := fun hlt => by
      have : turnE σ.n ka = 2 := by simp [turnE, hr, hlt]
      rw [this] at h; cases h
    have hC : turnC σ.c σ.n ka true = win σ.c (16 * ka) (σ.n ka) (netP (ceilP (σ.n ka)) true (fun p => σ.c (16 * ka + p))) := by simp [turnC, h]
    have hnew : regS (turnC σ.c σ.n ka true) σ.n ka = str (packL (netP (ceilP (σ.n ka)) true (fun p => σ.c (16 * ka + p))) (σ.n ka)) := R_new hC rfl
    have hsame : ∀ q, q < 3 → q ≠ ka → regS (turnC σ.c σ.n ka true) σ.n q = σ.R q := fun q hq3 hne => R_same hC (I.n ka hka) hne (I.n q hq3) rfl
    rw [hN, hA]
    unfold KeptAt
    rcases (by omega : ka = 0 ∨ ka = 1 ∨ ka = 2) with rfl | rfl | rfl
    · show Calls Try.prog 12 #[_, .agg #[.string (regS _ _ 0), .string (regS _ _ 1), .string (regS _ _ 2), _], _, _] w _
      rw [hnew, hsame 1 (by decide) (by decide), hsame 2 (by decide) (by decide)]
      exact kept_iv0 w σ.R σ.wk b c _ _ s t hO (fun W _ => sum_back σ I 0 hka hl W)
    · show Calls Try.prog 12 #[_, .agg #[.string (regS _ _ 0), .string (regS _ _ 1), .string (regS _ _ 2), _], _, _] w _
      rw [hsame 0 (by decide) (by decide), hnew, hsame 2 (by decide) (by decide)]
      exact kept_iv1 w σ.R σ.wk b c _ _ s t hO (fun W _ => sum_back σ I 1 hka hl W)
    · show Calls Try.prog 12 #[_, .agg #[.string (regS _ _ 0), .string (regS _ _ 1), .string (regS _ _ 2), _], _, _] w _
      rw [hsame 0 (by decide) (by decide), hsame 1 (by decide) (by decide), hnew]
      exact kept_iv2 w σ.R σ.wk b c _ _ s t hO (fun W _ => sum_back σ I 2 hka hl W)
  · have : turnE σ.n a = 4 := by simp [turnE, hf]
    rw [this] at h; cases h

theorem step_conv (w : World) (σ : St) (I : σ.Ok) (a b c : Int) (s t : ByteArray) (h : convE σ.n a b c = 0) : KeptAt w σ (nextP σ ⟨5, a, b, c, s, t⟩) 5 a b c s t (ansP σ ⟨5, a, b, c, s, t⟩) := by
  have hA : ansP σ ⟨5, a, b, c, s, t⟩ = ⟨0, 0, 0, ⟨#[]⟩⟩ := by simp [ansP, h]
  have hN : nextP σ ⟨5, a, b, c, s, t⟩ = ⟨convC σ.c σ.n a b c, convN σ.n a b c, convW σ.n σ.wk a b c⟩ := by simp [nextP]
  have hO := owedQ w σ I 5 a b c s t (E := 0) (W := convW σ.n σ.wk a b c) (by rw [hA]) (by rw [hN])
  cases hr : regsB a b c with
  | false =>
    have : convE σ.n a b c = 4 := by simp [convE, hr]
    rw [this] at h; cases h
  | true =>
    obtain ⟨ka, ha, rfl⟩ : ∃ k : Nat, k < 3 ∧ a = k := by
      unfold regsB regP at hr; simp at hr; exact ⟨a.toNat, by omega, by omega⟩
    obtain ⟨kb, hb, rfl⟩ : ∃ k : Nat, k < 3 ∧ b = k := by
      unfold regsB regP at hr; simp at hr; exact ⟨b.toNat, by omega, by omega⟩
    obtain ⟨kc, hc, rfl⟩ : ∃ k : Nat, k < 3 ∧ c = k := by
      unfold regsB regP at hr; simp at hr; exact ⟨c.toNat, by omega, by omega⟩
    have hfin : ∀ (Y : ByteArray) (hnew : regS (convC σ.c σ.n ka kb kc) (convN σ.n ka kb kc) ka = Y) (hsame : ∀ q, q < 3 → q ≠ ka → regS (convC σ.c σ.n ka kb kc) (convN σ.n ka kb kc) q = σ.R q) (hS : Hid (QC w 27 #[.string (σ.R kb), .string (σ.R kc)] (.string Y))), KeptAt w σ (nextP σ ⟨5, ka, kb, kc, s, t⟩) 5 ka kb kc s t (ansP σ ⟨5, ka, kb, kc, s, t⟩) := by
      intro Y hnew hsame hS
      rw [hN, hA]
      unfold KeptAt
      rcases (by omega : ka = 0 ∨ ka = 1 ∨ ka = 2) with rfl | rfl | rfl
      · show Calls Try.prog 12 #[_, .agg #[.string (regS _ _ 0), .string (regS _ _ 1), .string (regS _ _ 2), _], _, _] w _
        rw [hnew, hsame 1 (by decide) (by decide), hsame 2 (by decide) (by decide)]
        exact kept_cv0 w σ.R σ.wk kb kc _ Y s t hb hc hO hS
      · show Calls Try.prog 12 #[_, .agg #[.string (regS _ _ 0), .string (regS _ _ 1), .string (regS _ _ 2), _], _, _] w _
        rw [hsame 0 (by decide) (by decide), hnew, hsame 2 (by decide) (by decide)]
        exact kept_cv1 w σ.R σ.wk kb kc _ Y s t hb hc hO hS
      · show Calls Try.prog 12 #[_, .agg #[.string (regS _ _ 0), .string (regS _ _ 1), .string (regS _ _ 2), _], _, _] w _
        rw [hsame 0 (by decide) (by decide), hsame 1 (by decide) (by decide), hnew]
        exact kept_cv2 w σ.R σ.wk kb kc _ Y s t hb hc hO hS
    by_cases hz : σ.n kb = 0 ∨ σ.n kc = 0
    · have hzB : zeroB σ.n kb kc = true := by simpa [zeroB] using hz
      have e0 : convK σ.n ka kb kc = 1 := by simp [convK, hr, hzB]
      have hC : convC σ.c σ.n ka kb kc = win σ.c (16 * ka) 0 (fun _ => 0) := by
        rw [show convC σ.c σ.n ka kb kc = σ.c by simp [convC, e0]]
        funext i; unfold win; rw [if_neg (by omega)]
      have hM : convN σ.n ka kb kc = updN σ.n ka 0 := by simp [convN, e0]
      refine hfin (str []) (R_new hC (by rw [hM]; simp [updN])) (fun q hq3 hne => R_same hC (by omega) hne (I.n q hq3) (by rw [hM]; simp [updN, hne])) ?_
      exact fun W _ => school_zero W _ _ (σ.n kb) (σ.n kc) (I.n kb hb) (I.n kc hc) (σ.reg_in I kb hb) (σ.reg_in I kc hc) hz
    · have hzB : zeroB σ.n kb kc = false := by simpa [zeroB] using hz
      by_cases h16 : 16 < convLen σ.n kb kc
      · have : convE σ.n ka kb kc = 2 := by simp [convE, hr, hzB, h16]
        rw [this] at h; cases h
      · have e0 : convK σ.n ka kb kc = 2 := by simp [convK, hr, hzB, h16]
        have hL : σ.n kb + σ.n kc = convLen σ.n kb kc + 1 := by unfold convLen; simp; omega
        have hC0 : convC σ.c σ.n ka kb kc = win σ.c (16 * ka) (convLen σ.n kb kc) (prodP (ceilP (convLen σ.n kb kc)) (padF σ.c σ.n kb) (padF σ.c σ.n kc)) := by simp [convC, e0]
        have hlaw := conv_law I kb kc (convLen σ.n kb kc) _ hb hc (ceil_le _) (by omega) hz (ceil_fit _ (by omega))
        have hC : convC σ.c σ.n ka kb kc = win σ.c (16 * ka) (convLen σ.n kb kc) (yAll (σ.n kc) (fun i => σ.c (16 * kb + i)) (fun i => σ.c (16 * kc + i)) (σ.n kb)) := by
          rw [hC0]; exact (win_congr _ _ _ hlaw).symm
        have hM : convN σ.n ka kb kc = updN σ.n ka (convLen σ.n kb kc) := by simp [convN, e0]
        refine hfin _ (R_new hC (by rw [hM]; simp [updN])) (fun q hq3 hne => R_same hC (by omega) hne (I.n q hq3) (by rw [hM]; simp [updN, hne])) ?_
        exact fun W _ => school_any W _ _ (σ.n kb) (σ.n kc) (convLen σ.n kb kc) (I.n kb hb) (I.n kc hc) (σ.reg_in I kb hb) (σ.reg_in I kc hc) hz hL (by omega)

theorem kept_any (w : World) (σ : St) (I : σ.Ok) (k a b c : Int) (s t : ByteArray) : KeptAt w σ (nextP σ ⟨k, a, b, c, s, t⟩) k a b c s t (ansP σ ⟨k, a, b, c, s, t⟩) := by
  by_cases h : (ansP σ ⟨k, a, b, c, s, t⟩).e = 0
  · by_cases h1 : k = 1
    · subst h1; exact step_load w σ I a b c s t (by simpa [ansP] using h)
    by_cases h2 : k = 2
    · subst h2; exact step_at w σ I a b c s t (by simpa [ansP] using h)
    by_cases h3 : k = 3
    · subst h3; exact step_fw w σ I a b c s t (by simpa [ansP] using h)
    by_cases h4 : k = 4
    · subst h4; exact step_iv w σ I a b c s t (by simpa [ansP] using h)
    by_cases h5 : k = 5
    · subst h5; exact step_conv w σ I a b c s t (by simpa [ansP] using h)
    have hN : nextP σ ⟨k, a, b, c, s, t⟩ = σ := by simp [nextP, h1, h3, h4, h5]
    have hO := owedQ w σ I k a b c s t (E := 0) (W := σ.wk) h (by rw [hN])
    by_cases h6 : k = 6
    · subst h6
      rw [hN, show ansP σ ⟨6, a, b, c, s, t⟩ = ⟨0, σ.wk, 0, ⟨#[]⟩⟩ by simp [ansP]]
      exact kept_spent w σ.R σ.wk a b c s t hO
    by_cases h7 : k = 7
    · subst h7
      rw [hN, show ansP σ ⟨7, a, b, c, s, t⟩ = ⟨0, 0, 0, str (showTo σ.c σ.n σ.wk 3)⟩ by simp [ansP]]
      exact kept_show w σ.R σ.wk a b c _ s t hO (fun W _ => text_any W σ.c σ.n σ.wk I)
    by_cases h8 : k = 8
    · subst h8
      rw [hN, show ansP σ ⟨8, a, b, c, s, t⟩ = ⟨0, 1, 0, ⟨#[]⟩⟩ by simp [ansP]]
      exact kept_check w σ.R σ.wk a b c s t hO
    · rw [hN, show ansP σ ⟨k, a, b, c, s, t⟩ = ⟨0, 0, 0, ⟨#[]⟩⟩ by simp [ansP, h1, h2, h3, h4, h5, h6, h7, h8]]
      exact kept_none w σ.R σ.wk k a b c (by simpa using h1) (by simpa using h2) (by simpa using h3) (by simpa using h4) (by simpa using h5) (by simpa using h6) (by simpa using h7) (by simpa using h8) s t hO
  · exact step_err w σ I k a b c s t h
end Go.Proofs.Qxb6500368a
