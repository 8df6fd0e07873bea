/-
  WHAT THE CONTRACT'S WORDS DEMAND OF A TEXT, beside what parse answers. No Go in sight.
-/
import Derived.Test.Qxb6500370aKWord
namespace Go.Proofs.Qxb6500370a
open Go.RowKit Go.Qx Go.Qx.Mk
set_option linter.unusedVariables false
set_option linter.unusedSimpArgs false

/-! ### The bytes of a well-formed text. -/
theorem goesOn_on {s : ByteArray} {j : Nat} (h : goesOn s j = true) : 128 ≤ byt s j ∧ byt s j ≤ 191 := goesOn_spec h
def okB (b : Nat) : Prop := b < 128 ∨ (128 ≤ b ∧ b ≤ 191) ∨ (194 ≤ b ∧ b ≤ 244)
theorem form_bytes (s : ByteArray) (i : Nat) (h : (decP s i).2 ≠ 0) : ∀ j, i ≤ j → j < i + (decP s i).2 → okB (byt s j) ∧ (j + 1 = i + (decP s i).2 → byt s j ≤ 191) := by
  revert h
  rw [decP_form]
  unfold decG
  by_cases c1 : byt s i < 128
  · rw [if_pos c1]
    intro _ j h1 h2
    have : j = i := by simp at h2; omega
    subst this
    exact ⟨.inl c1, fun _ => by omega⟩
  rw [if_neg c1]
  by_cases c2 : byt s i < 192
  · rw [if_pos c2]; intro h; exact absurd rfl h
  rw [if_neg c2]
  by_cases c3 : byt s i < 224
  · rw [if_pos c3]
    by_cases hw : (goesOn s (i + 1) && wellP ((byt s i - 192) * 64 + (byt s (i + 1) - 128)) 128) = true
    · rw [if_pos hw]
      intro _ j h1 h2
      simp only [Bool.and_eq_true] at hw
      have r1 := goesOn_on hw.1
      have hw2 := hw.2
      unfold wellP at hw2
      simp at hw2
      simp only at h2
      rcases (by omega : j = i ∨ j = i + 1) with rfl | rfl
      · exact ⟨.inr (.inr ⟨by omega, by omega⟩), fun e => by simp only at e; omega⟩
      · exact ⟨.inr (.inl r1), fun _ => r1.2⟩
    · rw [if_neg hw]; intro h; exact absurd rfl h
  rw [if_neg c3]
  by_cases c4 : byt s i < 240
  · rw [if_pos c4]
    by_cases hw : (goesOn s (i + 1) && goesOn s (i + 2) && wellP (((byt s i - 224) * 64 + (byt s (i + 1) - 128)) * 64 + (byt s (i + 2) - 128)) 2048) = true
    · rw [if_pos hw]
      intro _ j h1 h2
      simp only [Bool.and_eq_true] at hw
      have r1 := goesOn_on hw.1.1
      have r2 := goesOn_on hw.1.2
      simp only at h2
      rcases (by omega : j = i ∨ j = i + 1 ∨ j = i + 2) with rfl | rfl | rfl
      · exact ⟨.inr (.inr ⟨by omega, by omega⟩), fun e => by simp only at e; omega⟩
      · exact ⟨.inr (.inl r1), fun _ => r1.2⟩
      · exact ⟨.inr (.inl r2), fun _ => r2.2⟩
    · rw [if_neg hw]; intro h; exact absurd rfl h
  · rw [if_neg c4]
    by_cases hw : (goesOn s (i + 1) && goesOn s (i + 2) && goesOn s (i + 3) && wellP ((((byt s i - 240) * 64 + (byt s (i + 1) - 128)) * 64 + (byt s (i + 2) - 128)) * 64 + (byt s (i + 3) - 128)) 65536) = true
    · rw [if_pos hw]
      intro _ j h1 h2
      simp only [Bool.and_eq_true] at hw
      have r1 := goesOn_on hw.1.1.1
      have r2 := goesOn_on hw.1.1.2
      have r3 := goesOn_on hw.1.2
      have hw2 := hw.2
      unfold wellP at hw2
      simp at hw2
      simp only at h2
      rcases (by omega : j = i ∨ j = i + 1 ∨ j = i + 2 ∨ j = i + 3) with rfl | rfl | rfl | rfl
      · exact ⟨.inr (.inr ⟨by omega, by omega⟩), fun e => by simp only at e; omega⟩
      · exact ⟨.inr (.inl r1), fun _ => r1.2⟩
      · exact ⟨.inr (.inl r2), fun _ => r2.2⟩
      · exact ⟨.inr (.inl r3), fun _ => r3.2⟩
    · rw [if_neg hw]; intro h; exact absurd rfl h
theorem good_bytes (s : ByteArray) : ∀ (f pos : Nat), s.size - pos ≤ f → bad s f pos = false → ∀ j, pos ≤ j → j < s.size → okB (byt s j) ∧ (j + 1 = s.size → byt s j ≤ 191)
  | 0, pos, hf, _, j, h1, h2 => by omega
  | f + 1, pos, hf, hb, j, h1, h2 => by
    have hp : pos < s.size := by omega
    unfold bad at hb
    rw [if_pos hp] at hb
    split at hb
    · cases hb
    · rename_i hnb
      obtain ⟨g1, g2, g3⟩ : (decP s pos).2 ≠ 0 ∧ Utf8.decode s pos = decP s pos ∧ ¬ badAt s pos := by
        rcases dec_decode s pos hp with h | h
        · exact absurd h.2 hnb
        · exact h
      rw [g2] at hb
      have hle := decP_le s pos hp
      by_cases hj : j < pos + (decP s pos).2
      · obtain ⟨k1, k2⟩ := form_bytes s pos g1 j h1 hj
        exact ⟨k1, fun e => k2 (by omega)⟩
      · exact good_bytes s f _ (by omega) hb j (by omega) h2
theorem parse_badbyte (s : ByteArray) (h40 : s.size ≤ 40) (j : Nat) (hj : j < s.size) (hb : byt s j = 192 ∨ byt s j = 193 ∨ 245 ≤ byt s j) : (parseP s).2 = 2 := by
  cases hbad : bad s s.size 0 with
  | true => unfold parseP; rw [if_neg (by omega), hbad]; rfl
  | false =>
    have := (good_bytes s s.size 0 (by omega) hbad j (by omega) hj).1
    unfold okB at this
    omega
theorem parse_badlast (s : ByteArray) (h40 : s.size ≤ 40) (h0 : 0 < s.size) (hb : 194 ≤ byt s (s.size - 1)) : (parseP s).2 = 2 := by
  cases hbad : bad s s.size 0 with
  | true => unfold parseP; rw [if_neg (by omega), hbad]; rfl
  | false =>
    have := (good_bytes s s.size 0 (by omega) hbad (s.size - 1) (by omega) (by omega)).2 (by omega)
    omega

/-! ### Forms of one byte, and the true error rune. -/
theorem dec_asc (s : ByteArray) (i : Nat) (h : byt s i < 128) : decP s i = (byt s i, 1) := by
  rw [decP_form]; unfold decG; rw [if_pos h]
theorem dec_fffd (s : ByteArray) (i : Nat) (h : i + 3 ≤ s.size) (he : s.extract i (i + 3) = ⟨#[239, 191, 189]⟩) : decP s i = (65533, 3) := by
  obtain ⟨e0, e1, e2⟩ := (extract3 s i h).1 he
  rw [decP_form]
  unfold decG
  rw [e0, e1, e2]
  have g1 : goesOn s (i + 1) = true := by unfold goesOn; rw [e1]; simp; omega
  have g2 : goesOn s (i + 2) = true := by unfold goesOn; rw [e2]; simp; omega
  rw [g1, g2]
  rfl
/-- A byte, lowered. -/
def lowN (b : Nat) : Nat := if 65 ≤ b ∧ b ≤ 90 then b + 32 else b
theorem lowN_lt (b : Nat) (h : b < 256) : lowN b < 256 := by unfold lowN; split <;> omega
theorem fold_low (b : Nat) (h : b < 128) : fold (b : Int) = if 97 ≤ lowN b ∧ lowN b ≤ 122 then (lowN b : Int) else -1 := by
  unfold fold lowN
  repeat' split
  all_goals omega
def low (s : ByteArray) : List UInt8 := s.data.toList.map fun b => UInt8.ofNat (lowN b.toNat)
theorem low_len (s : ByteArray) : (low s).length = s.size := by unfold low; simp
theorem low_at (s : ByteArray) (j : Nat) (h : j < s.size) : (low s)[j]? = some (UInt8.ofNat (lowN (byt s j))) := by
  unfold low
  rw [List.getElem?_map]
  have h1 : s.data.toList[j]? = some (UInt8.ofNat (byt s j)) := by
    have h2 : (s.data.toList.drop j)[0]? = some (UInt8.ofNat (byt s j)) := by rw [data_drop s j h]; rfl
    rwa [List.getElem?_drop, Nat.add_zero] at h2
  rw [h1]
  show some (UInt8.ofNat (lowN (UInt8.ofNat (byt s j)).toNat)) = _
  rw [UInt8.toNat_ofNat_of_lt' (byt_lt s j)]
theorem byt_low (s : ByteArray) (j : Nat) (h : j < s.size) : byt (str (low s)) j = lowN (byt s j) := by
  rw [byt_str _ _ (by rw [low_len]; exact h)]
  have h1 := low_at s j h
  rw [List.getElem?_eq_getElem (by rw [low_len]; exact h)] at h1
  have h2 : (low s)[j]'(by rw [low_len]; exact h) = UInt8.ofNat (lowN (byt s j)) := by simpa using h1
  rw [h2, UInt8.toNat_ofNat_of_lt' (lowN_lt _ (byt_lt s j))]
/-- The walk's next state at a form that is known. -/
theorem ps_step (s : ByteArray) (k : Nat) (c wd : Nat) (h : decP s (psAt s k).i = (c, wd)) : (psAt s (k + 1)).i = (psAt s k).i + wd ∧ (psAt s (k + 1)).e = if fold (c : Int) < 0 then 4 else (psAt s k).e := by
  rw [ps_i, ps_next_e, h]
  exact ⟨rfl, rfl⟩

/-! ### A text cut into letters' forms is a word's text. -/
theorem lowN_high {b x : Nat} (h : lowN b = x) (hx : 128 ≤ x) : b = x := by
  unfold lowN at h; split at h <;> omega
theorem piece_list (s : ByteArray) (i n : Nat) : ((str (low s)).extract i (i + n)).data.toList = ((low s).drop i).take n := by
  rw [str_extract, Nat.add_sub_cancel_left]; rfl
theorem take1 (L : List UInt8) (i : Nat) (a : UInt8) (h : L[i]? = some a) : (L.drop i).take 1 = [a] := by
  have hl := (List.getElem?_eq_some_iff.1 h).1
  have e := (List.getElem?_eq_some_iff.1 h).2
  rw [List.drop_eq_getElem_cons hl, e]; rfl
theorem take2 (L : List UInt8) (i : Nat) (a b : UInt8) (h : L[i]? = some a) (h1 : L[i + 1]? = some b) : (L.drop i).take 2 = [a, b] := by
  have hl := (List.getElem?_eq_some_iff.1 h).1
  have e := (List.getElem?_eq_some_iff.1 h).2
  rw [List.drop_eq_getElem_cons hl, e, List.take_succ_cons, take1 L (i + 1) b h1]
theorem take3 (L : List UInt8) (i : Nat) (a b c : UInt8) (h : L[i]? = some a) (h1 : L[i + 1]? = some b) (h2 : L[i + 2]? = some c) : (L.drop i).take 3 = [a, b, c] := by
  have hl := (List.getElem?_eq_some_iff.1 h).1
  have e := (List.getElem?_eq_some_iff.1 h).2
  rw [List.drop_eq_getElem_cons hl, e, List.take_succ_cons, take2 L (i + 1) b c h1 h2]
theorem take4 (L : List UInt8) (i : Nat) (a b c d : UInt8) (h : L[i]? = some a) (h1 : L[i + 1]? = some b) (h2 : L[i + 2]? = some c) (h3 : L[i + 3]? = some d) : (L.drop i).take 4 = [a, b, c, d] := by
  have hl := (List.getElem?_eq_some_iff.1 h).1
  have e := (List.getElem?_eq_some_iff.1 h).2
  rw [List.drop_eq_getElem_cons hl, e, List.take_succ_cons, take3 L (i + 1) b c d h1 h2 h3]
theorem letter_form (s : ByteArray) (i : Nat) (hi : i + widC (byt (str (low s)) i) ≤ s.size) (hl : letterL (((low s).drop i).take (widC (byt (str (low s)) i))) = true) :
    (decP s i).2 = widC (byt (str (low s)) i) ∧ ¬ fold ((decP s i).1 : Int) < 0 := by
  have h1 := (widC_le (byt (str (low s)) i)).1
  have hlt : i < s.size := by omega
  have hb0 := byt_low s i hlt
  rw [hb0] at hi hl ⊢
  have l0 := low_at s i hlt
  have n0 := lowN_lt _ (byt_lt s i)
  have tn : ∀ x, x < 256 → (UInt8.ofNat x).toNat = x := fun x hx => UInt8.toNat_ofNat_of_lt' hx
  by_cases w4 : 240 ≤ lowN (byt s i)
  · have hw : widC (lowN (byt s i)) = 4 := by unfold widC; rw [if_pos w4]
    rw [hw] at hi hl ⊢
    have l1 := low_at s (i + 1) (by omega)
    have l2 := low_at s (i + 2) (by omega)
    have l3 := low_at s (i + 3) (by omega)
    have n1 := lowN_lt _ (byt_lt s (i + 1))
    have n2 := lowN_lt _ (byt_lt s (i + 2))
    have n3 := lowN_lt _ (byt_lt s (i + 3))
    rw [take4 _ _ _ _ _ _ l0 l1 l2 l3] at hl
    simp only [letterL, decide_eq_true_eq] at hl
    rw [tn _ n0, tn _ n1, tn _ n2, tn _ n3] at hl
    have b0 : byt s i = 240 := lowN_high hl.1 (by omega)
    have b1 : byt s (i + 1) = 144 := lowN_high hl.2.1 (by omega)
    have b2 : byt s (i + 2) = lowN (byt s (i + 2)) := lowN_high rfl (by omega)
    have b3 : byt s (i + 3) = lowN (byt s (i + 3)) := lowN_high rfl (by omega)
    rw [← b2, ← b3] at hl
    have g1 : goesOn s (i + 1) = true := by unfold goesOn; rw [b1]; simp; omega
    have g2 : goesOn s (i + 2) = true := by unfold goesOn; simp; omega
    have g3 : goesOn s (i + 3) = true := by unfold goesOn; simp; omega
    obtain ⟨c, hc⟩ : ∃ c, (((byt s i - 240) * 64 + (byt s (i + 1) - 128)) * 64 + (byt s (i + 2) - 128)) * 64 + (byt s (i + 3) - 128) = c := ⟨_, rfl⟩
    have hcr : 66600 ≤ c ∧ c ≤ 66639 := by omega
    have hd : decP s i = (c, 4) := by
      rw [decP_form]; unfold decG
      rw [if_neg (by omega), if_neg (by omega), if_neg (by omega), if_neg (by omega), g1, g2, g3, hc]
      have : wellP c 65536 = true := by unfold wellP; simp; omega
      rw [this]; rfl
    rw [hd]
    refine ⟨rfl, ?_⟩
    have := (lett_of (x := (c : Int)) (by omega)).1
    rw [this]; omega
  by_cases w3 : 224 ≤ lowN (byt s i)
  · have hw : widC (lowN (byt s i)) = 3 := by unfold widC; rw [if_neg w4, if_pos w3]
    rw [hw] at hi hl ⊢
    have l1 := low_at s (i + 1) (by omega)
    have l2 := low_at s (i + 2) (by omega)
    have n1 := lowN_lt _ (byt_lt s (i + 1))
    have n2 := lowN_lt _ (byt_lt s (i + 2))
    rw [take3 _ _ _ _ _ l0 l1 l2] at hl
    simp only [letterL, decide_eq_true_eq] at hl
    rw [tn _ n0, tn _ n1, tn _ n2] at hl
    have b0 : byt s i = 227 := lowN_high hl.1 (by omega)
    have b1 : byt s (i + 1) = lowN (byt s (i + 1)) := lowN_high rfl (by omega)
    have b2 : byt s (i + 2) = lowN (byt s (i + 2)) := lowN_high rfl (by omega)
    rw [← b1, ← b2] at hl
    have g1 : goesOn s (i + 1) = true := by unfold goesOn; simp; omega
    have g2 : goesOn s (i + 2) = true := by unfold goesOn; simp; omega
    obtain ⟨c, hc⟩ : ∃ c, ((byt s i - 224) * 64 + (byt s (i + 1) - 128)) * 64 + (byt s (i + 2) - 128) = c := ⟨_, rfl⟩
    have hcr : 12353 ≤ c ∧ c ≤ 12438 := by omega
    have hd : decP s i = (c, 3) := by
      rw [decP_form]; unfold decG
      rw [if_neg (by omega), if_neg (by omega), if_neg (by omega), if_pos (by omega), g1, g2, hc]
      have : wellP c 2048 = true := by unfold wellP; simp; omega
      rw [this]; rfl
    rw [hd]
    refine ⟨rfl, ?_⟩
    have := (lett_of (x := (c : Int)) (by omega)).1
    rw [this]; omega
  by_cases w2 : 128 ≤ lowN (byt s i)
  · have hw : widC (lowN (byt s i)) = 2 := by unfold widC; rw [if_neg w4, if_neg w3, if_pos w2]
    rw [hw] at hi hl ⊢
    have l1 := low_at s (i + 1) (by omega)
    have n1 := lowN_lt _ (byt_lt s (i + 1))
    rw [take2 _ _ _ _ l0 l1] at hl
    simp only [letterL, decide_eq_true_eq] at hl
    rw [tn _ n0, tn _ n1] at hl
    have b0 : byt s i = lowN (byt s i) := lowN_high rfl (by omega)
    have b1 : byt s (i + 1) = lowN (byt s (i + 1)) := lowN_high rfl (by omega)
    rw [← b0, ← b1] at hl
    have g1 : goesOn s (i + 1) = true := by unfold goesOn; simp; omega
    obtain ⟨c, hc⟩ : ∃ c, (byt s i - 192) * 64 + (byt s (i + 1) - 128) = c := ⟨_, rfl⟩
    have hcr : 945 ≤ c ∧ c ≤ 969 := by omega
    have hd : decP s i = (c, 2) := by
      rw [decP_form]; unfold decG
      rw [if_neg (by omega), if_neg (by omega), if_pos (by omega), g1, hc]
      have : wellP c 128 = true := by unfold wellP; simp; omega
      rw [this]; rfl
    rw [hd]
    refine ⟨rfl, ?_⟩
    have := (lett_of (x := (c : Int)) (by omega)).1
    rw [this]; omega
  · have hw : widC (lowN (byt s i)) = 1 := by unfold widC; rw [if_neg w4, if_neg w3, if_neg w2]
    rw [hw] at hi hl ⊢
    rw [take1 _ _ _ l0] at hl
    simp only [letterL, decide_eq_true_eq] at hl
    rw [tn _ n0] at hl
    have hb : byt s i < 128 := by
      have := byt_lt s i
      unfold lowN at w2; split at w2 <;> omega
    rw [dec_asc s i hb]
    refine ⟨rfl, ?_⟩
    rw [fold_low _ hb, if_pos hl]; omega

/-- The text's law over the lowered text. -/
def WordT (t : ByteArray) : Prop := Fine t 5 ∧ cutTo t 5 = t.size ∧ ∀ p, p < 5 → letterL (piece t p).data.toList = true
theorem low_size (s : ByteArray) : (str (low s)).size = s.size := by rw [str_size, low_len]
theorem wordT_walk (s : ByteArray) (h : WordT (str (low s))) : ∀ p, p ≤ 5 → Went s p ∧ (psAt s p).i = cutTo (str (low s)) p ∧ ∀ c ∈ cps s p, ¬ fold c < 0
  | 0, _ => ⟨fun j hj => absurd hj (by omega), rfl, fun c hc => by simp [cps] at hc⟩
  | p + 1, hp => by
    obtain ⟨h1, h2, h3⟩ := wordT_walk s h p (by omega)
    obtain ⟨f1, f2⟩ := h.1 p (by omega)
    rw [low_size] at f1 f2
    have hl := h.2.2 p (by omega)
    have hpl : (piece (str (low s)) p).data.toList = ((low s).drop (cutTo (str (low s)) p)).take (widC (byt (str (low s)) (cutTo (str (low s)) p))) := piece_list s _ _
    rw [hpl] at hl
    obtain ⟨k1, k2⟩ := letter_form s (cutTo (str (low s)) p) f2 hl
    have hw := (widC_le (byt (str (low s)) (cutTo (str (low s)) p))).1
    refine ⟨h1.next (by rw [h2]; exact f1) (by rw [h2, k1]; omega), ?_, ?_⟩
    · rw [ps_i, h2, k1]; rfl
    · intro c hc
      simp only [cps, List.mem_append, List.mem_singleton] at hc
      rcases hc with hc | rfl
      · exact h3 c hc
      · rw [h2]; exact k2
theorem parse_of_wordT (s : ByteArray) (h40 : s.size ≤ 40) (h : WordT (str (low s))) : (parseP s).2 = 0 := by
  obtain ⟨h1, h2, h3⟩ := wordT_walk s h 5 (by omega)
  have hend : ¬ (psAt s 5).i < s.size := by
    have := h.2.1
    rw [low_size] at this
    omega
  have he : (psAt s 5).e = 0 := by
    rw [ps_bad, if_neg]
    intro hx
    obtain ⟨c, hc, hf⟩ := List.any_eq_true.1 hx
    exact h3 c hc (by simpa using hf)
  exact congrArg Prod.snd ((parse_end s 5 h40 h1 hend).2.2 rfl he).1

/-! ### And back. -/
theorem walk_ends (s : ByteArray) (hb : bad s s.size 0 = false) : ∀ m, ∃ k, Went s k ∧ (¬ (psAt s k).i < s.size ∨ m ≤ k)
  | 0 => ⟨0, fun j hj => absurd hj (by omega), .inr (Nat.le_refl _)⟩
  | m + 1 => by
    obtain ⟨k, h1, h2⟩ := walk_ends s hb m
    by_cases hk : m + 1 ≤ k
    · exact ⟨k, h1, .inr hk⟩
    · by_cases hlt : (psAt s k).i < s.size
      · have hz : (decP s (psAt s k).i).2 ≠ 0 := fun e => by
          have := went_bad s k h1 hlt e
          rw [hb] at this; cases this
        rcases h2 with h2 | h2
        · exact absurd hlt h2
        · exact ⟨k + 1, h1.next hlt hz, .inr (by omega)⟩
      · exact ⟨k, h1, .inl hlt⟩
theorem parse_ok_walk (s : ByteArray) (h : (parseP s).2 = 0) : s.size ≤ 40 ∧ Went s 5 ∧ ¬ (psAt s 5).i < s.size ∧ (∀ c ∈ cps s 5, ¬ fold c < 0) ∧ (psAt s 5).e = 0 := by
  unfold parseP at h
  split at h
  · exact absurd h (by decide)
  rename_i h40
  split at h
  · exact absurd h (by decide)
  rename_i hb
  split at h
  · exact absurd h (by decide)
  rename_i h5
  split at h
  · exact absurd h (by decide)
  rename_i hf
  have hb : bad s s.size 0 = false := by simpa using hb
  obtain ⟨k, h1, h2⟩ := walk_ends s hb (s.size + 1)
  have hw := went_law s k h1
  have h3 : ¬ (psAt s k).i < s.size := by
    rcases h2 with h2 | h2
    · exact h2
    · omega
  obtain ⟨_, hr⟩ := went_end s k h1 h3
  have hk : k = 5 := by
    have := cps_len s k
    rw [← hr] at this
    omega
  subst hk
  have hc : ∀ c ∈ cps s 5, ¬ fold c < 0 := by
    intro c hc hx
    rw [hr] at hf
    exact hf (List.any_eq_true.2 ⟨c, hc, by simpa using hx⟩)
  refine ⟨by omega, h1, h3, hc, ?_⟩
  rw [ps_bad, if_neg]
  intro hx
  obtain ⟨c, hcm, hf2⟩ := List.any_eq_true.1 hx
  exact hc c hcm (by simpa using hf2)
theorem dec_big (s : ByteArray) (i : Nat) (h : 128 ≤ byt s i) (h0 : (decP s i).2 ≠ 0) : 128 ≤ (decP s i).1 := by
  revert h0
  rw [decP_form]
  unfold decG
  rw [if_neg (by omega)]
  repeat' split
  all_goals (intro h0; first | exact absurd rfl h0 | skip)
  all_goals
    rename_i hw
    simp only [Bool.and_eq_true] at hw
    have hw2 := hw.2
    unfold wellP at hw2
    simp at hw2
    dsimp only
    omega
theorem newB_low (s : ByteArray) (i : Nat) (h0 : (decP s i).2 ≠ 0) (hf : ¬ fold ((decP s i).1 : Int) < 0) : newB s i = UInt8.ofNat (lowN (byt s i)) := by
  unfold newB
  by_cases hb : byt s i < 128
  · rw [dec_asc s i hb] at hf ⊢
    dsimp only at hf ⊢
    rw [fold_low _ hb] at hf ⊢
    split at hf
    · rename_i hr
      rw [if_pos hr]
      congr 1
      have : byt s i ≤ lowN (byt s i) := by unfold lowN; split <;> omega
      omega
    · omega
  · have hbig := dec_big s i (by omega) h0
    have he : fold ((decP s i).1 : Int) = (decP s i).1 := fold_id (by omega) hf
    rw [he]
    have : lowN (byt s i) = byt s i := by unfold lowN; rw [if_neg (by omega)]
    rw [this]
    congr 1
    omega
theorem low_high (x : Nat) (h1 : 128 ≤ x) (h2 : x < 256) : UInt8.ofNat (lowN (UInt8.ofNat x).toNat) = UInt8.ofNat x := by
  rw [UInt8.toNat_ofNat_of_lt' h2]
  unfold lowN
  rw [if_neg (by omega)]
theorem low_tail {x : Int} (h : Lett x) : ((encL x).drop 1).map (fun b => UInt8.ofNat (lowN b.toNat)) = (encL x).drop 1 := by
  obtain ⟨c, rfl, hc⟩ := encL_cases h
  rcases hc with ⟨a1, a2, ea⟩ | ⟨a1, a2, ea⟩ | ⟨a1, a2, ea⟩ | ⟨a1, a2, ea⟩
  all_goals
    rw [ea]
    simp only [List.drop_succ_cons, List.drop_zero, List.map_cons, List.map_nil, List.map_drop]
  · rw [low_high _ (by omega) (by omega)]
  · rw [low_high _ (by omega) (by omega), low_high _ (by omega) (by omega)]
  · rw [low_high _ (by omega) (by omega), low_high _ (by omega) (by omega), low_high _ (by omega) (by omega)]
theorem low_step (s : ByteArray) (i : Nat) (h5 : i < s.size) (h6 : (decP s i).2 ≠ 0) (hf : ¬ fold ((decP s i).1 : Int) < 0) : ((low s).take i ++ s.data.toList.drop i).set i (newB s i) = (low s).take (i + (decP s i).2) ++ s.data.toList.drop (i + (decP s i).2) := by
  obtain ⟨a1, a2, a3, a4, a5, a6⟩ := enc_letter s i h5 h6 hf
  have hlt : i < (low s).length := by rw [low_len]; exact h5
  have hL : Lett (fold ((decP s i).1 : Int)) := lett_fold hf
  have hnb := newB_low s i h6 hf
  have htl := low_tail hL
  rw [encL_def] at htl
  obtain ⟨E, hE⟩ : ∃ E, (Utf8.encode (fold ((decP s i).1 : Int))).data.toList = E := ⟨_, rfl⟩
  rw [hE] at a1 a2 a3 htl
  obtain ⟨wd, hwd⟩ : ∃ wd, (decP s i).2 = wd := ⟨_, rfl⟩
  rw [hwd] at a1 a3 ⊢
  obtain ⟨b0, hb0⟩ : ∃ b, byt s i = b := ⟨_, rfl⟩
  have hb256 := byt_lt s i
  rw [hb0] at a1 hnb hb256
  obtain ⟨nb, hnb2⟩ : ∃ b, newB s i = b := ⟨_, rfl⟩
  rw [hnb2] at a2 hnb ⊢
  clear hE a4 a5 a6 hL hf h6 hb0 hnb2 hwd h5
  have hdrop : (low s).drop i = UInt8.ofNat (lowN b0) :: (E.drop 1 ++ (low s).drop (i + wd)) := by
    have e1 : (low s).drop i = (s.data.toList.drop i).map (fun b => UInt8.ofNat (lowN b.toNat)) := by unfold low; rw [List.map_drop]
    have e2 : (low s).drop (i + wd) = (s.data.toList.drop (i + wd)).map (fun b => UInt8.ofNat (lowN b.toNat)) := by unfold low; rw [List.map_drop]
    rw [e1, a1, e2]
    simp only [List.map_cons, List.map_append]
    rw [UInt8.toNat_ofNat_of_lt' hb256, htl]
  have hrow : UInt8.ofNat (lowN b0) :: (E.drop 1 ++ (low s).drop (i + wd)) = E ++ (low s).drop (i + wd) := by
    rw [← hnb]
    conv => rhs; rw [a2]
    rfl
  have htake : (low s).take (i + wd) = (low s).take i ++ E := by
    have e3 : (low s).take (i + wd) = (low s).take i ++ ((low s).drop i).take wd := List.take_add
    rw [e3, hdrop, hrow, ← a3, List.take_left]
  have hl : ((low s).take i).length = i := by rw [List.length_take]; omega
  rw [htake, List.append_assoc, List.set_append_right _ _ (by omega), hl, Nat.sub_self, a1, List.set_cons_zero]
  congr 1
  conv => rhs; rw [a2]
  rfl
theorem ps_low (s : ByteArray) : ∀ k, k ≤ 5 → Went s k → (∀ c ∈ cps s k, ¬ fold c < 0) → (psAt s k).b = (low s).take (psAt s k).i ++ s.data.toList.drop (psAt s k).i
  | 0, _, _, _ => rfl
  | k + 1, hk, h, hc => by
    have ih := ps_low s k (by omega) h.pred (fun c hx => hc c (by simp [cps, hx]))
    obtain ⟨h5, h6⟩ := h k (by omega)
    have hf : ¬ fold ((decP s (psAt s k).i).1 : Int) < 0 := hc _ (by simp [cps])
    have hb : (psAt s (k + 1)).b = (psAt s k).b.set (psAt s k).i (newB s (psAt s k).i) := by
      show (psStep s k (psAt s k)).b = _
      unfold psStep
      rw [if_neg hf, if_pos (by omega)]
    rw [ps_i, hb, ih]
    exact low_step s _ h5 h6 hf
theorem parse_LW (s : ByteArray) (h : (parseP s).2 = 0) : LW (parseP s).1 := by
  refine ⟨parseP_five s, ?_⟩
  revert h
  unfold parseP
  split
  · intro h; exact absurd h (by decide)
  split
  · intro h; exact absurd h (by decide)
  split
  · intro h; exact absurd h (by decide)
  split
  · intro h; exact absurd h (by decide)
  · rename_i hn
    intro _ x hx
    obtain ⟨r, hr, rfl⟩ := List.mem_map.1 hx
    exact lett_fold (fun h => hn (List.any_eq_true.2 ⟨r, hr, by simpa using h⟩))
/-- The printed form is the text, lowered. -/
theorem parse_low (s : ByteArray) (h : (parseP s).2 = 0) : txt (parseP s).1 = low s := by
  obtain ⟨h40, h1, h2, h3, h4⟩ := parse_ok_walk s h
  obtain ⟨e1, e2⟩ := (parse_end s 5 h40 h1 h2).2.2 rfl h4
  rw [e1, ← e2, ps_low s 5 (by omega) h1 h3]
  have hi : (psAt s 5).i = s.size := by have := (went_law s 5 h1).2.1; omega
  rw [hi]
  have t1 : (low s).take s.size = low s := List.take_of_length_le (by rw [low_len]; exact Nat.le_refl _)
  have t2 : s.data.toList.drop s.size = [] := List.drop_eq_nil_of_le (by simp)
  rw [t1, t2, List.append_nil]
theorem letter_enc {x : Int} (h : Lett x) : letterL (encL x) = true := by
  obtain ⟨c, rfl, hc⟩ := encL_cases h
  have tn : ∀ x, x < 256 → (UInt8.ofNat x).toNat = x := fun x hx => UInt8.toNat_ofNat_of_lt' hx
  rcases hc with ⟨a1, a2, ea⟩ | ⟨a1, a2, ea⟩ | ⟨a1, a2, ea⟩ | ⟨a1, a2, ea⟩
  · rw [ea]
    simp only [letterL, decide_eq_true_eq]
    rw [tn _ (by omega)]; omega
  · rw [ea]
    simp only [letterL, decide_eq_true_eq]
    rw [tn _ (by omega), tn _ (by omega)]; omega
  · rw [ea]
    simp only [letterL, decide_eq_true_eq]
    rw [tn _ (by omega), tn _ (by omega), tn _ (by omega)]; omega
  · rw [ea]
    simp only [letterL, decide_eq_true_eq]
    rw [tn _ (by omega), tn _ (by omega), tn _ (by omega), tn _ (by omega)]; omega
theorem LW.wordT {l : List Int} (h : LW l) : WordT (str (txt l)) := by
  refine ⟨h.fine.1, h.fine.2, fun p hp => ?_⟩
  rw [h.piece p hp]
  exact letter_enc (h.2 _ (fw_mem h.1 p hp))
/-- A text is a word's exactly when its lowered form is cut into letters. -/
theorem word_law (s : ByteArray) (h40 : s.size ≤ 40) : (parseP s).2 = 0 ↔ WordT (str (low s)) := by
  constructor
  · intro h
    rw [← parse_low s h]
    exact (parse_LW s h).wordT
  · exact parse_of_wordT s h40
theorem low_enc {x : Int} (h : Lett x) : (encL x).map (fun b => UInt8.ofNat (lowN b.toNat)) = encL x := by
  obtain ⟨c, rfl, hc⟩ := encL_cases h
  have lo : ∀ x, x < 256 → ¬ (65 ≤ x ∧ x ≤ 90) → UInt8.ofNat (lowN (UInt8.ofNat x).toNat) = UInt8.ofNat x := fun x h1 h2 => by
    rw [UInt8.toNat_ofNat_of_lt' h1]; unfold lowN; rw [if_neg h2]
  rcases hc with ⟨a1, a2, ea⟩ | ⟨a1, a2, ea⟩ | ⟨a1, a2, ea⟩ | ⟨a1, a2, ea⟩
  · rw [ea]; simp only [List.map_cons, List.map_nil]
    rw [lo _ (by omega) (by omega)]
  · rw [ea]; simp only [List.map_cons, List.map_nil]
    rw [lo _ (by omega) (by omega), lo _ (by omega) (by omega)]
  · rw [ea]; simp only [List.map_cons, List.map_nil]
    rw [lo _ (by omega) (by omega), lo _ (by omega) (by omega), lo _ (by omega) (by omega)]
  · rw [ea]; simp only [List.map_cons, List.map_nil]
    rw [lo _ (by omega) (by omega), lo _ (by omega) (by omega), lo _ (by omega) (by omega), lo _ (by omega) (by omega)]
theorem low_txt {l : List Int} (h : LW l) : low (str (txt l)) = txt l := by
  show (txt l).map (fun b => UInt8.ofNat (lowN b.toNat)) = txt l
  rw [txt_chunks h.1, List.map_flatten, List.map_map]
  congr 1
  exact List.map_congr_left (fun x hx => low_enc (h.2 x hx))
theorem txt_inj {a b : List Int} (ha : LW a) (hb : LW b) (h : txt a = txt b) : a = b := by
  have key : ∀ p, p < 5 → fw a p = fw b p := fun p hp => by
    have h1 := ha.piece p hp
    have h2 := hb.piece p hp
    rw [h] at h1
    have h3 := congrArg ByteArray.toList (h1.symm.trans h2)
    rw [str_toList, str_toList] at h3
    exact encL_inj (ha.2 _ (fw_mem ha.1 p hp)) (hb.2 _ (fw_mem hb.1 p hp)) h3
  rw [← five_fw a ha.1, ← five_fw b hb.1, key 0 (by omega), key 1 (by omega), key 2 (by omega), key 3 (by omega), key 4 (by omega)]
/-- A word's printed form is itself a word's text, and parses back to the same word. -/
theorem parse_again {l : List Int} (h : LW l) : parseP (str (txt l)) = (l, 0) := by
  have h40 : (str (txt l)).size ≤ 40 := by have := txt_size h.1; omega
  have h0 : (parseP (str (txt l))).2 = 0 := by
    rw [word_law _ h40, low_txt h]; exact h.wordT
  have h1 : (parseP (str (txt l))).1 = l := txt_inj (parse_LW _ h0) h (by rw [parse_low _ h0, low_txt h])
  exact Prod.ext h1 h0
end Go.Proofs.Qxb6500370a
