/-
  THE MODEL'S PARSE, PLAINLY: it answers what the real one answers.
-/
import Derived.Test.Qxb6500370aShow
import Derived.Test.Qxb6500370aDec
namespace Go.Proofs.Qxb6500370a
open Go.RowKit Go.Qx Go.Qx.Mk
set_option linter.unusedVariables false
set_option linter.unusedSimpArgs false

/-- The loop's state: the place, the letters, the bytes, the error. -/
structure PS where
  i : Nat
  r : List Int
  b : List UInt8
  e : Int
/-- The letter's first byte, folded. -/
def newB (s : ByteArray) (i : Nat) : UInt8 := UInt8.ofNat (byt s i + (fold (decP s i).1 - (decP s i).1).toNat)
def psStep (s : ByteArray) (k : Nat) (p : PS) : PS :=
  if fold (decP s p.i).1 < 0 then ⟨p.i + (decP s p.i).2, p.r, p.b, 4⟩
  else if k < 5 then ⟨p.i + (decP s p.i).2, p.r.set k (fold (decP s p.i).1), p.b.set p.i (newB s p.i), p.e⟩
  else ⟨p.i + (decP s p.i).2, p.r, p.b, p.e⟩
def psAt (s : ByteArray) : Nat → PS
  | 0 => ⟨0, [0, 0, 0, 0, 0], s.data.toList, 0⟩
  | k + 1 => psStep s k (psAt s k)
/-- The first k code points are well. -/
def Went (s : ByteArray) (k : Nat) : Prop := ∀ j, j < k → (psAt s j).i < s.size ∧ (decP s (psAt s j).i).2 ≠ 0
def cps (s : ByteArray) : Nat → List Int
  | 0 => []
  | k + 1 => cps s k ++ [((decP s (psAt s k).i).1 : Int)]

theorem ps_i (s : ByteArray) (k : Nat) : (psAt s (k + 1)).i = (psAt s k).i + (decP s (psAt s k).i).2 := by
  show (psStep s k (psAt s k)).i = _
  unfold psStep
  repeat' split
  all_goals rfl
theorem Went.pred {s : ByteArray} {k : Nat} (h : Went s (k + 1)) : Went s k := fun j hj => h j (by omega)
theorem cps_len (s : ByteArray) : ∀ k, (cps s k).length = k
  | 0 => rfl
  | k + 1 => by simp [cps, cps_len s k]

theorem decP_le (s : ByteArray) (i : Nat) (h : i < s.size) : i + (decP s i).2 ≤ s.size := by
  rw [decP_form]
  unfold decG
  split
  · exact h
  split
  · exact Nat.le_of_lt h
  split
  · split
    · rename_i hc
      simp only [Bool.and_eq_true] at hc
      have := goesOn_lt hc.1
      show i + 2 ≤ _; omega
    · exact Nat.le_of_lt h
  split
  · split
    · rename_i hc
      simp only [Bool.and_eq_true] at hc
      have := goesOn_lt hc.1.2
      show i + 3 ≤ _; omega
    · exact Nat.le_of_lt h
  · split
    · rename_i hc
      simp only [Bool.and_eq_true] at hc
      have := goesOn_lt hc.1.2
      show i + 4 ≤ _; omega
    · exact Nat.le_of_lt h
theorem decP_w4 (s : ByteArray) (i : Nat) : (decP s i).2 ≤ 4 := by
  rw [decP_form]
  unfold decG
  repeat' split
  all_goals simp

theorem went_law (s : ByteArray) : ∀ k, Went s k → k ≤ (psAt s k).i ∧ (psAt s k).i ≤ s.size ∧ bad s s.size 0 = bad s (s.size - k) (psAt s k).i ∧ runes s s.size 0 = cps s k ++ runes s (s.size - k) (psAt s k).i
  | 0, _ => ⟨Nat.le_refl _, Nat.zero_le _, rfl, rfl⟩
  | k + 1, h => by
    obtain ⟨h1, h2, h3, h4⟩ := went_law s k h.pred
    obtain ⟨h5, h6⟩ := h k (by omega)
    have h7 := decP_le s _ h5
    rw [ps_i]
    obtain ⟨h8, h9, h10⟩ : (decP s (psAt s k).i).2 ≠ 0 ∧ Utf8.decode s (psAt s k).i = decP s (psAt s k).i ∧ ¬ badAt s (psAt s k).i := by
      rcases dec_decode s _ h5 with h | h
      · exact absurd h.1 h6
      · exact h
    obtain ⟨f, hf⟩ : ∃ f, s.size - k = f + 1 := ⟨s.size - k - 1, by omega⟩
    have hf2 : s.size - (k + 1) = f := by omega
    refine ⟨by omega, h7, ?_, ?_⟩
    · rw [h3, hf, hf2]
      rw [show bad s (f + 1) (psAt s k).i = (if (psAt s k).i < s.size then
        (if (Utf8.decode s (psAt s k).i).1 = 65533 ∧ (s.size < (psAt s k).i + 3 ∨ s.extract (psAt s k).i ((psAt s k).i + 3) ≠ ⟨#[239, 191, 189]⟩) then true else bad s f ((psAt s k).i + (Utf8.decode s (psAt s k).i).2)) else false) from rfl]
      rw [if_pos h5, if_neg (by unfold badAt at h10; exact h10), h9]
    · rw [h4, hf, hf2]
      rw [show runes s (f + 1) (psAt s k).i = ((Utf8.decode s (psAt s k).i).1 : Int) :: runes s f ((psAt s k).i + (Utf8.decode s (psAt s k).i).2) by rw [runes, if_pos h5], h9]
      simp [cps]
/-- The walk stops at a bad form. -/
theorem went_bad (s : ByteArray) (k : Nat) (h : Went s k) (h1 : (psAt s k).i < s.size) (h2 : (decP s (psAt s k).i).2 = 0) : bad s s.size 0 = true := by
  obtain ⟨h3, h4, h5, h6⟩ := went_law s k h
  rw [h5]
  obtain ⟨f, hf⟩ : ∃ f, s.size - k = f + 1 := ⟨s.size - k - 1, by omega⟩
  rw [hf]
  unfold bad
  rw [if_pos h1, if_pos]
  rcases dec_decode s _ h1 with h | h
  · exact h.2
  · exact absurd h2 h.1
/-- The walk came to the end. -/
theorem went_end (s : ByteArray) (k : Nat) (h : Went s k) (h1 : ¬ (psAt s k).i < s.size) : bad s s.size 0 = false ∧ runes s s.size 0 = cps s k := by
  obtain ⟨h3, h4, h5, h6⟩ := went_law s k h
  refine ⟨by rw [h5]; exact bad_end _ _ _ h1, ?_⟩
  rw [h6]
  have : runes s (s.size - k) (psAt s k).i = [] := by
    cases s.size - k with
    | zero => rfl
    | succ f => rw [runes, if_neg h1]
  rw [this, List.append_nil]

/-! ### The printed form. -/
theorem txt_snoc (l : List Int) (x : Int) : txt (l ++ [x]) = txt l ++ (Utf8.encode x).data.toList := by
  unfold txt runesBytes
  rw [List.foldl_append]
  simp
theorem data_drop (s : ByteArray) (i : Nat) (h : i < s.size) : s.data.toList.drop i = UInt8.ofNat (byt s i) :: s.data.toList.drop (i + 1) := by
  have hl : i < s.data.toList.length := by simpa using h
  rw [List.drop_eq_getElem_cons hl]
  congr 1
  unfold byt
  rw [UInt8.ofNat_toNat]
  show _ = s.data[i]!
  rw [getElem!_pos s.data i h]
  simp

theorem enc_valid (c : Nat) (h : c < 55296 ∨ (57344 ≤ c ∧ c ≤ 1114111)) : Utf8.valid (c : Int) = true := by
  rw [valid_iff]; simp; omega
theorem enc1 (c : Nat) (h : c < 128) : (Utf8.encode (c : Int)).data.toList = [UInt8.ofNat c] := by
  have v := enc_valid c (by omega)
  simp [Utf8.encode, v, h]
theorem enc2 (c : Nat) (h1 : 128 ≤ c) (h : c < 2048) : (Utf8.encode (c : Int)).data.toList = [UInt8.ofNat (192 + c / 64), UInt8.ofNat (128 + c % 64)] := by
  have v := enc_valid c (by omega)
  have c1 : ¬ c < 128 := by omega
  simp [Utf8.encode, v, c1, h]
theorem enc3 (c : Nat) (h1 : 2048 ≤ c) (h : c < 65536) (hv : c < 55296 ∨ 57344 ≤ c) : (Utf8.encode (c : Int)).data.toList = [UInt8.ofNat (224 + c / 4096), UInt8.ofNat (128 + c / 64 % 64), UInt8.ofNat (128 + c % 64)] := by
  have v := enc_valid c (by omega)
  have c1 : ¬ c < 128 := by omega
  have c2 : ¬ c < 2048 := by omega
  simp [Utf8.encode, v, c1, c2, h]
theorem enc4 (c : Nat) (h1 : 65536 ≤ c) (h : c ≤ 1114111) : (Utf8.encode (c : Int)).data.toList = [UInt8.ofNat (240 + c / 262144), UInt8.ofNat (128 + c / 4096 % 64), UInt8.ofNat (128 + c / 64 % 64), UInt8.ofNat (128 + c % 64)] := by
  have v := enc_valid c (by omega)
  have c1 : ¬ c < 128 := by omega
  have c2 : ¬ c < 2048 := by omega
  have c3 : ¬ c < 65536 := by omega
  simp [Utf8.encode, v, c1, c2, c3]
theorem fold_id {c : Int} (h : 90 < c) (h0 : ¬ fold c < 0) : fold c = c := by
  unfold fold at *
  repeat' split
  all_goals first | omega | (exfalso; revert h0; repeat' split) <;> omega
theorem enc_letter (s : ByteArray) (i : Nat) (h : i < s.size) (h0 : (decP s i).2 ≠ 0) (hf : ¬ fold (decP s i).1 < 0) :
    s.data.toList.drop i = UInt8.ofNat (byt s i) :: ((Utf8.encode (fold (decP s i).1)).data.toList.drop 1 ++ s.data.toList.drop (i + (decP s i).2)) ∧ (Utf8.encode (fold (decP s i).1)).data.toList = newB s i :: (Utf8.encode (fold (decP s i).1)).data.toList.drop 1 ∧ (Utf8.encode (fold (decP s i).1)).data.toList.length = (decP s i).2 ∧ byt s i + (fold (decP s i).1 - (decP s i).1).toNat < 256 ∧ 0 ≤ fold (decP s i).1 - (decP s i).1 ∧ fold (decP s i).1 - (decP s i).1 ≤ 32 := by
  have hd := data_drop s i h
  have hb := byt_lt s i
  unfold newB
  revert h0 hf
  rw [decP_form]
  unfold decG
  by_cases c1 : byt s i < 128
  · rw [if_pos c1]
    intro h0 hf
    dsimp only at *
    have hb1 : fold (byt s i) = byt s i ∨ (fold (byt s i) = byt s i + 32 ∧ byt s i ≤ 90) := by
      by_cases h90 : (90 : Int) < byt s i
      · exact .inl (fold_id h90 hf)
      · unfold fold at *
        revert hf
        repeat' split
        all_goals omega
    obtain ⟨m, hm, hm2⟩ : ∃ m : Nat, fold (byt s i) = (m : Int) ∧ m < 128 := ⟨(fold (byt s i)).toNat, by omega, by omega⟩
    have he := enc1 m hm2
    rw [hm, he]
    refine ⟨by rw [hd]; simp, ?_, rfl, by omega, by omega, by omega⟩
    have : byt s i + ((m : Int) - (byt s i : Int)).toNat = m := by omega
    rw [this]; simp
  · rw [if_neg c1]
    by_cases c2 : byt s i < 192
    · rw [if_pos c2]; intro h0; exact absurd rfl h0
    rw [if_neg c2]
    by_cases c3 : byt s i < 224
    · rw [if_pos c3]
      by_cases hw : (goesOn s (i + 1) && wellP ((byt s i - 192) * 64 + (byt s (i + 1) - 128)) 128) = true
      · rw [if_pos hw]
        intro h0 hf
        dsimp only at *
        simp only [Bool.and_eq_true] at hw
        obtain ⟨hg1, hw2⟩ := hw
        have l1 := goesOn_lt hg1
        have r1 := goesOn_spec hg1
        obtain ⟨c, hc⟩ : ∃ c, (byt s i - 192) * 64 + (byt s (i + 1) - 128) = c := ⟨_, rfl⟩
        rw [hc] at hw2 hf ⊢
        unfold wellP at hw2
        simp at hw2
        have hfc : fold (c : Int) = c := fold_id (by omega) hf
        have he := enc2 c (by omega) (by omega)
        rw [hfc, he, hd, data_drop s (i + 1) l1]
        have e0 : 192 + c / 64 = byt s i := by omega
        have e1 : 128 + c % 64 = byt s (i + 1) := by omega
        rw [e0, e1]
        exact ⟨by simp, by simp, rfl, by simp; omega, by omega, by omega⟩
      · rw [if_neg hw]; intro h0; exact absurd rfl h0
    rw [if_neg c3]
    by_cases c4 : byt s i < 240
    · rw [if_pos c4]
      by_cases hw : (goesOn s (i + 1) && goesOn s (i + 2) && wellP (((byt s i - 224) * 64 + (byt s (i + 1) - 128)) * 64 + (byt s (i + 2) - 128)) 2048) = true
      · rw [if_pos hw]
        intro h0 hf
        dsimp only at *
        simp only [Bool.and_eq_true] at hw
        obtain ⟨⟨hg1, hg2⟩, hw2⟩ := hw
        have l1 := goesOn_lt hg1
        have r1 := goesOn_spec hg1
        have l2 := goesOn_lt hg2
        have r2 := goesOn_spec hg2
        obtain ⟨c, hc⟩ : ∃ c, ((byt s i - 224) * 64 + (byt s (i + 1) - 128)) * 64 + (byt s (i + 2) - 128) = c := ⟨_, rfl⟩
        rw [hc] at hw2 hf ⊢
        unfold wellP at hw2
        simp at hw2
        have hfc : fold (c : Int) = c := fold_id (by omega) hf
        have he := enc3 c (by omega) (by omega) (by omega)
        rw [hfc, he, hd, data_drop s (i + 1) l1, data_drop s (i + 2) l2]
        have e0 : 224 + c / 4096 = byt s i := by omega
        have e1 : 128 + c / 64 % 64 = byt s (i + 1) := by omega
        have e2 : 128 + c % 64 = byt s (i + 2) := by omega
        rw [e0, e1, e2]
        exact ⟨by simp, by simp, rfl, by simp; omega, by omega, by omega⟩
      · rw [if_neg hw]; intro h0; exact absurd rfl h0
    · rw [if_neg c4]
      by_cases hw : (goesOn s (i + 1) && goesOn s (i + 2) && goesOn s (i + 3) && wellP ((((byt s i - 240) * 64 + (byt s (i + 1) - 128)) * 64 + (byt s (i + 2) - 128)) * 64 + (byt s (i + 3) - 128)) 65536) = true
      · rw [if_pos hw]
        intro h0 hf
        dsimp only at *
        simp only [Bool.and_eq_true] at hw
        obtain ⟨⟨⟨hg1, hg2⟩, hg3⟩, hw2⟩ := hw
        have l1 := goesOn_lt hg1
        have r1 := goesOn_spec hg1
        have l2 := goesOn_lt hg2
        have r2 := goesOn_spec hg2
        have l3 := goesOn_lt hg3
        have r3 := goesOn_spec hg3
        obtain ⟨c, hc⟩ : ∃ c, (((byt s i - 240) * 64 + (byt s (i + 1) - 128)) * 64 + (byt s (i + 2) - 128)) * 64 + (byt s (i + 3) - 128) = c := ⟨_, rfl⟩
        rw [hc] at hw2 hf ⊢
        unfold wellP at hw2
        simp at hw2
        have hfc : fold (c : Int) = c := fold_id (by omega) hf
        have he := enc4 c (by omega) (by omega)
        rw [hfc, he, hd, data_drop s (i + 1) l1, data_drop s (i + 2) l2, data_drop s (i + 3) l3]
        have e0 : 240 + c / 262144 = byt s i := by omega
        have e1 : 128 + c / 4096 % 64 = byt s (i + 1) := by omega
        have e2 : 128 + c / 64 % 64 = byt s (i + 2) := by omega
        have e3 : 128 + c % 64 = byt s (i + 3) := by omega
        rw [e0, e1, e2, e3]
        exact ⟨by simp, by simp, rfl, by simp; omega, by omega, by omega⟩
      · rw [if_neg hw]; intro h0; exact absurd rfl h0

/-- The state while every code point was a letter. -/
theorem ps_good (s : ByteArray) : ∀ k, k ≤ 5 → Went s k → (∀ c ∈ cps s k, ¬ fold c < 0) → (psAt s k).b = txt ((cps s k).map fold) ++ s.data.toList.drop (psAt s k).i ∧ (psAt s k).r = (cps s k).map fold ++ List.replicate (5 - k) 0 ∧ (psAt s k).e = 0 ∧ (txt ((cps s k).map fold)).length = (psAt s k).i
  | 0, _, _, _ => ⟨rfl, rfl, rfl, rfl⟩
  | k + 1, hk, h, hc => by
    obtain ⟨h1, h2, h3, h4⟩ := ps_good s k (by omega) h.pred (fun c hx => hc c (by simp [cps, hx]))
    obtain ⟨h5, h6⟩ := h k (by omega)
    have hf : ¬ fold ((decP s (psAt s k).i).1 : Int) < 0 := hc _ (by simp [cps])
    obtain ⟨a1, a2, a3, a4, a5, a6⟩ := enc_letter s _ h5 h6 hf
    rw [ps_i]
    show (psStep s k (psAt s k)).b = _ ∧ (psStep s k (psAt s k)).r = _ ∧ (psStep s k (psAt s k)).e = _ ∧ _
    unfold psStep
    rw [if_neg hf, if_pos (by omega)]
    simp only [cps, List.map_append, List.map_cons, List.map_nil, txt_snoc]
    refine ⟨?_, ?_, h3, ?_⟩
    · rw [h1, List.set_append_right _ _ (by omega), h4, Nat.sub_self, a1, List.set_cons_zero, List.append_assoc]
      congr 1
      rw [a2]
      simp
    · rw [h2, List.set_append_right _ _ (by simp [cps_len])]
      have e0 : 5 - k = (5 - (k + 1)) + 1 := by omega
      rw [e0, List.replicate_succ]
      have : k - ((cps s k).map fold).length = 0 := by simp [cps_len]
      rw [this]
      simp
    · rw [List.length_append, h4, a3]
theorem ps_bad (s : ByteArray) : ∀ k, (psAt s k).e = if (cps s k).any (fun c => decide (fold c < 0)) then 4 else 0
  | 0 => rfl
  | k + 1 => by
    have ih := ps_bad s k
    show (psStep s k (psAt s k)).e = _
    unfold psStep
    simp only [cps, List.any_append, List.any_cons, List.any_nil, Bool.or_false]
    by_cases h : fold ((decP s (psAt s k).i).1 : Int) < 0
    · rw [if_pos h]; simp [h]
    · rw [if_neg h]
      simp only [h, decide_false, Bool.or_false]
      split <;> exact ih

/-- The model's answer out of the walk's end. -/
theorem parse_end (s : ByteArray) (k : Nat) (h40 : s.size ≤ 40) (h : Went s k) (h1 : ¬ (psAt s k).i < s.size) :
    (k ≠ 5 → parseP s = (zeros, 3)) ∧ (k = 5 → (psAt s k).e ≠ 0 → parseP s = (zeros, (psAt s k).e)) ∧ (k = 5 → (psAt s k).e = 0 → parseP s = ((psAt s k).r, 0) ∧ (psAt s k).b = txt (psAt s k).r) := by
  obtain ⟨h2, h3⟩ := went_end s k h h1
  have hl := cps_len s k
  have he := ps_bad s k
  unfold parseP
  rw [if_neg (by omega), h2, h3, hl, if_neg (by simp)]
  refine ⟨fun h5 => by rw [if_pos h5], fun h5 h6 => ?_, fun h5 h6 => ?_⟩
  · rw [if_neg (by omega)]
    rw [he] at h6 ⊢
    split at h6
    · rename_i hx; rw [if_pos hx, if_pos hx]
    · exact absurd rfl h6
  · have hn : ¬ (cps s k).any (fun c => decide (fold c < 0)) = true := by
      intro hx; rw [he, if_pos hx] at h6; omega
    rw [if_neg (by omega), if_neg hn]
    have hc : ∀ c ∈ cps s k, ¬ fold c < 0 := by
      intro c hc hx
      exact hn (List.any_eq_true.2 ⟨c, hc, by simpa using hx⟩)
    obtain ⟨g1, g2, g3, g4⟩ := ps_good s k (by omega) h hc
    subst h5
    have gr : (psAt s 5).r = (cps s 5).map fold := by rw [g2]; simp
    have hi : (psAt s 5).i = s.size := by have := (went_law s 5 h).2.1; omega
    rw [gr]
    refine ⟨rfl, ?_⟩
    rw [g1, hi]
    have : s.data.toList.drop s.size = [] := List.drop_eq_nil_of_le (by simp)
    rw [this, List.append_nil]
theorem parse_bad (s : ByteArray) (k : Nat) (h40 : s.size ≤ 40) (h : Went s k) (h1 : (psAt s k).i < s.size) (h2 : (decP s (psAt s k).i).2 = 0) : parseP s = (zeros, 2) := by
  unfold parseP
  rw [if_neg (by omega), went_bad s k h h1 h2]; rfl
theorem parse_long (s : ByteArray) (h : 40 < s.size) : parseP s = (zeros, 1) := by
  unfold parseP; rw [if_pos h]
/-- The bytes from the place on are the text's. -/
theorem ps_drop (s : ByteArray) : ∀ k, Went s k → (psAt s k).b.drop (psAt s k).i = s.data.toList.drop (psAt s k).i ∧ (psAt s k).b.length = s.size ∧ (psAt s k).r.length = 5
  | 0, _ => ⟨rfl, by show s.data.toList.length = _; simp, rfl⟩
  | k + 1, h => by
    obtain ⟨h1, h2, h3⟩ := ps_drop s k h.pred
    obtain ⟨h5, h6⟩ := h k (by omega)
    have hd : ∀ l : List UInt8, l.drop (psAt s k).i = s.data.toList.drop (psAt s k).i → l.drop ((psAt s k).i + (decP s (psAt s k).i).2) = s.data.toList.drop ((psAt s k).i + (decP s (psAt s k).i).2) := by
      intro l hl
      rw [← List.drop_drop, hl, List.drop_drop]
    rw [ps_i]
    show (psStep s k (psAt s k)).b.drop _ = _ ∧ (psStep s k (psAt s k)).b.length = _ ∧ (psStep s k (psAt s k)).r.length = 5
    unfold psStep
    repeat' split
    · exact ⟨hd _ h1, h2, h3⟩
    · refine ⟨?_, by simp [h2], by simp [h3]⟩
      show ((psAt s k).b.set _ _).drop _ = _
      rw [List.drop_set_of_lt (by omega)]
      exact hd _ h1
    · exact ⟨hd _ h1, h2, h3⟩
end Go.Proofs.Qxb6500370a
