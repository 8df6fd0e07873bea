/-
  THE MARKS, PLAINLY; what the tries have taught allows a word exactly when the word gives every try the same marks.
-/
namespace Go.Qx.Mk

/-- How many of the first n places hold. -/
def cnt (f : Nat → Bool) : Nat → Nat
  | 0 => 0
  | n + 1 => cnt f n + (if f n then 1 else 0)

theorem cnt_congr {f g : Nat → Bool} : ∀ n, (∀ q, q < n → f q = g q) → cnt f n = cnt g n
  | 0, _ => rfl
  | n + 1, h => by rw [cnt, cnt, cnt_congr n (fun q hq => h q (by omega)), h n (by omega)]

theorem cnt_mono (f : Nat → Bool) {a b : Nat} (h : a ≤ b) : cnt f a ≤ cnt f b := by
  induction b with
  | zero => have : a = 0 := by omega
            subst this; exact Nat.le_refl _
  | succ b ih =>
    by_cases e : a = b + 1
    · subst e; exact Nat.le_refl _
    · have := ih (by omega)
      rw [cnt]; omega

theorem cnt_pos {f : Nat → Bool} {p n : Nat} (hp : p < n) (h : f p = true) : cnt f p < cnt f n := by
  have h1 := cnt_mono f (show p + 1 ≤ n by omega)
  rw [cnt, if_pos h] at h1
  omega

/-- The places of w that bear c. -/
def occ (w : Nat → Int) (c : Int) (n : Nat) : Nat := cnt (fun q => w q == c) n
/-- The places of t that bear c and are not green; the copies of c in w at places that are not green; the green places of c. -/
def ng (w t : Nat → Int) (c : Int) (n : Nat) : Nat := cnt (fun q => !(t q == w q) && t q == c) n
def lf (w t : Nat → Int) (c : Int) (n : Nat) : Nat := cnt (fun q => !(t q == w q) && w q == c) n
def gc (w t : Nat → Int) (c : Int) (n : Nat) : Nat := cnt (fun q => t q == w q && t q == c) n

theorem occ_t (w t : Nat → Int) (c : Int) : ∀ n, occ t c n = gc w t c n + ng w t c n
  | 0 => rfl
  | n + 1 => by
    have ih := occ_t w t c n
    unfold occ gc ng at *
    rw [cnt, cnt, cnt, ih]
    cases h1 : (t n == w n) <;> cases h2 : (t n == c) <;> simp <;> omega
theorem occ_w (w t : Nat → Int) (c : Int) : ∀ n, occ w c n = gc w t c n + lf w t c n
  | 0 => rfl
  | n + 1 => by
    have ih := occ_w w t c n
    unfold occ gc lf at *
    rw [cnt, cnt, cnt, ih]
    have e : (t n == w n) = true → (t n == c) = (w n == c) := fun h => by rw [beq_iff_eq.1 h]
    cases h1 : (t n == w n)
    · cases h2 : (w n == c) <;> simp <;> omega
    · rw [e h1]
      cases h2 : (w n == c) <;> simp <;> omega

/-- The mark at place p: 0 green, 1 yellow, 2 grey. -/
def mark (N : Nat) (w t : Nat → Int) (p : Nat) : Nat := if t p = w p then 0 else if ng w t (t p) p < lf w t (t p) N then 1 else 2

/-- The places of c in t that are not grey. -/
def kc (N : Nat) (w t : Nat → Int) (c : Int) : Nat := cnt (fun p => t p == c && mark N w t p != 2) N

theorem kc_to (N : Nat) (w t : Nat → Int) (c : Int) : ∀ n, cnt (fun p => t p == c && mark N w t p != 2) n = gc w t c n + min (ng w t c n) (lf w t c N)
  | 0 => by simp [cnt, gc, ng]
  | n + 1 => by
    have ih := kc_to N w t c n
    have e1 : gc w t c (n + 1) = gc w t c n + (if (t n == w n && t n == c) then 1 else 0) := rfl
    have e2 : ng w t c (n + 1) = ng w t c n + (if (!(t n == w n) && t n == c) then 1 else 0) := rfl
    rw [cnt, ih, e1, e2]
    by_cases h2 : t n = c
    · have b2 : (t n == c) = true := beq_iff_eq.2 h2
      by_cases h1 : t n = w n
      · have hm : mark N w t n = 0 := by unfold mark; rw [if_pos h1]
        have b1 : (t n == w n) = true := beq_iff_eq.2 h1
        rw [hm, b1, b2]
        simp; omega
      · have b1 : (t n == w n) = false := beq_eq_false_iff_ne.2 h1
        by_cases h3 : ng w t c n < lf w t c N
        · have hm : mark N w t n = 1 := by unfold mark; rw [if_neg h1, h2, if_pos h3]
          rw [hm, b1, b2]
          simp; omega
        · have hm : mark N w t n = 2 := by unfold mark; rw [if_neg h1, h2, if_neg h3]
          rw [hm, b1, b2]
          simp; omega
    · have h3 : (t n == c) = false := by simpa using h2
      simp [h3]

theorem kc_min (N : Nat) (w t : Nat → Int) (c : Int) : kc N w t c = min (occ t c N) (occ w c N) := by
  unfold kc
  rw [kc_to N w t c N, occ_t w t c N, occ_w w t c N]
  omega

theorem mark_zero {N : Nat} {w t : Nat → Int} {p : Nat} : mark N w t p = 0 ↔ t p = w p := by
  unfold mark
  constructor
  · intro h
    split at h
    · assumption
    · split at h <;> cases h
  · intro h; rw [if_pos h]

/-- A grey place: t has more copies than w. -/
theorem mark_grey {N : Nat} {w t : Nat → Int} {p : Nat} (hp : p < N) (h : mark N w t p = 2) : occ w (t p) N < occ t (t p) N := by
  unfold mark at h
  split at h
  · cases h
  · split at h
    · cases h
    · rename_i h1 h2
      have h3 : ng w t (t p) p < ng w t (t p) N := by
        refine cnt_pos hp ?_
        simp [h1]
      rw [occ_t w t, occ_w w t]
      omega

/-- The marks are the same where the greens are and the letters that are not grey are as many. -/
theorem mark_same {N : Nat} {w s t : Nat → Int} (hg : ∀ p, p < N → (t p = w p ↔ t p = s p)) (hk : ∀ p, p < N → kc N w t (t p) = kc N s t (t p)) : ∀ p, p < N → mark N w t p = mark N s t p := by
  intro p hp
  have hb : ∀ q, q < N → (t q == w q) = (t q == s q) := fun q hq => by
    have := hg q hq
    by_cases h : t q = w q
    · rw [beq_iff_eq.2 h, beq_iff_eq.2 (this.1 h)]
    · have h' : ¬ t q = s q := fun e => h (this.2 e)
      rw [beq_eq_false_iff_ne.2 h, beq_eq_false_iff_ne.2 h']
  have hng : ∀ n, n ≤ N → ng w t (t p) n = ng s t (t p) n := fun n hn => cnt_congr n (fun q hq => by simp only [hb q (by omega)])
  have hgc : gc w t (t p) N = gc s t (t p) N := cnt_congr N (fun q hq => by simp only [hb q hq])
  unfold mark
  by_cases h : t p = w p
  · rw [if_pos h, if_pos ((hg p hp).1 h)]
  · have h' : ¬ t p = s p := fun e => h ((hg p hp).2 e)
    rw [if_neg h, if_neg h', hng p (by omega)]
    have hlt : ng s t (t p) p < ng s t (t p) N := by
      refine cnt_pos hp ?_
      simp [h']
    have h1 := hk p hp
    unfold kc at h1
    rw [kc_to, kc_to, hgc, hng N (Nat.le_refl _)] at h1
    have : (ng s t (t p) p < lf w t (t p) N) ↔ (ng s t (t p) p < lf s t (t p) N) := by omega
    by_cases h2 : ng s t (t p) p < lf w t (t p) N
    · rw [if_pos h2, if_pos (this.1 h2)]
    · rw [if_neg h2, if_neg (fun e => h2 (this.2 e))]

theorem kc_same {N : Nat} {w s t : Nat → Int} (h : ∀ p, p < N → mark N w t p = mark N s t p) (c : Int) : kc N w t c = kc N s t c := by
  unfold kc
  exact cnt_congr N (fun q hq => by simp only [h q hq])

/-- What is known. -/
structure Know where
  green : Nat → Int
  ban : Nat → Int → Bool
  lo : Int → Int
  hi : Int → Option Int

/-- K is what the tries T have taught of the secret s. -/
structure Knows (N : Nat) (s : Nat → Int) (T : List (Nat → Int)) (K : Know) : Prop where
  g1 : ∀ p, p < N → K.green p ≠ 0 → K.green p = s p ∧ ∃ t ∈ T, t p = s p
  g2 : ∀ p, p < N → ∀ t ∈ T, t p = s p → K.green p = s p
  b : ∀ p, p < N → ∀ c, K.ban p c = true ↔ ∃ t ∈ T, t p = c ∧ t p ≠ s p
  l1 : ∀ c, K.lo c = 0 ∨ ∃ t ∈ T, K.lo c = kc N s t c
  l2 : ∀ t ∈ T, ∀ p, p < N → mark N s t p ≠ 2 → (kc N s t (t p) : Int) ≤ K.lo (t p)
  h1 : ∀ c h, K.hi c = some h → ∃ t ∈ T, ∃ p, p < N ∧ t p = c ∧ mark N s t p = 2 ∧ h = kc N s t c
  h2 : ∀ t ∈ T, ∀ p, p < N → mark N s t p = 2 → K.hi (t p) = some ((kc N s t (t p) : Nat) : Int)

def Allows (N : Nat) (K : Know) (T : List (Nat → Int)) (w : Nat → Int) : Prop :=
  (∀ p, p < N → (K.green p = 0 ∨ K.green p = w p) ∧ K.ban p (w p) = false) ∧
    ∀ t ∈ T, ∀ p, p < N → K.lo (t p) ≤ occ w (t p) N ∧ ∀ h, K.hi (t p) = some h → (occ w (t p) N : Int) = h

theorem allows_iff {N : Nat} {s w : Nat → Int} {T : List (Nat → Int)} {K : Know} (k : Knows N s T K) (hs : ∀ p, p < N → s p ≠ 0) : Allows N K T w ↔ ∀ t ∈ T, ∀ p, p < N → mark N w t p = mark N s t p := by
  constructor
  · rintro ⟨ha, hb⟩ t ht
    refine mark_same ?_ ?_
    · intro p hp
      constructor
      · intro e
        by_cases h : t p = s p
        · exact h
        · have h1 := (k.b p hp (t p)).2 ⟨t, ht, rfl, h⟩
          have h2 := (ha p hp).2
          rw [← e, h1] at h2; cases h2
      · intro e
        have h1 := k.g2 p hp t ht e
        rcases (ha p hp).1 with h | h
        · exact absurd (h1.symm.trans h) (hs p hp)
        · rw [e, ← h1, h]
    · intro p hp
      obtain ⟨hl, hh⟩ := hb t ht p hp
      rw [kc_min, kc_min]
      -- is the letter grey somewhere?
      by_cases hgr : ∃ q, q < N ∧ t q = t p ∧ mark N s t q = 2
      · obtain ⟨q, hq, e, hm⟩ := hgr
        have h1 := mark_grey hq hm
        have h2 := k.h2 t ht q hq hm
        rw [e] at h1 h2
        have h3 := hh _ h2
        rw [kc_min] at h3
        omega
      · have hall : kc N s t (t p) = occ t (t p) N := by
          unfold kc occ
          refine cnt_congr N (fun q hq => ?_)
          by_cases e : t q = t p
          · have hm : mark N s t q ≠ 2 := fun hm => hgr ⟨q, hq, e, hm⟩
            simp [e, hm]
          · simp [e]
        have hm : mark N s t p ≠ 2 := fun hm => hgr ⟨p, hp, rfl, hm⟩
        have h1 := k.l2 t ht p hp hm
        rw [hall] at h1
        rw [kc_min] at hall
        omega
  · intro h
    refine ⟨fun p hp => ⟨?_, ?_⟩, fun t ht p hp => ⟨?_, ?_⟩⟩
    · by_cases h0 : K.green p = 0
      · exact .inl h0
      · obtain ⟨e, t, ht, et⟩ := k.g1 p hp h0
        have h1 := h t ht p hp
        rw [mark_zero.2 et] at h1
        exact .inr (by rw [e, ← et]; exact mark_zero.1 h1)
    · cases hb : K.ban p (w p) with
      | false => rfl
      | true =>
        obtain ⟨t, ht, e, hne⟩ := (k.b p hp (w p)).1 hb
        have h1 := h t ht p hp
        rw [mark_zero.2 e] at h1
        exact absurd (mark_zero.1 h1.symm) hne
    · rcases k.l1 (t p) with e | ⟨u, hu, e⟩
      · omega
      · rw [e, ← kc_same (h u hu), kc_min]; omega
    · intro hh e
      obtain ⟨u, hu, q, hq, eq, hm, rfl⟩ := k.h1 _ _ e
      rw [← kc_same (h u hu), kc_min]
      have h1 := h u hu q hq
      rw [hm] at h1
      have h2 := mark_grey hq h1
      rw [eq] at h2
      omega
/-! ### What a try teaches -/
/-- One place of a try taken in. -/
def stepK (t : Nat → Int) (m : Nat → Nat) (k : Int → Int) (K : Know) (p : Nat) : Know where
  green := fun q => if q = p ∧ m p = 0 then t p else K.green q
  ban := fun q c => K.ban q c || (q == p && m p != 0 && c == t p)
  lo := fun c => if c = t p ∧ m p ≠ 2 ∧ K.lo c < k c then k c else K.lo c
  hi := fun c => if c = t p ∧ m p = 2 then some (k c) else K.hi c
def learnTo (t : Nat → Int) (m : Nat → Nat) (k : Int → Int) (K : Know) : Nat → Know
  | 0 => K
  | n + 1 => stepK t m k (learnTo t m k K n) n

theorem learn_green (t : Nat → Int) (m : Nat → Nat) (k : Int → Int) (K : Know) : ∀ n q, (learnTo t m k K n).green q = if q < n ∧ m q = 0 then t q else K.green q
  | 0, q => by simp [learnTo]
  | n + 1, q => by
    rw [learnTo]
    show (if q = n ∧ m n = 0 then t n else (learnTo t m k K n).green q) = _
    rw [learn_green t m k K n q]
    by_cases e : q = n
    · subst e
      by_cases h : m q = 0
      · rw [if_pos ⟨rfl, h⟩, if_pos ⟨by omega, h⟩]
      · rw [if_neg (fun x => h x.2), if_neg (fun x => h x.2), if_neg (fun x => h x.2)]
    · rw [if_neg (fun x => e x.1)]
      by_cases h : q < n ∧ m q = 0
      · rw [if_pos h, if_pos ⟨by omega, h.2⟩]
      · rw [if_neg h, if_neg (fun x => h ⟨by omega, x.2⟩)]
theorem learn_ban (t : Nat → Int) (m : Nat → Nat) (k : Int → Int) (K : Know) : ∀ n q c, (learnTo t m k K n).ban q c = true ↔ K.ban q c = true ∨ (q < n ∧ m q ≠ 0 ∧ c = t q)
  | 0, q, c => by simp [learnTo]
  | n + 1, q, c => by
    rw [learnTo]
    show ((learnTo t m k K n).ban q c || (q == n && m n != 0 && c == t n)) = true ↔ _
    rw [Bool.or_eq_true, learn_ban t m k K n q c]
    simp only [Bool.and_eq_true, beq_iff_eq, bne_iff_ne, ne_eq]
    constructor
    · rintro ((h | ⟨h1, h2, h3⟩) | ⟨⟨rfl, h2⟩, h3⟩)
      · exact .inl h
      · exact .inr ⟨by omega, h2, h3⟩
      · exact .inr ⟨by omega, h2, h3⟩
    · rintro (h | ⟨h1, h2, h3⟩)
      · exact .inl (.inl h)
      · by_cases e : q = n
        · subst e; exact .inr ⟨⟨rfl, h2⟩, h3⟩
        · exact .inl (.inr ⟨by omega, h2, h3⟩)
theorem learn_hi (t : Nat → Int) (m : Nat → Nat) (k : Int → Int) (K : Know) (c : Int) : ∀ n, ((∃ q, q < n ∧ t q = c ∧ m q = 2) → (learnTo t m k K n).hi c = some (k c)) ∧ ((¬ ∃ q, q < n ∧ t q = c ∧ m q = 2) → (learnTo t m k K n).hi c = K.hi c)
  | 0 => ⟨fun ⟨q, h, _⟩ => by omega, fun _ => rfl⟩
  | n + 1 => by
    obtain ⟨i1, i2⟩ := learn_hi t m k K c n
    have e : (learnTo t m k K (n + 1)).hi c = if c = t n ∧ m n = 2 then some (k c) else (learnTo t m k K n).hi c := rfl
    rw [e]
    by_cases h : c = t n ∧ m n = 2
    · rw [if_pos h]
      exact ⟨fun _ => rfl, fun hn => absurd ⟨n, by omega, h.1.symm, h.2⟩ hn⟩
    · rw [if_neg h]
      refine ⟨fun ⟨q, hq, e1, e2⟩ => ?_, fun hn => i2 (fun ⟨q, hq, e1, e2⟩ => hn ⟨q, by omega, e1, e2⟩)⟩
      by_cases eq : q = n
      · subst eq; exact absurd ⟨e1.symm, e2⟩ h
      · exact i1 ⟨q, by omega, e1, e2⟩
theorem learn_lo (t : Nat → Int) (m : Nat → Nat) (k : Int → Int) (K : Know) (c : Int) : ∀ n, K.lo c ≤ (learnTo t m k K n).lo c ∧ ((∃ q, q < n ∧ t q = c ∧ m q ≠ 2) → k c ≤ (learnTo t m k K n).lo c) ∧ ((learnTo t m k K n).lo c = K.lo c ∨ (learnTo t m k K n).lo c = k c)
  | 0 => ⟨Int.le_refl _, fun ⟨q, h, _⟩ => by omega, .inl rfl⟩
  | n + 1 => by
    obtain ⟨i1, i2, i3⟩ := learn_lo t m k K c n
    have e : (learnTo t m k K (n + 1)).lo c = if c = t n ∧ m n ≠ 2 ∧ (learnTo t m k K n).lo c < k c then k c else (learnTo t m k K n).lo c := rfl
    rw [e]
    by_cases h : c = t n ∧ m n ≠ 2 ∧ (learnTo t m k K n).lo c < k c
    · rw [if_pos h]
      exact ⟨by omega, fun _ => Int.le_refl _, .inr rfl⟩
    · rw [if_neg h]
      refine ⟨i1, fun ⟨q, hq, e1, e2⟩ => ?_, i3⟩
      by_cases eq : q = n
      · subst eq
        have : ¬ (learnTo t m k K q).lo c < k c := fun hl => h ⟨e1.symm, e2, hl⟩
        omega
      · exact i2 ⟨q, by omega, e1, e2⟩

theorem knows_nil (N : Nat) (s : Nat → Int) : Knows N s [] ⟨fun _ => 0, fun _ _ => false, fun _ => 0, fun _ => none⟩ :=
  ⟨fun p _ h => absurd rfl h, fun p _ t ht => (by cases ht), fun p _ c => (by simp), fun c => Or.inl rfl, fun t ht => (by cases ht), fun c h e => (by cases e), fun t ht => (by cases ht)⟩

theorem knows_learn {N : Nat} {s : Nat → Int} {T : List (Nat → Int)} {K : Know} (k : Knows N s T K) (t : Nat → Int) : Knows N s (T ++ [t]) (learnTo t (mark N s t) (fun c => kc N s t c) K N) := by
  refine ⟨?_, ?_, ?_, ?_, ?_, ?_, ?_⟩
  · intro p hp h
    rw [learn_green] at h ⊢
    by_cases e : p < N ∧ mark N s t p = 0
    · rw [if_pos e]
      exact ⟨mark_zero.1 e.2, t, by simp, mark_zero.1 e.2⟩
    · rw [if_neg e] at h ⊢
      obtain ⟨h1, u, hu, h2⟩ := k.g1 p hp h
      exact ⟨h1, u, List.mem_append_left _ hu, h2⟩
  · intro p hp u hu e
    rw [learn_green]
    by_cases h : p < N ∧ mark N s t p = 0
    · rw [if_pos h]; exact mark_zero.1 h.2
    · rw [if_neg h]
      rcases List.mem_append.1 hu with hu | hu
      · exact k.g2 p hp u hu e
      · simp at hu; subst hu
        exact absurd ⟨hp, mark_zero.2 e⟩ h
  · intro p hp c
    rw [learn_ban, k.b p hp c]
    constructor
    · rintro (⟨u, hu, h1, h2⟩ | ⟨_, h1, h2⟩)
      · exact ⟨u, List.mem_append_left _ hu, h1, h2⟩
      · exact ⟨t, by simp, h2.symm, fun e => h1 (mark_zero.2 e)⟩
    · rintro ⟨u, hu, h1, h2⟩
      rcases List.mem_append.1 hu with hu | hu
      · exact .inl ⟨u, hu, h1, h2⟩
      · simp at hu; subst hu
        exact .inr ⟨hp, fun e => h2 (mark_zero.1 e), h1.symm⟩
  · intro c
    obtain ⟨i1, i2, i3⟩ := learn_lo t (mark N s t) (fun c => kc N s t c) K c N
    rcases i3 with e | e
    · rw [e]
      rcases k.l1 c with h | ⟨u, hu, h⟩
      · exact .inl h
      · exact .inr ⟨u, List.mem_append_left _ hu, h⟩
    · exact .inr ⟨t, by simp, e⟩
  · intro u hu p hp hm
    obtain ⟨i1, i2, i3⟩ := learn_lo t (mark N s t) (fun c => kc N s t c) K (u p) N
    rcases List.mem_append.1 hu with hu | hu
    · exact Int.le_trans (k.l2 u hu p hp hm) i1
    · simp at hu; subst hu
      exact i2 ⟨p, hp, rfl, hm⟩
  · intro c h e
    obtain ⟨i1, i2⟩ := learn_hi t (mark N s t) (fun c => kc N s t c) K c N
    by_cases hx : ∃ q, q < N ∧ t q = c ∧ mark N s t q = 2
    · rw [i1 hx] at e
      obtain ⟨q, h1, h2, h3⟩ := hx
      exact ⟨t, by simp, q, h1, h2, h3, (Option.some.inj e).symm⟩
    · rw [i2 hx] at e
      obtain ⟨u, hu, q, h1, h2, h3, h4⟩ := k.h1 c h e
      exact ⟨u, List.mem_append_left _ hu, q, h1, h2, h3, h4⟩
  · intro u hu p hp hm
    obtain ⟨i1, i2⟩ := learn_hi t (mark N s t) (fun c => kc N s t c) K (u p) N
    by_cases hx : ∃ q, q < N ∧ t q = u p ∧ mark N s t q = 2
    · rw [i1 hx]
      obtain ⟨q, h1, h2, h3⟩ := hx
      have a1 := mark_grey h1 h3
      have a2 := mark_grey hp hm
      rw [h2] at a1
      congr 2
      rw [kc_min, kc_min]; omega
    · rw [i2 hx]
      rcases List.mem_append.1 hu with hu | hu
      · exact k.h2 u hu p hp hm
      · simp at hu; subst hu
        exact absurd ⟨p, hp, rfl, hm⟩ hx
end Go.Qx.Mk
