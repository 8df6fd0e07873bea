/-
  369 Keeps: what the tokens say of the counts and of the nodes.
-/
import Derived.Test.Qxb6500369aKDel2
namespace Go.Proofs.Qxb6500369a
set_option linter.unusedVariables false
set_option linter.unusedSimpArgs false

/-! ### Sums -/
theorem sm_split (f : Nat → Int) (a : Nat) : ∀ b, sm f (a + b) = sm f a + sm (fun e => f (a + e)) b
  | 0 => by simp [sm]
  | b + 1 => by rw [← Nat.add_assoc, sm, sm, sm_split f a b]; omega
theorem sm_rot (f : Nat → Int) (n o : Nat) (ho : o < n) : sm (fun e => f (nd n 0 o e)) n = sm f n := by
  have h1 := sm_split (fun e => f (nd n 0 o e)) (n - o) o
  rw [show n - o + o = n by omega] at h1
  have h2 := sm_split f o (n - o)
  rw [show o + (n - o) = n by omega] at h2
  rw [h1, h2]
  have e1 : sm (fun e => f (nd n 0 o e)) (n - o) = sm (fun e => f (o + e)) (n - o) := sm_congr (fun j hj => by
    show f (if 0 = 0 then _ else _) = _; rw [if_pos rfl, if_pos (by omega)])
  have e2 : sm (fun e => (fun e => f (nd n 0 o e)) (n - o + e)) o = sm f o := sm_congr (fun j hj => by
    show f (if 0 = 0 then _ else _) = _; rw [if_pos rfl, if_neg (by omega)]; congr 1; omega)
  rw [e1, e2]; omega
theorem sm_add (f g : Nat → Int) : ∀ n, sm (fun o => f o + g o) n = sm f n + sm g n
  | 0 => by simp [sm]
  | n + 1 => by rw [sm, sm, sm, sm_add f g n]; omega
theorem sm_const (c : Int) : ∀ n : Nat, sm (fun _ => c) n = n * c
  | 0 => by simp [sm]
  | n + 1 => by rw [sm, sm_const c n]; push_cast; rw [Int.add_mul]; omega
theorem sm_swap (f : Nat → Nat → Int) (m : Nat) : ∀ n, sm (fun o => sm (fun j => f o j) m) n = sm (fun j => sm (fun o => f o j) n) m
  | 0 => by
    have : sm (fun j => sm (fun o => f o j) 0) m = sm (fun _ => (0 : Int)) m := rfl
    rw [this, sm_const]; simp [sm]
  | n + 1 => by
    rw [sm, sm_swap f m n]
    exact (sm_add (fun j => sm (fun o => f o j) n) (fun j => f n j) m).symm
theorem sm_nonneg {f : Nat → Int} {n : Nat} (h : ∀ j, j < n → 0 ≤ f j) : 0 ≤ sm f n := by
  have := sm_le (f := fun _ => (0 : Int)) (g := f) h
  rw [sm_const] at this; simpa using this

section
variable {mode : Int} {n : Nat} {I : Nat → Int} {V : Nat → N5} {tk : Nat → Nat → Tok} {an top done len : Nat} {s1 s2 s3 : Int}

theorem TA.idle0 (A : TA mode n I V tk an top done) {o s : Nat} (ho : o < n) (hs : s < 2) (h : (V o).reach = 0) : tk o s = .idle := by
  have h1 := A.tok o ho s hs
  cases hT : tk o s <;> rw [hT] at h1 <;> first | rfl | (exfalso; have := h1.1; omega)

/-! ### Hirschberg-Sinclair: the bound -/
theorem cnt_le (A : TA mode n I V tk an top done) (hm : mode = 1) {o s : Nat} (ho : o < n) (hs : s < 2) : cnt n (V o).reach (tk o s) ≤ 2 * (V o).reach := by
  have h := A.tok o ho s hs
  have hr := A.rv o ho
  cases hT : tk o s <;> rw [hT] at h <;> simp only [cnt]
  · omega
  · have := h.2.2.2.2.1 hm; omega
  · have := h.2.2.1; omega
  · omega
  · have := h.2.2.2.2.1 hm; have := h.1; omega
  · have := h.2.2.2.1 hm; have := h.1; omega

def lg (n : Nat) : Nat := if n ≤ 1 then 0 else if n ≤ 2 then 1 else if n ≤ 4 then 2 else 3

theorem reach_n (A : TA mode n I V tk an top done) {o : Nat} (ho : o < n) (h : 1 < (V o).reach) : mode = 1 ∧ (V o).reach / 2 < n ∧ ((V o).reach = 2 ∨ (V o).reach = 4 ∨ (V o).reach = 8) := by
  have hr := A.rv o ho
  rcases (by omega : (V o).reach = 2 ∨ (V o).reach = 4 ∨ (V o).reach = 8) with h | h | h
  · have := A.hf o ho 1 (by omega) (by omega); exact ⟨this.1, by omega, by omega⟩
  · have := A.hf o ho 2 (by omega) (by omega); exact ⟨this.1, by omega, by omega⟩
  · have := A.hf o ho 4 (by omega) (by omega); exact ⟨this.1, by omega, by omega⟩
theorem reach_less (A : TA mode n I V tk an top done) {o s : Nat} (ho : o < n) (hs : s < 2) (h : 1 < (V o).reach) : I (nd n s o 1) < I o := by
  have hr := A.rv o ho
  rcases (by omega : (V o).reach = 2 ∨ (V o).reach = 4 ∨ (V o).reach = 8) with h | h | h
  · exact (A.hf o ho 1 (by omega) (by omega)).2.2 s hs 1 (by omega) (by omega)
  · exact (A.hf o ho 2 (by omega) (by omega)).2.2 s hs 1 (by omega) (by omega)
  · exact (A.hf o ho 4 (by omega) (by omega)).2.2 s hs 1 (by omega) (by omega)

theorem cost_pair (A : TA mode n I V tk an top done) (hm : mode = 1) {o : Nat} (ho : o < n) : cost n V tk o + cost n V tk (nd n 0 o 1) ≤ 16 * ((lg n : Int) + 1) := by
  have hj : nd n 0 o 1 < n := nd_lt ho (by omega)
  have c1 := cnt_le A hm ho (s := 0) (by omega)
  have c2 := cnt_le A hm ho (s := 1) (by omega)
  have c3 := cnt_le A hm hj (s := 0) (by omega)
  have c4 := cnt_le A hm hj (s := 1) (by omega)
  have r1 := A.rv o ho
  have r2 := A.rv _ hj
  have q1 := fun h => reach_n A ho h
  have q2 := fun h => reach_n A hj h
  have hn8 := A.n8
  have hnot : ¬ (1 < (V o).reach ∧ 1 < (V (nd n 0 o 1)).reach) := by
    rintro ⟨h1, h2⟩
    have l1 := reach_less A ho (s := 0) (by omega) h1
    have l2 := reach_less A hj (s := 1) (by omega) h2
    have : nd n 1 (nd n 0 o 1) 1 = o := by
      have := nd_back (n := n) (s := 0) (o := o) (d := 1) (by omega) ho (by omega) (by omega)
      rw [show 1 - 0 = 1 from rfl, show 1 - 1 = 0 from rfl, nd_zero ho] at this
      exact this
    rw [this] at l2; omega
  unfold cost lg
  generalize cnt n (V o).reach (tk o 0) = a at *
  generalize cnt n (V o).reach (tk o 1) = b at *
  generalize cnt n (V (nd n 0 o 1)).reach (tk (nd n 0 o 1) 0) = c at *
  generalize cnt n (V (nd n 0 o 1)).reach (tk (nd n 0 o 1) 1) = d at *
  generalize (V o).reach = x at *
  generalize (V (nd n 0 o 1)).reach = y at *
  by_cases hx : 1 < x
  · have hy : ¬ 1 < y := fun h => hnot ⟨hx, h⟩
    obtain ⟨_, z1, z2⟩ := q1 hx
    rw [if_neg (by omega : ¬ x ≤ 1), if_pos (by omega : y ≤ 1)]
    repeat' split
    all_goals (push_cast; omega)
  · by_cases hy : 1 < y
    · obtain ⟨_, z1, z2⟩ := q2 hy
      rw [if_pos (by omega : x ≤ 1), if_neg (by omega : ¬ y ≤ 1)]
      repeat' split
      all_goals (push_cast; omega)
    · rw [if_pos (by omega : x ≤ 1), if_pos (by omega : y ≤ 1)]
      repeat' split
      all_goals (push_cast; omega)

theorem bound_hs (A : TA mode n I V tk an top done) (hm : mode = 1) : sm (cost n V tk) n ≤ 8 * n * ((lg n : Int) + 1) := by
  by_cases hn : n ≤ 1
  · rcases (by omega : n = 0 ∨ n = 1) with rfl | rfl
    · simp [sm]
    · have h := cost_pair A hm (o := 0) (by omega)
      have : nd 1 0 0 1 = 0 := by simp [nd]
      rw [this] at h
      simp only [sm]
      have : lg 1 = 0 := rfl
      rw [this] at h ⊢
      simp at h ⊢
      omega
  · have h1 : sm (fun o => cost n V tk o + cost n V tk (nd n 0 o 1)) n ≤ sm (fun _ => 16 * ((lg n : Int) + 1)) n := sm_le (fun o ho => cost_pair A hm ho)
    have h2 : sm (fun o => cost n V tk (nd n 0 o 1)) n = sm (cost n V tk) n := by
      rw [← sm_rot (cost n V tk) n 1 (by omega)]
      refine sm_congr (fun j hj => ?_)
      show cost n V tk (if 0 = 0 then _ else _) = cost n V tk (if 0 = 0 then _ else _); rw [if_pos rfl, if_pos rfl, Nat.add_comm]
    rw [sm_add (cost n V tk) (fun o => cost n V tk (nd n 0 o 1)), h2, sm_const] at h1
    rw [show (8 : Int) * n * ((lg n : Int) + 1) = 8 * (n * ((lg n : Int) + 1)) by rw [Int.mul_assoc]]
    rw [show (n : Int) * (16 * ((lg n : Int) + 1)) = 16 * (n * ((lg n : Int) + 1)) by rw [← Int.mul_assoc, Int.mul_comm (n : Int) 16, Int.mul_assoc]] at h1
    omega

/-! ### Chang-Roberts: the bound -/
def rank (I : Nat → Int) (n o : Nat) : Int := sm (fun j => if I j < I o then 1 else 0) n

theorem rank_sum (hds : ∀ i j, i < n → j < n → i ≠ j → I i ≠ I j) : 2 * sm (rank I n) n = n * n - n := by
  have e : sm (rank I n) n = sm (fun j => sm (fun o => (if I j < I o then (1 : Int) else 0)) n) n := sm_swap (fun o j => if I j < I o then (1 : Int) else 0) n n
  have h : sm (rank I n) n + sm (rank I n) n = sm (fun o => sm (fun j => (if j = o then (0 : Int) else 1)) n) n := by
    have e2 : sm (rank I n) n + sm (rank I n) n = sm (rank I n) n + sm (fun j => sm (fun o => (if I j < I o then (1 : Int) else 0)) n) n := by rw [← e]
    rw [e2, ← sm_add]
    refine sm_congr (fun o ho => ?_)
    unfold rank
    rw [← sm_add]
    refine sm_congr (fun j hj => ?_)
    by_cases hjo : j = o
    · subst hjo; simp
    · rw [if_neg hjo]
      have := hds j o hj ho hjo
      by_cases hlt : I j < I o
      · rw [if_pos hlt, if_neg (by omega)]; rfl
      · rw [if_neg hlt, if_pos (by omega)]; rfl
  have h3 : ∀ o, o < n → sm (fun j => (if j = o then (0 : Int) else 1)) n = n - 1 := fun o ho => by
    rw [sm_upd (f := fun _ => (1 : Int)) ho (fun j _ hne => by rw [if_neg hne]), sm_const]; simp
  have h4 : sm (fun o => sm (fun j => (if j = o then (0 : Int) else 1)) n) n = sm (fun _ => (n : Int) - 1) n := sm_congr h3
  rw [h4, sm_const, Int.mul_sub] at h
  omega

theorem run_le (g : Nat → Int) (h0 : ∀ e, 0 ≤ g e) (d : Nat) (h1 : ∀ e, 1 ≤ e → e < d → g e = 1) : ∀ n, d ≤ n → (d : Int) - 1 ≤ sm g n
  | 0, h => by simp [sm]; omega
  | n + 1, h => by
    rw [sm]
    by_cases hd : d ≤ n
    · have := run_le g h0 d h1 n hd
      have := h0 n
      omega
    · have hdn : d = n + 1 := by omega
      have := run_le g h0 n (fun e h2 h3 => h1 e h2 (by omega)) n (by omega)
      by_cases hn : n = 0
      · subst hn; have := h0 0; simp [sm]; omega
      · have := h1 n (by omega) (by omega); omega

theorem cnt_cr (A : TA mode n I V tk an top done) (hm : mode = 0) {o : Nat} (ho : o < n) : cost n V tk o = cnt n (V o).reach (tk o 0) ∧ cnt n (V o).reach (tk o 0) ≤ rank I n o + 1 := by
  have hr : (V o).reach = 0 ∨ (V o).reach = 1 := by
    have := A.rv o ho
    rcases Int.lt_or_le 1 (V o).reach with h | h
    · have := (reach_n A ho h).1; omega
    · omega
  have h1 : tk o 1 = .idle := by
    have h := A.tok o ho 1 (by omega)
    cases hT : tk o 1 <;> rw [hT] at h <;> first | rfl | (exfalso; have := h.2.1; omega)
  have hrun : ∀ d : Nat, d ≤ n → (∀ e, 1 ≤ e → e < d → I (nd n 0 o e) < I o) → (d : Int) ≤ rank I n o + 1 := by
    intro d hd hs
    have h := run_le (fun e => if I (nd n 0 o e) < I o then (1 : Int) else 0) (fun e => by split <;> omega) d (fun e he1 he2 => by rw [if_pos (hs e he1 he2)]) n hd
    have h2 := sm_rot (fun j => if I j < I o then (1 : Int) else 0) n o ho
    unfold rank
    rw [← h2]; omega
  have hrk : 0 ≤ rank I n o := sm_nonneg (fun j _ => by split <;> omega)
  refine ⟨?_, ?_⟩
  · unfold cost; rw [h1, if_pos (by omega)]; simp [cnt]
  · have h := A.tok o ho 0 (by omega)
    cases hT : tk o 0 <;> rw [hT] at h <;> simp only [cnt]
    · omega
    · exact hrun _ h.2.2.2.1 h.2.2.2.2.2.2
    · have := h.2.1; omega
    · have := h.2.1; omega
    · exact hrun _ (by have := h.2.2.2.1; omega) h.2.2.2.2.2.2
    · refine hrun n (Nat.le_refl _) (fun e he1 he2 => ?_)
      have ht := h.2.2.1
      subst ht
      exact A.mx _ (nd_lt ho (by omega)) (nd_ne ho he1 he2)

theorem bound_cr (A : TA mode n I V tk an top done) (hm : mode = 0) : 2 * sm (cost n V tk) n ≤ n * n + n := by
  have h1 : sm (cost n V tk) n ≤ sm (fun o => rank I n o + 1) n := sm_le (fun o ho => by have := cnt_cr A hm ho; omega)
  have h2 := sm_add (rank I n) (fun _ => (1 : Int)) n
  rw [sm_const] at h2
  have h3 := rank_sum A.ds
  omega

/-! ### What is left when the wire is dry -/
theorem dry_tok (A : TA mode n I V tk an top done) (h2 : TL n tk an []) (hw : ∀ o, o < n → (V o).reach ≠ 0) {o s : Nat} (ho : o < n) (hs : s < 2) (hms : mode = 1 ∨ s = 0) : tk o s = .home ∨ (∃ d, tk o s = .dead d) ∨ tk o s = .round := by
  have hf : ¬ fly (tk o s) = true := fun h => by
    have := (h2.mem (2 * o + s)).2 ((inL_at ho hs).2 h)
    simp at this
  have h := A.tok o ho s hs
  cases hT : tk o s <;> rw [hT] at h hf
  · exfalso
    have := hw o ho
    rcases h with h | h
    · exact this h
    · omega
  · simp [fly] at hf
  · simp [fly] at hf
  · exact .inl rfl
  · exact .inr (.inl ⟨_, rfl⟩)
  · exact .inr (.inr rfl)

theorem dry_an (A : TA mode n I V tk an top done) (h2 : TL n tk an []) (hw : ∀ o, o < n → (V o).reach ≠ 0) (hn : 0 < n) : an = n + 1 := by
  have ht := A.tp hn
  have hnan : ¬ (1 ≤ an ∧ an ≤ n) := fun h => by
    have := (h2.mem (2 * n)).2 (inL_an.2 h)
    simp at this
  have hround : ∀ s, s < 2 → (mode = 1 ∨ s = 0) → tk top s = .home ∨ tk top s = .round := fun s hs hms => by
    rcases dry_tok A h2 hw ht hs hms with h | ⟨d, h⟩ | h
    · exact .inl h
    · exfalso
      have h1 := A.tok top ht s hs
      rw [h] at h1
      have h3 := h1.2.2.2.2.2.1
      have h4 := h1.2.2.1
      have h5 := h1.2.2.2.1
      have := A.mx _ (nd_lt (s := s) ht (by omega : d ≤ n)) (nd_ne ht h4 h5)
      omega
    · exact .inr h
  have hmd := A.md
  have : ∃ s, s < 2 ∧ tk top s = .round := by
    rcases hround 0 (by omega) (.inr rfl) with h | h
    · have h1 := A.tok top ht 0 (by omega)
      rw [h] at h1
      have hm1 : mode = 1 := h1.2.1
      rcases hround 1 (by omega) (.inl hm1) with h' | h'
      · exfalso
        have := A.gt top ht
        rw [h, h'] at this
        simp [hm] at this
        omega
      · exact ⟨1, by omega, h'⟩
    · exact ⟨0, by omega, h⟩
  obtain ⟨s, hs, h⟩ := this
  have h1 := A.tok top ht s hs
  rw [h] at h1
  have h3 : 1 ≤ an := h1.2.2.2.2.2
  have h4 := (A.a1 h3).2.1
  omega

/-- A node, at any time. -/
theorem node_says (A : TA mode n I V tk an top done) {i : Nat} (hi : i < n) :
    ((V i).st = 0 ∨ ((V i).st = 2 ∧ i = top ∧ (V i).lead = I top ∧ n ≤ done ∧ (mode = 1 → (n : Int) ≤ (V i).reach)) ∨ ((V i).st = 1 ∧ i ≠ top ∧ (V i).lead = I top ∧ n ≤ done)) := by
  by_cases ha : an = 0
  · exact .inl (A.a0 ha i hi).1
  · obtain ⟨h1, h2, h3, h4, h5, h6, h7⟩ := A.a1 (by omega)
    by_cases ht : i = top
    · subst ht; exact .inr (.inl ⟨h3, rfl, h4, h5, h6⟩)
    · obtain ⟨e, he1, he2, rfl⟩ := nd_ex (s := 0) (A.tp h1) hi ht
      have h8 := h7 e he1 he2
      by_cases hea : e < an
      · exact .inr (.inr ⟨(h8.1 hea).1, ht, (h8.1 hea).2, h5⟩)
      · exact .inl (h8.2 (by omega)).1

theorem node_dry (A : TA mode n I V tk an top done) (h2 : TL n tk an []) (hw : ∀ o, o < n → (V o).reach ≠ 0) {i : Nat} (hi : i < n) :
    ((V i).st = 2 ∧ i = top) ∨ ((V i).st = 1 ∧ i ≠ top) := by
  have ha := dry_an A h2 hw (by omega)
  obtain ⟨h1, h2, h3, h4, h5, h6, h7⟩ := A.a1 (by omega)
  by_cases ht : i = top
  · subst ht; exact .inl ⟨h3, rfl⟩
  · obtain ⟨e, he1, he2, rfl⟩ := nd_ex (s := 0) (A.tp h1) hi ht
    exact .inr ⟨((h7 e he1 he2).1 (by omega)).1, ht⟩

/-- The worst ring: the counts when the wire is dry. -/
theorem worst_dry (A : TA mode n I V tk an top done) (h2 : TL n tk an []) (C : TC mode n V tk an done len s1 s2 s3) (hm : mode = 0) (hw : ∀ o, o < n → (V o).reach ≠ 0) (a : Int) (hI : ∀ i, i < n → I i = a - i) :
    2 * s1 = n * n + n ∧ s3 = n := by
  by_cases hn : n = 0
  · subst hn
    have h1 := C.c12
    have h0 := C.c0 hm
    have h3 := C.c3
    have ha : an = 0 := by
      rcases Nat.eq_zero_or_pos an with h | h
      · exact h
      · have := (A.a1 h).1; omega
    subst ha
    simp [sm] at h1 h3 ⊢
    omega
  · have han := dry_an A h2 hw (by omega)
    have h3 := C.c3
    rw [if_neg (by omega)] at h3
    have hct : ∀ o, o < n → cost n V tk o = n - o := fun o ho => by
      rw [(cnt_cr A hm ho).1]
      have hnd : ∀ e, o + e < n → nd n 0 o e = o + e := fun e h => by simp [nd, h]
      have hnd2 : nd n 0 o (n - o) = 0 := by
        unfold nd; rw [if_pos rfl, if_neg (by omega)]; omega
      have h0 := hI 0 (by omega)
      have hIo := hI o ho
      have hok := A.tok o ho 0 (by omega)
      rcases dry_tok A h2 hw ho (by omega) (.inr rfl) with h | ⟨d, h⟩ | h
      · rw [h] at hok; have := hok.2.1; omega
      · rw [h] at hok ⊢
        simp only [cnt]
        obtain ⟨_, _, hd1, hdn, _, hgt, hsm⟩ := hok
        have hge : ¬ o + d < n := fun hlt => by
          rw [hnd d hlt, hI _ hlt] at hgt; push_cast at hgt; omega
        have hle : ¬ n - o < d := fun hlt => by
          have := hsm (n - o) (by omega) hlt
          rw [hnd2] at this; omega
        omega
      · rw [h] at hok ⊢
        simp only [cnt]
        have ht := hok.2.2.1
        have : o = 0 := by
          rcases Nat.eq_zero_or_pos o with h | h
          · exact h
          · have := A.mx 0 (by omega) (by omega)
            rw [← ht] at this; omega
        omega
    have h1 := C.c12
    rw [sm_congr hct] at h1
    have h0 := C.c0 hm
    have hn8 := A.n8
    have hall : ∀ k : Nat, k ≤ 8 → 2 * sm (fun o => (k : Int) - o) k = k * k + k := by
      intro k hk
      rcases (by omega : k = 0 ∨ k = 1 ∨ k = 2 ∨ k = 3 ∨ k = 4 ∨ k = 5 ∨ k = 6 ∨ k = 7 ∨ k = 8) with rfl | rfl | rfl | rfl | rfl | rfl | rfl | rfl | rfl <;> simp [sm]
    have := hall n hn8
    exact ⟨by omega, h3⟩
end
end Go.Proofs.Qxb6500369a
