/-
  369 Keeps: a delivery, plainly.
-/
import Derived.Test.Qxb6500369aKTurn
namespace Go.Proofs.Qxb6500369a
set_option linter.unusedVariables false
set_option linter.unusedSimpArgs false

def toP (n l : Nat) : Nat := if n = 0 ∨ 2 * n ≤ l then 0 else if l % 2 = 0 then (l / 2 + 1) % n else (l / 2 + n - 1) % n
theorem toP_nd {n i s : Nat} (hi : i < n) (hs : s < 2) : toP n (2 * i + s) = nd n s i 1 := by
  unfold toP nd
  rw [if_neg (by omega)]
  rcases (by omega : s = 0 ∨ s = 1) with rfl | rfl
  · rw [if_pos (by omega), if_pos rfl, show (2 * i + 0) / 2 = i by omega]
    by_cases h : i + 1 < n
    · rw [if_pos h, Nat.mod_eq_of_lt h]
    · rw [if_neg h, show i + 1 = n by omega, Nat.mod_self]; omega
  · rw [if_neg (by omega), if_neg (by omega), show (2 * i + 1) / 2 = i by omega]
    by_cases h : 1 ≤ i
    · rw [if_pos h, show i + n - 1 = (i - 1) + n by omega, Nat.add_mod_right, Nat.mod_eq_of_lt (by omega)]
    · rw [if_neg h, Nat.mod_eq_of_lt (by omega)]

def outsP (j : Nat) (o : Ou) : List (Nat × Ms) := (if o.cw.k = 0 then [] else [(2 * j, o.cw)]) ++ (if o.ccw.k = 0 then [] else [(2 * j + 1, o.ccw)])
def kc (k : Int) : List (Nat × Ms) → Int
  | [] => 0
  | p :: r => (if p.2.k = k then 1 else 0) + kc k r

theorem split_at {α : Type} : ∀ (L : List α) (k : Nat) (t : α), L[k]? = some t → ∃ L1 L2, L = L1 ++ t :: L2 ∧ L1.length = k
  | [], k, t, h => by simp at h
  | a :: r, 0, t, h => by simp at h; subst h; exact ⟨[], r, rfl, rfl⟩
  | a :: r, k + 1, t, h => by
    obtain ⟨L1, L2, e, hl⟩ := split_at r k t (by simpa using h)
    exact ⟨a :: L1, L2, by rw [e]; rfl, by simp [hl]⟩
theorem erase_mid {α : Type} : ∀ (L1 L2 : List α) (t : α), (L1 ++ t :: L2).eraseIdx L1.length = L1 ++ L2
  | [], L2, t => rfl
  | a :: r, L2, t => by simp [erase_mid r L2 t]

theorem fin_map {n : Nat} {tk : Nat → Nat → Tok} {an : Nat} {L1 L2 X : List Nat} {t : Nat} {f f' : Nat → Nat × Ms} {os : List (Nat × Ms)} (h : TL n tk an (L1 ++ t :: L2))
    (hc : ∀ x, inL n tk an x → x ≠ t → f' x = f x) (hX : X.map f' = os) : (L1 ++ L2 ++ X).map f' = ((L1 ++ t :: L2).map f).eraseIdx L1.length ++ os := by
  have e1 : ((L1 ++ t :: L2).map f).eraseIdx L1.length = (L1 ++ L2).map f := by
    rw [List.map_append, List.map_cons]
    have := erase_mid (L1.map f) (L2.map f) (f t)
    rw [List.length_map] at this
    rw [this, List.map_append]
  rw [e1, List.map_append, hX]
  congr 1
  apply List.map_congr_left
  intro x hx
  have := (split_mem (X := []) h.nd x).1 (by simpa using hx)
  simp at this
  exact hc x ((h.mem x).1 (by simpa using this.1)) this.2

theorem machK_id (mode : Int) (c : N5) (dir : Int) (m : Ms) : (machP mode c dir m).1.id = c.id := by
  unfold machP crP hsP crownP learnP
  repeat' split
  all_goals rfl
theorem mach_reach (mode : Int) (c : N5) (dir : Int) (m : Ms) (h : c.reach ≠ 0) : (machP mode c dir m).1.reach ≠ 0 := by
  unfold machP crP hsP crownP learnP
  repeat' split
  all_goals (simp only; omega)

/-- What a delivery leaves. -/
structure DelOk (mode : Int) (n : Nat) (I : Nat → Int) (V : Nat → N5) (top done : Nat) (s1 s2 s3 : Int) (wire : List (Nat × Ms)) (k l : Nat) (m : Ms) : Prop where
  jn : toP n l < n
  l2 : l < 2 * n
  dir : ((l % 2 : Nat) : Int) ≤ mode
  kind : 1 ≤ m.k ∧ m.k ≤ 3
  hop : 0 ≤ m.hop ∧ m.hop ≤ 8
  mid : ∃ o, o < n ∧ m.id = I o
  outs : ∀ p, p ∈ outsP (toP n l) (machP mode (V (toP n l)) ((l % 2 : Nat) : Int) m).2 → 1 ≤ p.2.k ∧ p.2.k ≤ 3
  next : ∃ tk' an' L', TA mode n I (upV V (toP n l) (machP mode (V (toP n l)) ((l % 2 : Nat) : Int) m).1) tk' an' top (done + 1) ∧ TL n tk' an' L' ∧
    TC mode n (upV V (toP n l) (machP mode (V (toP n l)) ((l % 2 : Nat) : Int) m).1) tk' an' (done + 1) L'.length
      (s1 + kc 1 (outsP (toP n l) (machP mode (V (toP n l)) ((l % 2 : Nat) : Int) m).2)) (s2 + kc 2 (outsP (toP n l) (machP mode (V (toP n l)) ((l % 2 : Nat) : Int) m).2)) (s3 + kc 3 (outsP (toP n l) (machP mode (V (toP n l)) ((l % 2 : Nat) : Int) m).2)) ∧
    L'.map (lab mode n I (upV V (toP n l) (machP mode (V (toP n l)) ((l % 2 : Nat) : Int) m).1) tk' an' top) = wire.eraseIdx k ++ outsP (toP n l) (machP mode (V (toP n l)) ((l % 2 : Nat) : Int) m).2

section
variable {mode : Int} {n : Nat} {I : Nat → Int} {V : Nat → N5} {tk : Nat → Nat → Tok} {an top done : Nat} {L1 L2 : List Nat} {s1 s2 s3 : Int}

/-- Out of the pieces. -/
theorem delOk_of {t l j : Nat} {m : Ms} (h2 : TL n tk an (L1 ++ t :: L2)) (hl : l < 2 * n) (hj : toP n l = j) (jn : j < n) (dir : ((l % 2 : Nat) : Int) ≤ mode) (kind : 1 ≤ m.k ∧ m.k ≤ 3) (hop : 0 ≤ m.hop ∧ m.hop ≤ 8) (mid : ∃ o, o < n ∧ m.id = I o)
    (c : N5) (ou : Ou) (os : List (Nat × Ms)) (hm : machP mode (V j) ((l % 2 : Nat) : Int) m = (c, ou)) (ho : outsP j ou = os) (hos : ∀ p, p ∈ os → 1 ≤ p.2.k ∧ p.2.k ≤ 3)
    (tk' : Nat → Nat → Tok) (an' : Nat) (X : List Nat) (A' : TA mode n I (upV V j c) tk' an' top (done + 1)) (L' : TL n tk' an' (L1 ++ L2 ++ X)) (C' : TC mode n (upV V j c) tk' an' (done + 1) (L1 ++ L2 ++ X).length (s1 + kc 1 os) (s2 + kc 2 os) (s3 + kc 3 os))
    (hc : ∀ x, inL n tk an x → x ≠ t → lab mode n I (upV V j c) tk' an' top x = lab mode n I V tk an top x) (hX : X.map (lab mode n I (upV V j c) tk' an' top) = os) :
    DelOk mode n I V top done s1 s2 s3 ((L1 ++ t :: L2).map (lab mode n I V tk an top)) L1.length l m := by
  subst hj
  refine ⟨jn, hl, dir, kind, hop, mid, ?_, tk', an', L1 ++ L2 ++ X, ?_, L', ?_, ?_⟩
  · rw [hm]; simp only; rw [ho]; exact hos
  · rw [hm]; exact A'
  · rw [hm]; simp only; rw [ho]; exact C'
  · rw [hm]; simp only; rw [ho]; exact fin_map h2 hc hX

/-- The announcement is delivered. -/
theorem del_an (A : TA mode n I V tk an top done) (h2 : TL n tk an (L1 ++ (2 * n) :: L2)) (C : TC mode n V tk an done (L1 ++ (2 * n) :: L2).length s1 s2 s3) (l : Nat) (m : Ms) (h : lab mode n I V tk an top (2 * n) = (l, m)) :
    DelOk mode n I V top done s1 s2 s3 ((L1 ++ (2 * n) :: L2).map (lab mode n I V tk an top)) L1.length l m := by
  have hin : inL n tk an (2 * n) := (h2.mem _).1 (by simp)
  obtain ⟨ha1, ha2⟩ := inL_an.1 hin
  have hn : 0 < n := by omega
  have ht := A.tp hn
  unfold lab at h
  rw [if_pos rfl] at h
  injection h with e1 e2
  subst e1 e2
  have hi : nd n 0 top (an - 1) < n := nd_lt ht (by omega)
  have hj : toP n (2 * nd n 0 top (an - 1)) = nd n 0 top an := by
    have := toP_nd (s := 0) hi (by omega)
    rw [show 2 * nd n 0 top (an - 1) + 0 = 2 * nd n 0 top (an - 1) by omega] at this
    rw [this, nd_step (by omega) ht (by omega)]
    congr 1; omega
  have hdir : (((2 * nd n 0 top (an - 1)) % 2 : Nat) : Int) ≤ mode := by
    have := A.md
    omega
  have hmach : ∀ c : N5, ∀ dir : Int, machP mode c dir ⟨3, I top, 0⟩ = learnP c ⟨3, I top, 0⟩ := by
    intro c dir
    unfold machP crP hsP
    rcases A.md with rfl | rfl <;> simp
  have hlen : ((L1 ++ (2 * n) :: L2).length : Int) = (L1 ++ L2).length + 1 := by simp; omega
  have htot := C.tot
  have hc3 := C.c3
  by_cases he : an = n
  · have hjt : nd n 0 top an = top := by rw [he]; exact nd_n ht
    rw [hjt] at hj
    refine delOk_of h2 (by omega) hj ht hdir ⟨by simp, by simp⟩ ⟨by simp, by simp⟩ ⟨top, ht, rfl⟩ (V top) o0 [] ?_ rfl (by simp) tk (n + 1) [] ?_ ?_ ?_ ?_ rfl
    · rw [hmach]; unfold learnP; rw [if_pos (A.id top ht).symm]
    · rw [upV_same]; exact A.over ha1 he
    · refine h2.turn (by simp) (fun x hx => by simp at hx) (fun x => ?_)
      by_cases hx : x = 2 * n
      · subst hx; rw [inL_an]; simp
      · rw [inL_ne (an' := an) hx]; simp [hx]
    · rw [upV_same]
      refine ⟨?_, by simpa [kc] using C.c12, ?_, by simpa [kc] using C.c0, by simpa [kc] using C.p1, by simpa [kc] using C.p2⟩
      · simp only [kc, List.append_nil]; push_cast at htot hlen ⊢; omega
      · simp only [kc]; rw [if_neg (by omega)]; rw [if_pos (by omega)] at hc3; omega
    · intro x hx hne
      rw [upV_same]
      unfold lab; rw [if_neg hne, if_neg hne]
  · have hne := nd_ne (s := 0) ht ha1 (by omega : an < n)
    have hjn : nd n 0 top an < n := nd_lt ht (by omega)
    refine delOk_of h2 (by omega) hj hjn hdir ⟨by simp, by simp⟩ ⟨by simp, by simp⟩ ⟨top, ht, rfl⟩ { V (nd n 0 top an) with lead := I top, st := 1 } ⟨⟨3, I top, 0⟩, m0⟩ [(2 * nd n 0 top an, ⟨3, I top, 0⟩)] ?_ ?_ (by simp) tk (an + 1) [2 * n] ?_ ?_ ?_ ?_ ?_
    · rw [hmach]; unfold learnP; rw [if_neg (by rw [A.id _ hjn]; exact fun e => (A.ds _ _ hjn ht hne) e.symm)]
    · simp [outsP, m0]
    · exact A.heard ha1 (by omega) _ rfl
    · refine h2.turn (by simp) (fun x hx _ => by simpa using hx) (fun x => ?_)
      by_cases hx : x = 2 * n
      · subst hx; rw [inL_an]; simp; omega
      · rw [inL_ne (an' := an) hx]; simp [hx]
    · refine ⟨?_, ?_, ?_, by simpa [kc] using C.c0, by simpa [kc] using C.p1, by simpa [kc] using C.p2⟩
      · simp only [kc]; push_cast at htot hlen ⊢; simp at htot hlen ⊢; omega
      · have : sm (cost n (upV V (nd n 0 top an) { V (nd n 0 top an) with lead := I top, st := 1 }) tk) n = sm (cost n V tk) n := sm_congr (fun j hj => cost_V (by
          by_cases h : j = nd n 0 top an
          · rw [h, upV_at]
          · rw [upV_ne h]))
        rw [this]; simpa [kc] using C.c12
      · simp [kc]; rw [if_pos (by omega)]; rw [if_pos (by omega)] at hc3; omega
    · intro x hx hne'
      unfold lab; rw [if_neg hne', if_neg hne']
      congr 1
      by_cases h : x / 2 = nd n 0 top an
      · rw [h, upV_at]
      · rw [upV_ne h]
    · simp [lab]

/-- A probe that comes to a lesser node goes on, in Chang-Roberts. -/
theorem mach_pass0 (c : N5) (dir : Int) (i hop : Int) (h : c.id < i) : machP 0 c dir ⟨1, i, hop⟩ = (c, ⟨⟨1, i, hop⟩, m0⟩) := by
  unfold machP crP; simp [h]
theorem mach_pass1 (c : N5) (dir : Int) (i hop : Int) (h : c.id < i) (hh : 1 < hop) : machP 1 c dir ⟨1, i, hop⟩ = (c, towardP dir ⟨1, i, hop - 1⟩) := by
  unfold machP hsP; simp [hh, show ¬ i ≤ c.id by omega]
theorem mach_turn1 (c : N5) (dir : Int) (i hop : Int) (h : c.id < i) (hh : hop ≤ 1) : machP 1 c dir ⟨1, i, hop⟩ = (c, towardP (1 - dir) ⟨2, i, 0⟩) := by
  unfold machP hsP; simp [show ¬ 1 < hop by omega, show ¬ i ≤ c.id by omega]
theorem mach_less {mode : Int} (hm : mode = 0 ∨ mode = 1) (c : N5) (dir : Int) (i hop : Int) (h : i < c.id) : machP mode c dir ⟨1, i, hop⟩ = (c, o0) := by
  unfold machP crP hsP crownP
  rcases hm with rfl | rfl
  · simp [show ¬ c.id < i by omega, show i ≠ c.id by omega]
  · simp [show i ≤ c.id by omega, show i ≠ c.id by omega]
theorem mach_own2 {mode : Int} (hm : mode = 0 ∨ mode = 1) (c : N5) (dir : Int) (hop : Int) (h : c.st = 2) : machP mode c dir ⟨1, c.id, hop⟩ = (c, o0) := by
  unfold machP crP hsP crownP
  rcases hm with rfl | rfl
  · simp [h]
  · simp [h]
theorem mach_own {mode : Int} (hm : mode = 0 ∨ mode = 1) (c : N5) (dir : Int) (hop : Int) (h : c.st ≠ 2) : machP mode c dir ⟨1, c.id, hop⟩ = ({ c with lead := c.id, st := 2 }, ⟨⟨3, c.id, 0⟩, m0⟩) := by
  unfold machP crP hsP crownP
  rcases hm with rfl | rfl
  · simp [h]
  · simp [h]
theorem outs_toward {j s : Nat} (hs : s < 2) (m : Ms) (hk : m.k ≠ 0) : outsP j (towardP (s : Int) m) = [(2 * j + s, m)] := by
  rcases (by omega : s = 0 ∨ s = 1) with rfl | rfl
  · simp [outsP, towardP, m0, hk]
  · simp [outsP, towardP, m0, hk]

/-- A probe is delivered. -/
theorem del_out (A : TA mode n I V tk an top done) (o s d : Nat) (ho : o < n) (hs : s < 2) (hT : tk o s = .out d) (h2 : TL n tk an (L1 ++ (2 * o + s) :: L2)) (C : TC mode n V tk an done (L1 ++ (2 * o + s) :: L2).length s1 s2 s3) (l : Nat) (m : Ms) (h : lab mode n I V tk an top (2 * o + s) = (l, m)) :
    DelOk mode n I V top done s1 s2 s3 ((L1 ++ (2 * o + s) :: L2).map (lab mode n I V tk an top)) L1.length l m := by
  have hok := A.tok o ho s hs
  rw [hT] at hok
  obtain ⟨hR, hms, hd1, hdn, hdR, hdd, hsm⟩ := hok
  rw [lab_at ho hs, hT] at h
  unfold postP at h
  injection h with e1 e2
  subst e1 e2
  have hi : nd n s o (d - 1) < n := nd_lt ho (by omega)
  have hj : toP n (2 * nd n s o (d - 1) + s) = nd n s o d := by
    rw [toP_nd hi hs, nd_step hs ho (by omega)]
    congr 1; omega
  have hjn : nd n s o d < n := nd_lt ho hdn
  have hl2 : (2 * nd n s o (d - 1) + s) % 2 = s := by omega
  have hll : 2 * nd n s o (d - 1) + s < 2 * n := by omega
  have hdir : (((2 * nd n s o (d - 1) + s) % 2 : Nat) : Int) ≤ mode := by
    rw [hl2]
    have := A.md
    omega
  have hrv := A.rv o ho
  have hhop : 0 ≤ hopP mode (V o).reach d ∧ hopP mode (V o).reach d ≤ 8 := by
    unfold hopP
    split
    · omega
    · have := A.md
      have := hdR (by omega)
      omega
  have hhm : hm (tk o s) = 0 := by rw [hT]; rfl
  have hcn : cnt n (V o).reach (tk o s) = d := by rw [hT]; rfl
  have hlen : ((L1 ++ (2 * o + s) :: L2).length : Int) = (L1 ++ L2).length + 1 := by simp; omega
  have hVid := A.id _ hjn
  have hP1 := C.p1
  have hP2 := C.p2
  have hC0 := C.c0
  rcases Int.lt_trichotomy (I (nd n s o d)) (I o) with hlt | heq | hgt
  · have hdn' : d < n := by
      rcases Nat.lt_or_ge d n with h | h
      · exact h
      · exfalso
        have : d = n := by omega
        rw [this, nd_n ho] at hlt
        omega
    have hsm' : ∀ e, 1 ≤ e → e < d + 1 → I (nd n s o e) < I o := fun e h1 h2 => by
      by_cases he : e = d
      · subst he; exact hlt
      · exact hsm e h1 (by omega)
    have hkeep : ∀ T : Tok, ∀ x, inL n tk an x → x ≠ 2 * o + s → lab mode n I (upV V (nd n s o d) (V (nd n s o d))) (upd tk o s T) an top x = lab mode n I V tk an top x := fun T x _ hx => by
      rw [upV_same]; exact lab_ne hs hx (fun _ => rfl) (fun _ => rfl)
    rcases A.md with hm0 | hm1
    · subst hm0
      have hs0 : s = 0 := by omega
      subst hs0
      have hho : hopP 0 (V o).reach d = 1 := by simp [hopP]
      refine delOk_of h2 hll hj hjn hdir ⟨by simp, by simp⟩ hhop ⟨o, ho, rfl⟩ (V (nd n 0 o d)) ⟨⟨1, I o, hopP 0 (V o).reach d⟩, m0⟩ [(2 * nd n 0 o d, ⟨1, I o, hopP 0 (V o).reach d⟩)] ?_ ?_ (by simp) (upd tk o 0 (.out (d + 1))) an [2 * o + 0] ?_ ?_ ?_ (hkeep _) ?_
      · exact mach_pass0 _ _ _ _ (by rw [hVid]; exact hlt)
      · simp [outsP, m0]
      · rw [upV_same]
        exact A.turn _ ⟨hR, hms, by omega, by omega, fun h => by omega, by omega, hsm'⟩ (by rw [hhm]; rfl)
      · exact h2.fwd ho hs rfl
      · rw [upV_same]
        refine C.turn ho hs _ (fun _ _ => rfl) _ an _ _ _ 1 ?_ ?_ ?_ ?_ ?_ ?_ ?_
        · (simp [kc] <;> try omega)
        · rw [hcn]; simp [cnt]
        · simp [kc]; exact C.c3
        · (simp [kc] at hlen ⊢ <;> try omega)
        · intro h; simp [kc]; exact hC0 h
        · (simp [kc] <;> try omega)
        · (simp [kc] <;> try omega)
      · rw [upV_same]
        simp only [List.map_cons, List.map_nil]
        rw [lab_at ho hs, upd_at]
        simp [postP, hopP]
    · subst hm1
      have hdR1 := hdR rfl
      have hdirs : (((2 * nd n s o (d - 1) + s) % 2 : Nat) : Int) = (s : Int) := by rw [hl2]
      by_cases hgo : (d : Int) < (V o).reach
      · have hho : hopP 1 (V o).reach d = (V o).reach - d + 1 := by simp [hopP]
        refine delOk_of h2 hll hj hjn hdir ⟨by simp, by simp⟩ hhop ⟨o, ho, rfl⟩ (V (nd n s o d)) (towardP (s : Int) ⟨1, I o, hopP 1 (V o).reach d - 1⟩) [(2 * nd n s o d + s, ⟨1, I o, hopP 1 (V o).reach d - 1⟩)] ?_ ?_ (by simp) (upd tk o s (.out (d + 1))) an [2 * o + s] ?_ ?_ ?_ (hkeep _) ?_
        · rw [hdirs]; exact mach_pass1 _ _ _ _ (by rw [hVid]; exact hlt) (by rw [hho]; omega)
        · exact outs_toward hs _ (by simp)
        · rw [upV_same]
          exact A.turn _ ⟨hR, hms, by omega, by omega, fun h => by push_cast; omega, by omega, hsm'⟩ (by rw [hhm]; rfl)
        · exact h2.fwd ho hs rfl
        · rw [upV_same]
          refine C.turn ho hs _ (fun _ _ => rfl) _ an _ _ _ 1 ?_ ?_ ?_ ?_ ?_ ?_ ?_
          · (simp [kc] <;> try omega)
          · rw [hcn]; simp [cnt]
          · simp [kc]; exact C.c3
          · (simp [kc] at hlen ⊢ <;> try omega)
          · intro h; omega
          · (simp [kc] <;> try omega)
          · (simp [kc] <;> try omega)
        · rw [upV_same]
          simp only [List.map_cons, List.map_nil]
          rw [lab_at ho hs, upd_at]
          simp [postP, hopP]; omega
      · have hho : hopP 1 (V o).reach d = (V o).reach - d + 1 := by simp [hopP]
        have hRd : (V o).reach = d := by omega
        refine delOk_of h2 hll hj hjn hdir ⟨by simp, by simp⟩ hhop ⟨o, ho, rfl⟩ (V (nd n s o d)) (towardP ((1 - s : Nat) : Int) ⟨2, I o, 0⟩) [(2 * nd n s o d + (1 - s), ⟨2, I o, 0⟩)] ?_ ?_ (by simp) (upd tk o s (.back d)) an [2 * o + s] ?_ ?_ ?_ (hkeep _) ?_
        · rw [hdirs, show ((1 - s : Nat) : Int) = 1 - (s : Int) by omega]; exact mach_turn1 _ _ _ _ (by rw [hVid]; exact hlt) (by rw [hho]; omega)
        · exact outs_toward (by omega) _ (by simp)
        · rw [upV_same]
          exact A.turn _ ⟨hR, rfl, by omega, by omega, by omega, fun e h1 h2 => hsm' e h1 (by omega)⟩ (by rw [hhm]; rfl)
        · exact h2.fwd ho hs rfl
        · rw [upV_same]
          refine C.turn ho hs _ (fun _ _ => rfl) _ an _ _ _ 1 ?_ ?_ ?_ ?_ ?_ ?_ ?_
          · (simp [kc] <;> try omega)
          · rw [hcn]; simp [cnt]; omega
          · simp [kc]; exact C.c3
          · (simp [kc] at hlen ⊢ <;> try omega)
          · intro h; omega
          · (simp [kc] <;> try omega)
          · (simp [kc] <;> try omega)
        · rw [upV_same]
          simp only [List.map_cons, List.map_nil]
          rw [lab_at ho hs, upd_at]
          simp [postP]
  · have hjo : nd n s o d = o := by
      rcases Nat.decEq (nd n s o d) o with h | h
      · exact absurd heq (A.ds _ _ hjn ho h)
      · exact h
    have hdn' : d = n := by
      rcases Nat.lt_or_ge d n with h | h
      · exact absurd hjo (nd_ne ho hd1 h)
      · omega
    have hot : o = top := by
      rcases Nat.decEq o top with h | h
      · exfalso
        have h1 := A.mx o ho h
        have ht := A.tp (by omega)
        obtain ⟨e, he1, he2, he3⟩ := nd_ex (s := s) ho ht (fun e => h e.symm)
        have := hsm e he1 (by omega)
        rw [he3] at this
        omega
      · exact h
    have hVo := A.id o ho
    have hTr : ∀ a, 1 ≤ a → TokOk mode n I (V o).reach (done + 1) top a o s .round := fun a ha => ⟨hR, hms, hot, fun h => by have := hdR h; omega, by omega, ha⟩
    rw [hjo] at hj
    by_cases ha : an = 0
    · subst hot
      have hst : (V o).st = 0 := (A.a0 ha o ho).1
      refine delOk_of h2 hll hj ho hdir ⟨by simp, by simp⟩ hhop ⟨o, ho, rfl⟩ { V o with lead := (V o).id, st := 2 } ⟨⟨3, I o, 0⟩, m0⟩ [(2 * o, ⟨3, I o, 0⟩)] ?_ ?_ (by simp) (upd tk o s .round) 1 [2 * n] ?_ ?_ ?_ ?_ ?_
      · have := mach_own A.md (V o) (((2 * nd n s o (d - 1) + s) % 2 : Nat) : Int) (hopP mode (V o).reach d) (by omega)
        rw [← hVo]
        exact this
      · simp [outsP, m0]
      · exact A.crown ho hs ha (hTr 1 (by omega)) hhm _ rfl
      · refine h2.turn (by simp) (fun x hx hin => by
          exfalso
          have : x = 2 * n := by simpa using hx
          subst this
          have := (inL_an.1 hin).1
          omega) (fun x => ?_)
        by_cases hx : x = 2 * n
        · subst hx; rw [inL_an]; simp; omega
        · by_cases hx' : x = 2 * o + s
          · subst hx'
            rw [inL_at ho hs, upd_at]; simp [fly]; omega
          · rw [inL_upd hs x hx', inL_ne (an' := an) hx]; simp [hx, hx']
      · refine C.turn ho hs _ (fun j _ => ?_) _ 1 _ _ _ 0 ?_ ?_ ?_ ?_ ?_ ?_ ?_
        · by_cases h : j = o
          · rw [h, upV_at]
          · rw [upV_ne h]
        · simp [kc]
        · rw [hcn]; simp [cnt]; omega
        · have := C.c3
          rw [if_pos (by omega)] at this
          rw [if_pos (by omega)]
          (simp [kc] <;> try omega)
        · have := C.c3
          rw [if_pos (by omega)] at this
          (simp [kc] at hlen ⊢ <;> try omega)
        · intro h; simp [kc]; exact hC0 h
        · (simp [kc] <;> try omega)
        · (simp [kc] <;> try omega)
      · intro x hx hne
        refine lab_ne hs hne (fun _ => ?_) (fun h => ?_)
        · by_cases h : x / 2 = o
          · rw [h, upV_at]
          · rw [upV_ne h]
        · subst h
          have := (inL_an.1 hx).1
          omega
      · simp [lab, nd_zero ho]
    · have h2t : (V o).st = 2 := by rw [hot]; exact (A.a1 (by omega)).2.2.1
      refine delOk_of h2 hll hj ho hdir ⟨by simp, by simp⟩ hhop ⟨o, ho, rfl⟩ (V o) o0 [] ?_ rfl (by simp) (upd tk o s .round) an [] ?_ ?_ ?_ ?_ rfl
      · have := mach_own2 A.md (V o) (((2 * nd n s o (d - 1) + s) % 2 : Nat) : Int) (hopP mode (V o).reach d) h2t
        rw [hVo] at this
        exact this
      · rw [upV_same]; exact A.turn _ (hTr an (by omega)) (by rw [hhm]; rfl)
      · exact h2.die ho hs rfl
      · rw [upV_same]
        refine C.turn ho hs _ (fun _ _ => rfl) _ an _ _ _ 0 ?_ ?_ ?_ ?_ ?_ ?_ ?_
        · simp [kc]
        · rw [hcn]; simp [cnt]; omega
        · simp [kc]; exact C.c3
        · (simp [kc] at hlen ⊢ <;> try omega)
        · intro h; simp [kc]; exact hC0 h
        · (simp [kc] <;> try omega)
        · (simp [kc] <;> try omega)
      · intro x hx hne
        rw [upV_same]; exact lab_ne hs hne (fun _ => rfl) (fun _ => rfl)
  · have hdn' : d < n := by
      rcases Nat.lt_or_ge d n with h | h
      · exact h
      · exfalso
        have : d = n := by omega
        rw [this, nd_n ho] at hgt
        omega
    refine delOk_of h2 hll hj hjn hdir ⟨by simp, by simp⟩ hhop ⟨o, ho, rfl⟩ (V (nd n s o d)) o0 [] ?_ rfl (by simp) (upd tk o s (.dead d)) an [] ?_ ?_ ?_ ?_ rfl
    · exact mach_less A.md _ _ _ _ (by rw [hVid]; exact hgt)
    · rw [upV_same]
      exact A.turn _ ⟨hR, hms, hd1, hdn', hdR, hgt, hsm⟩ (by rw [hhm]; rfl)
    · exact h2.die ho hs rfl
    · rw [upV_same]
      refine C.turn ho hs _ (fun _ _ => rfl) _ an _ _ _ 0 ?_ ?_ ?_ ?_ ?_ ?_ ?_
      · simp [kc]
      · rw [hcn]; simp [cnt]
      · simp [kc]; exact C.c3
      · (simp [kc] at hlen ⊢ <;> try omega)
      · intro h; simp [kc]; exact hC0 h
      · (simp [kc] <;> try omega)
      · (simp [kc] <;> try omega)
    · intro x hx hne
      rw [upV_same]; exact lab_ne hs hne (fun _ => rfl) (fun _ => rfl)
end
end Go.Proofs.Qxb6500369a
