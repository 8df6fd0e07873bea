/-
  369 Keeps: THE RING PLAINLY: tokens. Each node's probe of the running phase is a token a side; what flies is what the tokens say.
-/
import Derived.Test.Qxb6500369aPlain
namespace Go.Proofs.Qxb6500369a
set_option linter.unusedVariables false
set_option linter.unusedSimpArgs false

/-- A node's probe on one side: not born; on its way to the node at distance d; its reply on its way from the node at distance d; the reply home; swallowed at distance d; once round. -/
inductive Tok where
  | idle
  | out (d : Nat)
  | back (d : Nat)
  | home
  | dead (d : Nat)
  | round

/-- The node at distance d from o, clockwise (s = 0) or against it. -/
def nd (n s o d : Nat) : Nat := if s = 0 then (if o + d < n then o + d else o + d - n) else (if d ≤ o then o - d else o + n - d)

theorem nd_lt {n s o d : Nat} (ho : o < n) (hd : d ≤ n) : nd n s o d < n := by
  unfold nd; repeat' split
  all_goals omega
theorem nd_zero {n s o : Nat} (ho : o < n) : nd n s o 0 = o := by
  unfold nd; repeat' split
  all_goals omega
theorem nd_n {n s o : Nat} (ho : o < n) : nd n s o n = o := by
  unfold nd; repeat' split
  all_goals omega
theorem nd_ne {n s o d : Nat} (ho : o < n) (h1 : 1 ≤ d) (hd : d < n) : nd n s o d ≠ o := by
  unfold nd; repeat' split
  all_goals omega
theorem nd_inj {n s o d e : Nat} (ho : o < n) (hd : d < n) (he : e < n) (h : nd n s o d = nd n s o e) : d = e := by
  unfold nd at h; revert h; repeat' split
  all_goals omega
theorem nd_step {n s o d : Nat} (hs : s < 2) (ho : o < n) (hd : d < n) : nd n s (nd n s o d) 1 = nd n s o (d + 1) := by
  unfold nd; repeat' split
  all_goals omega
theorem nd_back {n s o d : Nat} (hs : s < 2) (ho : o < n) (hd1 : 1 ≤ d) (hd : d ≤ n) : nd n (1 - s) (nd n s o d) 1 = nd n s o (d - 1) := by
  unfold nd; repeat' split
  all_goals omega
theorem nd_ex {n s o j : Nat} (ho : o < n) (hj : j < n) (hne : j ≠ o) : ∃ d, 1 ≤ d ∧ d < n ∧ nd n s o d = j := by
  unfold nd
  by_cases hs : s = 0
  · by_cases h : o < j
    · refine ⟨j - o, by omega, by omega, ?_⟩
      rw [if_pos hs, if_pos (by omega)]; omega
    · refine ⟨j + n - o, by omega, by omega, ?_⟩
      rw [if_pos hs, if_neg (by omega)]; omega
  · by_cases h : o < j
    · refine ⟨o + n - j, by omega, by omega, ?_⟩
      rw [if_neg hs, if_neg (by omega)]; omega
    · refine ⟨o - j, by omega, by omega, ?_⟩
      rw [if_neg hs, if_pos (by omega)]; omega

def fly : Tok → Bool
  | .out _ => true
  | .back _ => true
  | _ => false
def hm : Tok → Int
  | .home => 1
  | _ => 0
def cnt (n : Nat) (R : Int) : Tok → Int
  | .idle => 0
  | .out d => d
  | .back d => 2 * R - d + 1
  | .home => 2 * R
  | .dead d => d
  | .round => n
def hopP (mode R : Int) (d : Nat) : Int := if mode = 0 then 1 else R - d + 1
def postP (mode : Int) (n : Nat) (I : Nat → Int) (R : Int) (o s : Nat) : Tok → Nat × Ms
  | .out d => (2 * nd n s o (d - 1) + s, ⟨1, I o, hopP mode R d⟩)
  | .back d => (2 * nd n s o d + (1 - s), ⟨2, I o, 0⟩)
  | _ => (0, m0)
/-- What flies under the label t: t < 2n: node t/2's token of side t%2; t = 2n: the announcement. -/
def lab (mode : Int) (n : Nat) (I : Nat → Int) (V : Nat → N5) (tk : Nat → Nat → Tok) (an top t : Nat) : Nat × Ms :=
  if t = 2 * n then (2 * nd n 0 top (an - 1), ⟨3, I top, 0⟩) else postP mode n I (V (t / 2)).reach (t / 2) (t % 2) (tk (t / 2) (t % 2))

def inL (n : Nat) (tk : Nat → Nat → Tok) (an t : Nat) : Prop := (t < 2 * n ∧ fly (tk (t / 2) (t % 2)) = true) ∨ (t = 2 * n ∧ 1 ≤ an ∧ an ≤ n)

def TokOk (mode : Int) (n : Nat) (I : Nat → Int) (R : Int) (done top an o s : Nat) : Tok → Prop
  | .idle => R = 0 ∨ (mode = 0 ∧ s = 1)
  | .out d => 1 ≤ R ∧ (mode = 1 ∨ s = 0) ∧ 1 ≤ d ∧ d ≤ n ∧ (mode = 1 → (d : Int) ≤ R) ∧ d ≤ done + 1 ∧ ∀ e, 1 ≤ e → e < d → I (nd n s o e) < I o
  | .back d => 1 ≤ R ∧ mode = 1 ∧ 1 ≤ d ∧ (d : Int) ≤ R ∧ R < n ∧ ∀ e : Nat, 1 ≤ e → (e : Int) ≤ R → I (nd n s o e) < I o
  | .home => 1 ≤ R ∧ mode = 1 ∧ R < n ∧ ∀ e : Nat, 1 ≤ e → (e : Int) ≤ R → I (nd n s o e) < I o
  | .dead d => 1 ≤ R ∧ (mode = 1 ∨ s = 0) ∧ 1 ≤ d ∧ d < n ∧ (mode = 1 → (d : Int) ≤ R) ∧ I o < I (nd n s o d) ∧ ∀ e, 1 ≤ e → e < d → I (nd n s o e) < I o
  | .round => 1 ≤ R ∧ (mode = 1 ∨ s = 0) ∧ o = top ∧ (mode = 1 → (n : Int) ≤ R) ∧ n ≤ done ∧ 1 ≤ an

theorem TokOk.mono {mode : Int} {n : Nat} {I : Nat → Int} {R : Int} {done done' top an an' o s : Nat} {T : Tok} (h : TokOk mode n I R done top an o s T) (hd : done ≤ done') (ha : 1 ≤ an → 1 ≤ an') : TokOk mode n I R done' top an' o s T := by
  cases T with
  | idle => exact h
  | out d => obtain ⟨h1, h2, h3, h4, h5, h6, h7⟩ := h; exact ⟨h1, h2, h3, h4, h5, by omega, h7⟩
  | back d => exact h
  | home => exact h
  | dead d => exact h
  | round => obtain ⟨h1, h2, h3, h4, h5, h6⟩ := h; exact ⟨h1, h2, h3, h4, by omega, ha h6⟩

def sm (f : Nat → Int) : Nat → Int
  | 0 => 0
  | n + 1 => sm f n + f n
theorem sm_congr {f g : Nat → Int} : ∀ {n : Nat}, (∀ j, j < n → f j = g j) → sm f n = sm g n
  | 0, _ => rfl
  | n + 1, h => by rw [sm, sm, sm_congr (fun j hj => h j (by omega)), h n (by omega)]
theorem sm_upd {f g : Nat → Int} {i : Nat} : ∀ {n : Nat}, i < n → (∀ j, j < n → j ≠ i → g j = f j) → sm g n = sm f n - f i + g i
  | 0, h, _ => by omega
  | n + 1, h, hf => by
    rw [sm, sm]
    by_cases e : i = n
    · subst e
      rw [sm_congr (fun j hj => hf j (by omega) (by omega))]; omega
    · rw [sm_upd (i := i) (f := f) (by omega) (fun j hj hne => hf j (by omega) hne), hf n (by omega) (fun h => e h.symm)]; omega
theorem sm_le {f g : Nat → Int} : ∀ {n : Nat}, (∀ j, j < n → f j ≤ g j) → sm f n ≤ sm g n
  | 0, _ => Int.le_refl _
  | n + 1, h => by
    rw [sm, sm]
    have := sm_le (n := n) (fun j hj => h j (by omega))
    have := h n (by omega)
    omega

def cost (n : Nat) (V : Nat → N5) (tk : Nat → Nat → Tok) (o : Nat) : Int :=
  (if (V o).reach ≤ 1 then 0 else 4 * ((V o).reach - 1)) + cnt n (V o).reach (tk o 0) + cnt n (V o).reach (tk o 1)

/-- The nodes and the tokens agree. -/
structure TA (mode : Int) (n : Nat) (I : Nat → Int) (V : Nat → N5) (tk : Nat → Nat → Tok) (an top done : Nat) : Prop where
  md : mode = 0 ∨ mode = 1
  n8 : n ≤ 8
  tp : 0 < n → top < n
  mx : ∀ j, j < n → j ≠ top → I j < I top
  ds : ∀ i j, i < n → j < n → i ≠ j → I i ≠ I j
  id : ∀ o, o < n → (V o).id = I o
  tok : ∀ o, o < n → ∀ s, s < 2 → TokOk mode n I (V o).reach done top an o s (tk o s)
  rv : ∀ o, o < n → (V o).reach = 0 ∨ (V o).reach = 1 ∨ (V o).reach = 2 ∨ (V o).reach = 4 ∨ (V o).reach = 8
  hf : ∀ o, o < n → ∀ r : Nat, (V o).reach = 2 * r → 1 ≤ r → mode = 1 ∧ r < n ∧ ∀ s, s < 2 → ∀ e, 1 ≤ e → e ≤ r → I (nd n s o e) < I o
  gt : ∀ o, o < n → (V o).got = hm (tk o 0) + hm (tk o 1) ∧ (V o).got ≤ 1
  a0 : an = 0 → ∀ j, j < n → (V j).st = 0 ∧ (V j).lead = 0
  a1 : 1 ≤ an → 0 < n ∧ an ≤ n + 1 ∧ (V top).st = 2 ∧ (V top).lead = I top ∧ n ≤ done ∧ (mode = 1 → (n : Int) ≤ (V top).reach) ∧
    ∀ e, 1 ≤ e → e < n → (e < an → (V (nd n 0 top e)).st = 1 ∧ (V (nd n 0 top e)).lead = I top) ∧ (an ≤ e → (V (nd n 0 top e)).st = 0 ∧ (V (nd n 0 top e)).lead = 0)

/-- The labels in flight. -/
structure TL (n : Nat) (tk : Nat → Nat → Tok) (an : Nat) (L : List Nat) : Prop where
  nd : L.Nodup
  mem : ∀ t, t ∈ L ↔ inL n tk an t

/-- The counts. -/
structure TC (mode : Int) (n : Nat) (V : Nat → N5) (tk : Nat → Nat → Tok) (an done len : Nat) (s1 s2 s3 : Int) : Prop where
  tot : s1 + s2 + s3 = done + len
  c12 : s1 + s2 = sm (cost n V tk) n
  c3 : s3 = if an ≤ n then (an : Int) else (n : Int)
  c0 : mode = 0 → s2 = 0
  p1 : 0 ≤ s1
  p2 : 0 ≤ s2

/-! ### Labels: one out, some in -/
theorem split_nodup {L1 L2 X : List Nat} {t : Nat} (h : (L1 ++ t :: L2).Nodup) (hX : X.Nodup) (hf : ∀ x, x ∈ X → x ∈ L1 ++ t :: L2 → x = t) : (L1 ++ L2 ++ X).Nodup := by
  have hp : (L1 ++ t :: L2).Perm (t :: (L1 ++ L2)) := List.perm_middle
  have h2 : (t :: (L1 ++ L2)).Nodup := hp.nodup_iff.1 h
  rw [List.nodup_cons] at h2
  rw [List.nodup_append]
  refine ⟨h2.2, hX, ?_⟩
  intro a ha b hb hab
  subst hab
  have : a = t := hf a hb (hp.mem_iff.2 (List.mem_cons_of_mem _ ha))
  subst this
  exact h2.1 ha
theorem split_mem {L1 L2 X : List Nat} {t : Nat} (h : (L1 ++ t :: L2).Nodup) (x : Nat) : x ∈ L1 ++ L2 ++ X ↔ (x ∈ L1 ++ t :: L2 ∧ x ≠ t) ∨ x ∈ X := by
  have hp : (L1 ++ t :: L2).Perm (t :: (L1 ++ L2)) := List.perm_middle
  have h2 : (t :: (L1 ++ L2)).Nodup := hp.nodup_iff.1 h
  rw [List.nodup_cons] at h2
  rw [List.mem_append, hp.mem_iff, List.mem_cons]
  constructor
  · rintro (h3 | h3)
    · exact .inl ⟨.inr h3, fun e => h2.1 (e ▸ h3)⟩
    · exact .inr h3
  · rintro (⟨h3 | h3, h4⟩ | h3)
    · exact absurd h3 h4
    · exact .inl h3
    · exact .inr h3

theorem TL.turn {n : Nat} {tk tk' : Nat → Nat → Tok} {an an' : Nat} {L1 L2 X : List Nat} {t : Nat} (h : TL n tk an (L1 ++ t :: L2)) (hX : X.Nodup) (hf : ∀ x, x ∈ X → inL n tk an x → x = t)
    (hm : ∀ x, inL n tk' an' x ↔ (inL n tk an x ∧ x ≠ t) ∨ x ∈ X) : TL n tk' an' (L1 ++ L2 ++ X) :=
  ⟨split_nodup h.nd hX (fun x h1 h2 => hf x h1 ((h.mem x).1 h2)), fun x => by rw [split_mem h.nd, h.mem, hm]⟩
theorem TL.more {n : Nat} {tk tk' : Nat → Nat → Tok} {an an' : Nat} {L X : List Nat} (h : TL n tk an L) (hX : X.Nodup) (hf : ∀ x, x ∈ X → ¬ inL n tk an x)
    (hm : ∀ x, inL n tk' an' x ↔ inL n tk an x ∨ x ∈ X) : TL n tk' an' (L ++ X) :=
  ⟨by
    rw [List.nodup_append]
    refine ⟨h.nd, hX, ?_⟩
    intro a ha b hb hab
    subst hab
    exact hf a hb ((h.mem a).1 ha), fun x => by rw [List.mem_append, h.mem, hm]⟩

/-- No more than 2n + 1 fly. -/
theorem nodup_len : ∀ (m : Nat) (L : List Nat), L.Nodup → (∀ t, t ∈ L → t < m) → L.length ≤ m
  | 0, L, _, h => by
    cases L with
    | nil => simp
    | cons a r => exact absurd (h a (by simp)) (by omega)
  | m + 1, L, hn, h => by
    by_cases hm : m ∈ L
    · have h1 := nodup_len m (L.erase m) (hn.erase m) (fun t ht => by
        have h2 := h t (List.mem_of_mem_erase ht)
        have h3 : t ≠ m := fun e => by subst e; exact (List.Nodup.not_mem_erase hn) ht
        omega)
      rw [List.length_erase_of_mem hm] at h1
      omega
    · have h1 := nodup_len m L hn (fun t ht => by
        have h2 := h t ht
        have h3 : t ≠ m := fun e => hm (e ▸ ht)
        omega)
      omega
theorem TL.len {n : Nat} {tk : Nat → Nat → Tok} {an : Nat} {L : List Nat} (h : TL n tk an L) : L.length ≤ 2 * n + 1 :=
  nodup_len (2 * n + 1) L h.nd (fun t ht => by
    rcases (h.mem t).1 ht with h1 | h1
    · omega
    · omega)

def upd (tk : Nat → Nat → Tok) (o s : Nat) (T : Tok) : Nat → Nat → Tok := fun o' s' => if o' = o ∧ s' = s then T else tk o' s'
theorem upd_at (tk : Nat → Nat → Tok) (o s : Nat) (T : Tok) : upd tk o s T o s = T := by simp [upd]
theorem upd_ne {tk : Nat → Nat → Tok} {o s : Nat} {T : Tok} {o' s' : Nat} (h : ¬ (o' = o ∧ s' = s)) : upd tk o s T o' s' = tk o' s' := by simp [upd, h]
def upV (V : Nat → N5) (i : Nat) (c : N5) : Nat → N5 := fun j => if j = i then c else V j
theorem upV_at (V : Nat → N5) (i : Nat) (c : N5) : upV V i c i = c := by simp [upV]
theorem upV_ne {V : Nat → N5} {i : Nat} {c : N5} {j : Nat} (h : j ≠ i) : upV V i c j = V j := by simp [upV, h]
theorem upV_same (V : Nat → N5) (i : Nat) : upV V i (V i) = V := by
  funext j; by_cases h : j = i
  · subst h; exact upV_at _ _ _
  · exact upV_ne h
end Go.Proofs.Qxb6500369a
