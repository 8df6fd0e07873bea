/-
  THE RING, PLAINLY; and how the two rings lie in memory.
-/
import Derived.Test.Qxb6500363aItoa
import Derived.Test.Qxb6500363aCells
namespace Go.Proofs.Qxb6500363a
open Go.RowKit Go.Qx
set_option linter.unusedVariables false

def bit (b : Bool) : Int := if b then 1 else 0

/-- S2: machine i's privilege. -/
def priv (xs : List Int) (i : Nat) : Bool := if i = 0 then decide (xs.getD 0 0 = xs.getD (xs.length - 1) 0) else decide (xs.getD i 0 ≠ xs.getD (i - 1) 0)

def hots (xs : List Int) : List Bool := (List.range xs.length).map (priv xs)

def cnt : List Bool → Int
  | [] => 0
  | h :: r => bit h + cnt r

/-- The weight of machine i among n. -/
def wt (n i : Nat) : Int := if i = 0 then 0 else (n : Int) - i

def wsum (n : Nat) : List Bool → Nat → Int
  | [], _ => 0
  | h :: r, i => bit h * wt n i + wsum n r (i + 1)

theorem bit_bound (b : Bool) : 0 ≤ bit b ∧ bit b ≤ 1 := by cases b <;> simp [bit]

theorem cnt_set : ∀ (hs : List Bool) (i : Nat) (h : Bool) (hi : i < hs.length), cnt (hs.set i h) = cnt hs + (bit h - bit hs[i])
  | [], i, h, hi => by simp at hi
  | b :: r, 0, h, hi => by simp [cnt]; omega
  | b :: r, i + 1, h, hi => by
    have := cnt_set r i h (by simpa using hi)
    simp [cnt, this]; omega

theorem wsum_set (n : Nat) : ∀ (hs : List Bool) (o i : Nat) (h : Bool) (hi : i < hs.length), wsum n (hs.set i h) o = wsum n hs o + (bit h - bit hs[i]) * wt n (o + i)
  | [], o, i, h, hi => by simp at hi
  | b :: r, o, 0, h, hi => by
    simp only [List.set_cons_zero, wsum, List.getElem_cons_zero, Nat.add_zero]
    rw [Int.sub_mul]; omega
  | b :: r, o, i + 1, h, hi => by
    have := wsum_set n r (o + 1) i h (by simpa using hi)
    simp only [List.set_cons_succ, wsum, List.getElem_cons_succ, this]
    rw [show o + 1 + i = o + (i + 1) by omega]; omega

theorem cnt_bound : ∀ hs, 0 ≤ cnt hs ∧ cnt hs ≤ (hs.length : Int)
  | [] => by simp [cnt]
  | b :: r => by
    have := cnt_bound r
    have h := bit_bound b
    simp only [cnt, List.length_cons]; omega

theorem wt_bound (n i : Nat) (h : i ≤ n) : 0 ≤ wt n i ∧ wt n i ≤ (n : Int) := by unfold wt; split <;> omega

theorem wsum_bound (n : Nat) : ∀ hs o, o + hs.length ≤ n → 0 ≤ wsum n hs o ∧ wsum n hs o ≤ (hs.length : Int) * n
  | [], o, _ => by simp [wsum]
  | b :: r, o, h => by
    simp only [List.length_cons] at h
    have ih := wsum_bound n r (o + 1) (by omega)
    have hw := wt_bound n o (by omega)
    have hm : 0 ≤ bit b * wt n o ∧ bit b * wt n o ≤ (n : Int) := by
      cases b
      · simp [bit]
      · simp [bit]; exact hw
    simp only [wsum, List.length_cons]
    rw [show ((r.length + 1 : Nat) : Int) * n = r.length * n + n by rw [Int.natCast_add, Int.add_mul]; simp]
    omega

theorem hots_length (xs : List Int) : (hots xs).length = xs.length := by simp [hots]
theorem hots_get (xs : List Int) (i : Nat) (hi : i < xs.length) : (hots xs)[i]? = some (priv xs i) := by simp [hots, hi]

/-! ### In memory -/
def ptr (a : Nat) : Value := .pointer (some ⟨a, 0, none⟩)
def ints (xs : List Int) : List Value := xs.map (Value.int .i64)
def bools (hs : List Bool) : List Value := hs.map Value.bool

/-- What a ring is: 2 .. 6 machines, n ≤ k ≤ 8, each value in 0 .. k-1. -/
structure Ok (k : Int) (xs : List Int) : Prop where
  n2 : 2 ≤ xs.length
  n6 : xs.length ≤ 6
  k1 : (xs.length : Int) ≤ k
  k8 : k ≤ 8
  v : ∀ x ∈ xs, 0 ≤ x ∧ x < k

/-- The real ring: its block r, the values' row a, the flags' row b. The two sums go with the flags. -/
structure RepR (w : World) (r a b : Nat) (k : Int) (xs : List Int) (hs : List Bool) : Prop where
  blk : Blk w r 51 [.int .i64 k, .slice (some ⟨a, 0, none⟩) xs.length xs.length, .slice (some ⟨b, 0, none⟩) xs.length xs.length, .int .i64 (cnt hs), .int .i64 (wsum xs.length hs 0)]
  xb : Blk w a 3 (ints xs)
  hb : Blk w b 4 (bools hs)
  ra : a ≠ r
  rb : b ≠ r
  ab : a ≠ b
  hl : hs.length = xs.length

structure RepM (w : World) (m c : Nat) (k : Int) (xs : List Int) : Prop where
  blk : Blk w m 67 [.int .i64 k, .slice (some ⟨c, 0, none⟩) xs.length xs.length]
  xb : Blk w c 3 (ints xs)
  mc : c ≠ m

def ownR (r a b : Nat) (k : Nat) : Prop := k = r ∨ k = a ∨ k = b
def ownM (m c : Nat) (k : Nat) : Prop := k = m ∨ k = c

theorem RepR.of_chg {S : Nat → Prop} {w w' : World} {r a b : Nat} {k : Int} {xs : List Int} {hs : List Bool} (h : RepR w r a b k xs hs) (c : Chg S w w') (hS : ∀ k, S k → ¬ ownR r a b k) : RepR w' r a b k xs hs :=
  { h with blk := c.blk h.blk (fun s => hS _ s (.inl rfl)), xb := c.blk h.xb (fun s => hS _ s (.inr (.inl rfl))), hb := c.blk h.hb (fun s => hS _ s (.inr (.inr rfl))) }

theorem RepR.quiet {w w' : World} {r a b : Nat} {k : Int} {xs : List Int} {hs : List Bool} (h : RepR w r a b k xs hs) (c : Quiet w w') : RepR w' r a b k xs hs := h.of_chg c (fun _ f => f.elim)

theorem RepM.of_chg {S : Nat → Prop} {w w' : World} {m d : Nat} {k : Int} {xs : List Int} (h : RepM w m d k xs) (c : Chg S w w') (hS : ∀ k, S k → ¬ ownM m d k) : RepM w' m d k xs :=
  { h with blk := c.blk h.blk (fun s => hS _ s (.inl rfl)), xb := c.blk h.xb (fun s => hS _ s (.inr rfl)) }

theorem RepM.quiet {w w' : World} {m d : Nat} {k : Int} {xs : List Int} (h : RepM w m d k xs) (c : Quiet w w') : RepM w' m d k xs := h.of_chg c (fun _ f => f.elim)

theorem RepR.cells {w : World} {r a b : Nat} {k : Int} {xs : List Int} {hs : List Bool} (h : RepR w r a b k xs hs) :
    w.cell? ⟨r, 0, none⟩ = some (.int .i64 k) ∧ w.cell? ⟨r, 1, none⟩ = some (.slice (some ⟨a, 0, none⟩) xs.length xs.length) ∧ w.cell? ⟨r, 2, none⟩ = some (.slice (some ⟨b, 0, none⟩) xs.length xs.length) ∧ w.cell? ⟨r, 3, none⟩ = some (.int .i64 (cnt hs)) ∧ w.cell? ⟨r, 4, none⟩ = some (.int .i64 (wsum xs.length hs 0)) :=
  ⟨h.blk.cell 0, h.blk.cell 1, h.blk.cell 2, h.blk.cell 3, h.blk.cell 4⟩

theorem ints_get (xs : List Int) (i : Nat) (hi : i < xs.length) : (ints xs)[i]? = some (.int .i64 (xs.getD i 0)) := by
  simp [ints, List.getD_eq_getElem?_getD, hi]

theorem bools_get (hs : List Bool) (i : Nat) (hi : i < hs.length) : (bools hs)[i]? = some (.bool (hs.getD i false)) := by
  simp [bools, List.getD_eq_getElem?_getD, hi]

theorem RepR.x {w : World} {r a b : Nat} {k : Int} {xs : List Int} {hs : List Bool} (h : RepR w r a b k xs hs) (i : Nat) (hi : i < xs.length) : w.cell? ⟨a, i, none⟩ = some (.int .i64 (xs.getD i 0)) := (h.xb.cell i).trans (ints_get xs i hi)
theorem RepR.h {w : World} {r a b : Nat} {k : Int} {xs : List Int} {hs : List Bool} (h : RepR w r a b k xs hs) (i : Nat) (hi : i < xs.length) : w.cell? ⟨b, i, none⟩ = some (.bool (hs.getD i false)) := (h.hb.cell i).trans (bools_get hs i (by rw [h.hl]; exact hi))
theorem RepM.x {w : World} {m c : Nat} {k : Int} {xs : List Int} (h : RepM w m c k xs) (i : Nat) (hi : i < xs.length) : w.cell? ⟨c, i, none⟩ = some (.int .i64 (xs.getD i 0)) := (h.xb.cell i).trans (ints_get xs i hi)
theorem RepM.cells {w : World} {m c : Nat} {k : Int} {xs : List Int} (h : RepM w m c k xs) : w.cell? ⟨m, 0, none⟩ = some (.int .i64 k) ∧ w.cell? ⟨m, 1, none⟩ = some (.slice (some ⟨c, 0, none⟩) xs.length xs.length) := ⟨h.blk.cell 0, h.blk.cell 1⟩

theorem chg1 (w : World) (x o : Nat) (v : Value) : Chg (fun k => k = x) w (w.setCell ⟨x, o, none⟩ v) := Chg.setCell (S := fun k => k = x) (p := ⟨x, o, none⟩) (Chg.refl _ w) (.inl rfl) v

/-- One value turned (the flags as they were). -/
theorem RepR.setX {w : World} {r a b : Nat} {k : Int} {xs : List Int} {hs : List Bool} (h : RepR w r a b k xs hs) (i : Nat) (v : Int) : RepR (w.setCell ⟨a, i, none⟩ (.int .i64 v)) r a b k (xs.set i v) hs := by
  have c := chg1 w a i (.int .i64 v)
  refine ⟨?_, ?_, c.blk h.hb (Ne.symm h.ab), h.ra, h.rb, h.ab, by rw [List.length_set]; exact h.hl⟩
  · rw [List.length_set]; exact c.blk h.blk (Ne.symm h.ra)
  · have := h.xb.set i (.int .i64 v)
    unfold ints at *
    rw [List.map_set]; exact this

theorem RepM.setX {w : World} {m c : Nat} {k : Int} {xs : List Int} (h : RepM w m c k xs) (i : Nat) (v : Int) : RepM (w.setCell ⟨c, i, none⟩ (.int .i64 v)) m c k (xs.set i v) := by
  have ch := chg1 w c i (.int .i64 v)
  refine ⟨?_, ?_, h.mc⟩
  · rw [List.length_set]; exact ch.blk h.blk (Ne.symm h.mc)
  · have := h.xb.set i (.int .i64 v)
    unfold ints at *
    rw [List.map_set]; exact this

/-! ### The steps, plainly -/
def fitP (n k : Int) : Int := if n < 2 ∨ 6 < n then 1 else if k < n ∨ 8 < k then 2 else 0

def normP (v k : Int) : Int := if k < 1 then 0 else if v.tmod k < 0 then v.tmod k + k else v.tmod k

def loadX (k : Int) (s : List UInt8) : List Int := s.map fun c => (c.toNat : Int).tmod k

def moveX (k : Int) (xs : List Int) (i : Nat) : List Int := if i = 0 then xs.set 0 ((xs.getD 0 0 + 1).tmod k) else xs.set i (xs.getD (i - 1) 0)

/-- Whom Kick takes: from place i on, j privileged ones to be passed over. -/
def kickAt : List Bool → Nat → Int → Int
  | [], _, _ => -1
  | h :: r, i, j => if h then (if j = 0 then (i : Int) else kickAt r (i + 1) (j - 1)) else kickAt r (i + 1) j

def cellP (s : List UInt8) (v : Int) (h : Bool) : List UInt8 := if h then s ++ [42] ++ itoa v ++ [44] else s ++ itoa v ++ [44]
def headP (k t p : Int) : List UInt8 := itoa k ++ [47] ++ itoa t ++ [47] ++ itoa p ++ [58]
def showTo (k : Int) (xs : List Int) (n : Nat) : List UInt8 := (List.range n).foldl (fun s i => cellP s (xs.getD i 0) (priv xs i)) (headP k (cnt (hots xs)) (wsum xs.length (hots xs) 0))
def showP (k : Int) (xs : List Int) : List UInt8 := showTo k xs xs.length

theorem showTo_succ (k : Int) (xs : List Int) (n : Nat) : showTo k xs (n + 1) = cellP (showTo k xs n) (xs.getD n 0) (priv xs n) := by
  unfold showTo; rw [List.range_succ, List.foldl_append]; rfl
end Go.Proofs.Qxb6500363a
