/-
  THE NODE, PLAINLY: what each function of the real node computes, with no Go in sight; and how a node lies in memory.
-/
import Derived.Test.Qxb6500367aItoa
import Derived.Test.Qxb6500367aRow
import Derived.Test.Qxb6500367aCells
namespace Go.Proofs.Qxb6500367a
open Go.RowKit Go.Qx
set_option linter.unusedVariables false

/-- One node. -/
structure Nd where
  n : Nat
  id : Nat
  clock : Int
  phase : Int
  mine : Int
  q : List (Int × Int)
  got : List Bool
  acks : Int

def beforeP (a b : Int × Int) : Bool := if a.1 = b.1 then decide (a.2 < b.2) else decide (a.1 < b.1)

def headP : List (Int × Int) → Int
  | [] => -1
  | s :: _ => s.2

def heldP : List (Int × Int) → Int → Int
  | [], _ => 0
  | s :: r, j => if s.2 = j then s.1 else heldP r j

/-- The place where s goes, from i downwards. -/
def slot (s : Int × Int) (q : List (Int × Int)) : Nat → Nat
  | 0 => 0
  | i + 1 => if beforeP s (q.getD i (0, 0)) then slot s q i else i + 1

def insP (q : List (Int × Int)) (s : Int × Int) : List (Int × Int) := q.take (slot s q q.length) ++ s :: q.drop (slot s q q.length)

def hasP : List (Int × Int) → Int → Bool
  | [], _ => false
  | s :: r, j => if s.2 = j then true else hasP r j

def dropP : List (Int × Int) → Int → List (Int × Int)
  | [], _ => []
  | s :: r, j => if s.2 = j then r else s :: dropP r j

def hearP (s : Nd) (t : Int) : Nd := { s with clock := max s.clock t + 1 }

def enterP (s : Nd) : Nd := if s.phase = 1 ∧ s.acks = s.n - 1 ∧ s.q.head? = some (s.mine, (s.id : Int)) then { s with phase := 2 } else s

def askP (s : Nd) : Int × Nd :=
  if s.phase = 0 then (0, { s with clock := s.clock + 1, mine := s.clock + 1, q := insP s.q (s.clock + 1, s.id), phase := 1 }) else (5, s)

def quitP (s : Nd) : Int × Nd :=
  if s.phase = 2 then (0, { s with clock := s.clock + 1, q := dropP s.q s.id, got := List.replicate s.n false, acks := 0, mine := 0, phase := 0 }) else (5, s)

def reqP (s : Nd) (f t : Int) : Int × Nd :=
  if heldP s.q f = 0 then (0, { s with clock := max s.clock t + 1 + 1, q := insP s.q (t, f) }) else (5, s)

def ackP (s : Nd) (f t : Int) : Int × Nd :=
  if s.phase = 1 then
    if s.got.getD f.toNat false then (5, s)
    else if t ≤ s.mine then (5, s)
    else (0, { s with clock := max s.clock t + 1, got := s.got.set f.toNat true, acks := s.acks + 1 })
  else (5, s)

def relP (s : Nd) (f t : Int) : Int × Nd :=
  if hasP s.q f then (0, { s with clock := max s.clock t + 1, q := dropP s.q f }) else (5, s)

def evP (s : Nd) (k f t : Int) : Int × Nd :=
  if k = 1 then askP s else if k = 2 then quitP s else if k = 3 then reqP s f t else if k = 4 then ackP s f t else relP s f t

def errP (s : Nd) (k f t : Int) : Int :=
  if k < 1 ∨ 5 < k then 2
  else if 3 ≤ k ∧ (f < 0 ∨ (s.n : Int) ≤ f ∨ f = s.id) then 3
  else if 1152921504606846976 < s.clock then 4
  else if 3 ≤ k ∧ (t < 1 ∨ 1152921504606846976 < t) then 4
  else 0

/-- Step's answer and the node behind it. -/
def stepP (s : Nd) (k f t : Int) : (Int × Int × Int) × Nd :=
  if errP s k f t ≠ 0 then ((0, 0, errP s k f t), s)
  else if (evP s k f t).1 ≠ 0 then ((0, 0, (evP s k f t).1), (evP s k f t).2)
  else (((enterP (evP s k f t).2).clock, (enterP (evP s k f t).2).phase, 0), enterP (evP s k f t).2)

def field (s : List UInt8) (v : Int) : List UInt8 := s ++ itoa v ++ [32]

/-- The answers as bits, from place j on. -/
def bitsP : List Bool → Nat → Int
  | [], _ => 0
  | b :: r, j => (if b then 2 ^ j else 0) + bitsP r (j + 1)

def showP (s : Nd) : List UInt8 :=
  (List.range s.n).foldl (fun l (j : Nat) => field l (heldP s.q j)) (field (field (field (field (field [] s.id) s.clock) s.phase) (bitsP s.got 0)) (headP s.q))

def newP (n id : Nat) : Nd := { n := n, id := id, clock := 0, phase := 0, mine := 0, q := [], got := List.replicate n false, acks := 0 }

/-! ### In memory -/
def ptr (a : Nat) : Value := .pointer (some ⟨a, 0, none⟩)

def qCells : List (Int × Int) → List Value
  | [] => []
  | s :: r => .int .i64 s.1 :: .int .i64 s.2 :: qCells r

theorem qCells_length : ∀ q, (qCells q).length = q.length * 2
  | [] => rfl
  | s :: r => by simp only [qCells, List.length_cons, qCells_length r]; omega

theorem qCells_append : ∀ p q, qCells (p ++ q) = qCells p ++ qCells q
  | [], q => rfl
  | s :: r, q => by simp [qCells, qCells_append r q]

def nodeCells (s : Nd) (a b : Nat) : List Value :=
  [.int .i64 s.n, .int .i64 s.id, .int .i64 s.clock, .int .i64 s.phase, .int .i64 s.mine, .slice (some ⟨a, 0, none⟩) s.q.length s.n, .slice (some ⟨b, 0, none⟩) s.n s.n, .int .i64 s.acks]

structure Rep (w : World) (x a b : Nat) (s : Nd) : Prop where
  blk : Blk w x 72 (nodeCells s a b)
  row : ∃ sp, Blk w a 91 (qCells s.q ++ sp) ∧ (qCells s.q ++ sp).length = s.n * 2
  gb : Blk w b 4 (s.got.map Value.bool)
  na : a ≠ x
  nb : b ≠ x
  nab : a ≠ b
  n1 : 1 ≤ s.n
  n4 : s.n ≤ 4
  il : s.id < s.n
  ql : s.q.length ≤ s.n
  gl : s.got.length = s.n

/-- The blocks that a node owns. -/
def own (x a b : Nat) (k : Nat) : Prop := k = x ∨ k = a ∨ k = b

theorem Rep.of_chg {S : Nat → Prop} {w w' : World} {x a b : Nat} {s : Nd} (h : Rep w x a b s) (c : Chg S w w') (hS : ∀ k, S k → ¬ own x a b k) : Rep w' x a b s := by
  obtain ⟨sp, h1, h2⟩ := h.row
  exact { h with
    blk := c.blk h.blk (fun k => hS _ k (.inl rfl))
    row := ⟨sp, c.blk h1 (fun k => hS _ k (.inr (.inl rfl))), h2⟩
    gb := c.blk h.gb (fun k => hS _ k (.inr (.inr rfl))) }

theorem Rep.quiet {w w' : World} {x a b : Nat} {s : Nd} (h : Rep w x a b s) (c : Quiet w w') : Rep w' x a b s := h.of_chg c (fun _ f => f.elim)

theorem qCells_get : ∀ (q : List (Int × Int)) (i : Nat) (s : Int × Int) (sp : List Value), q[i]? = some s → (qCells q ++ sp)[i * 2]? = some (.int .i64 s.1) ∧ (qCells q ++ sp)[i * 2 + 1]? = some (.int .i64 s.2)
  | [], i, s, sp, h => by simp at h
  | c :: r, 0, s, sp, h => by
    simp at h; subst h; simp [qCells]
  | c :: r, i + 1, s, sp, h => by
    have := qCells_get r i s sp (by simpa using h)
    rw [show (i + 1) * 2 = i * 2 + 1 + 1 by omega]
    simpa [qCells] using this

end Go.Proofs.Qxb6500367a
