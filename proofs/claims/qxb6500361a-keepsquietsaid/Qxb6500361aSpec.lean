/-
  WHAT A STEP ANSWERS AND LEAVES, PLAINLY: over the keys with their values and heights, and the purse.
-/
import Derived.Test.Qxb6500361aCoin
import Derived.Test.Qxb6500361aLook
import Derived.Test.Qxb6500361aMod
import Derived.Test.Qxb6500361aDo
namespace Go.Proofs.Qxb6500361a
open Go.RowKit Go.Qx
set_option linter.unusedSimpArgs false
set_option linter.unusedVariables false

/-- A key, its value, its height. -/
abbrev K3 := Int × ByteArray × Nat

def kvh (nds : List Nd) : List K3 := nds.map fun d => (d.key, d.val, d.h)
def kv (ts : List K3) : List (Int × ByteArray) := ts.map fun t => (t.1, t.2.1)

structure Opr where
  k : Int
  a : Int
  b : Int
  c : Int
  s : ByteArray
  t : ByteArray

structure An where
  e : Int
  n : Int
  m : Int
  s : ByteArray

def opOf (o : Opr) : Value := opv o.k o.a o.b o.c o.s o.t
def anOf (x : An) : Value := ansv x.e x.n x.m x.s

def lo (k : Int) (ts : List K3) : List K3 := ts.takeWhile fun t => decide (t.1 < k)
def hi (k : Int) (ts : List K3) : List K3 := ts.dropWhile fun t => decide (t.1 < k)

def hit (k : Int) (ts : List K3) : Option (K3 × List K3) :=
  match hi k ts with
  | q :: r => if q.1 = k then some (q, r) else none
  | [] => none

theorem lo_hi {k : Int} {A B : List K3} (hA : ∀ t ∈ A, t.1 < k) (hB : ∀ t ∈ B, k ≤ t.1) : lo k (A ++ B) = A ∧ hi k (A ++ B) = B := by
  unfold lo hi
  have h1 : ∀ t ∈ A, decide (t.1 < k) = true := fun t ht => by simpa using hA t ht
  rw [List.takeWhile_append_of_pos h1, List.dropWhile_append_of_pos h1]
  cases B with
  | nil => simp
  | cons q B =>
    have := hB q (by simp)
    have h2 : decide (q.1 < k) = false := by simp; omega
    simp [List.takeWhile_cons, List.dropWhile_cons, h2]

theorem hit_some {k : Int} {A B : List K3} {q : K3} (hA : ∀ t ∈ A, t.1 < k) (hq : q.1 = k) (hB : ∀ t ∈ B, k ≤ t.1) : hit k (A ++ q :: B) = some (q, B) := by
  unfold hit
  rw [(lo_hi hA (fun t ht => by rcases List.mem_cons.1 ht with rfl | h; omega; exact hB t h)).2]
  simp [hq]

theorem hit_none {k : Int} {A B : List K3} (hA : ∀ t ∈ A, t.1 < k) (hB : ∀ t ∈ B, k < t.1) : hit k (A ++ B) = none := by
  unfold hit
  rw [(lo_hi hA (fun t ht => by have := hB t ht; omega)).2]
  cases B with
  | nil => rfl
  | cons q B => have := hB q (by simp); simp; omega

/-- The answer of a step. -/
def ansA (ts : List K3) (o : Opr) : An :=
  if o.k = 2 then ⟨if 8 < o.s.size then 1 else if (hit o.a ts).isSome then 0 else if 12 ≤ ts.length then 2 else 0, 0, 0, ⟨#[]⟩⟩
  else if o.k = 3 then (match hit o.a ts with | some (q, _) => ⟨0, 0, 0, q.2.1⟩ | none => ⟨3, 0, 0, ⟨#[]⟩⟩)
  else if o.k = 4 then ⟨if (hit o.a ts).isSome then 0 else 3, 0, 0, ⟨#[]⟩⟩
  else if o.k = 5 then (match hit o.a ts with | some (q, _) => ⟨0, q.1, 0, q.2.1⟩ | none => match (lo o.a ts).getLast? with | some d => ⟨0, d.1, 0, d.2.1⟩ | none => ⟨3, 0, 0, ⟨#[]⟩⟩)
  else if o.k = 6 then ⟨0, (mrng o.a o.b (kv ts)).length, 0, mpairs (mrng o.a o.b (kv ts))⟩
  else if o.k = 7 then ⟨0, 0, 0, mpairs (kv ts)⟩
  else if o.k = 8 then ⟨0, 1, 0, ⟨#[]⟩⟩
  else ⟨0, 0, 0, ⟨#[]⟩⟩

/-- The keys behind a step. -/
def nextT (ts : List K3) (p : List UInt8) (o : Opr) : List K3 :=
  if o.k = 2 then
    if 8 < o.s.size then ts else match hit o.a ts with
      | some (q, r) => lo o.a ts ++ (o.a, o.s, q.2.2) :: r
      | none => if 12 ≤ ts.length then ts else lo o.a ts ++ (o.a, o.s, (toss 7 p).1) :: hi o.a ts
  else if o.k = 4 then (match hit o.a ts with | some (_, r) => lo o.a ts ++ r | none => ts)
  else ts

/-- The purse behind a step. -/
def nextP (ts : List K3) (p : List UInt8) (o : Opr) : List UInt8 :=
  if o.k = 2 then
    if 8 < o.s.size then p else if (hit o.a ts).isSome then p else if 12 ≤ ts.length then p else (toss 7 p).2
  else p

theorem kv_kvh (nds : List Nd) : kv (kvh nds) = nds.map fun d => (d.key, d.val) := by unfold kv kvh; rw [List.map_map]; rfl

theorem pairs_same (nds : List Nd) : pairsStr nds = mpairs (kv (kvh nds)) := by
  rw [kv_kvh]; unfold pairsStr mpairs; rw [List.foldl_map]

theorem rng_same (a b : Int) (nds : List Nd) : mrng a b (kv (kvh nds)) = kv (kvh (rng a b nds)) := by
  rw [kv_kvh, kv_kvh]; unfold mrng rng; rw [List.filter_map]; rfl

theorem kvh_append (a b : List Nd) : kvh (a ++ b) = kvh a ++ kvh b := by unfold kvh; rw [List.map_append]
theorem kvh_cons (d : Nd) (b : List Nd) : kvh (d :: b) = (d.key, d.val, d.h) :: kvh b := rfl
theorem kv_append (a b : List K3) : kv (a ++ b) = kv a ++ kv b := by unfold kv; rw [List.map_append]
theorem kv_cons (d : K3) (b : List K3) : kv (d :: b) = (d.1, d.2.1) :: kv b := rfl
theorem kvh_length (a : List Nd) : (kvh a).length = a.length := by simp [kvh]
theorem kv_length (a : List K3) : (kv a).length = a.length := by simp [kv]
theorem mem_kvh {t : K3} {l : List Nd} (h : t ∈ kvh l) : ∃ d ∈ l, t = (d.key, d.val, d.h) := by
  unfold kvh at h; obtain ⟨d, hd, e⟩ := List.mem_map.1 h; exact ⟨d, hd, e.symm⟩
theorem mem_kv {p : Int × ByteArray} {l : List K3} (h : p ∈ kv l) : ∃ t ∈ l, p = (t.1, t.2.1) := by
  unfold kv at h; obtain ⟨d, hd, e⟩ := List.mem_map.1 h; exact ⟨d, hd, e.symm⟩

/-- Three ways of a key: it is there, or it is not. -/
theorem three (nds : List Nd) (k : Int) (hs : nds.Pairwise fun a b => a.key < b.key) :
    (∃ pre d suf, nds = pre ++ d :: suf ∧ d.key = k ∧ (∀ x ∈ pre, x.key < k) ∧ ∀ x ∈ suf, k < x.key) ∨ ∃ pre suf, nds = pre ++ suf ∧ (∀ x ∈ pre, x.key < k) ∧ ∀ x ∈ suf, k < x.key := by
  obtain ⟨pre, suf, rfl, h1, h2⟩ := split_at nds k hs
  cases suf with
  | nil => exact .inr ⟨pre, [], rfl, h1, by simp⟩
  | cons d suf =>
    have hs2 := (List.pairwise_append.1 hs).2.1
    rw [List.pairwise_cons] at hs2
    by_cases hk : d.key = k
    · left
      exact ⟨pre, d, suf, rfl, hk, h1, fun x hx => by have := hs2.1 x hx; omega⟩
    · right
      refine ⟨pre, d :: suf, rfl, h1, ?_⟩
      intro x hx
      have h3 := h2 d (by simp)
      rcases List.mem_cons.1 hx with rfl | hx
      · omega
      · have := hs2.1 x hx; omega
end Go.Proofs.Qxb6500361a
