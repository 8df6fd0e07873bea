/-
  THE RING, PLAINLY: nodes, rules, how a ring lies in memory.
-/
import Derived.Test.Qxb6500369aItoa
import Derived.Test.Qxb6500369aRow
import Derived.Test.Qxb6500369aCells
import Derived.Test.Qxb6500369aLibB
import Derived.Deep.RegionLaw
import Derived.Laws.Cover4
import Derived.OwnWalk
namespace Go.Proofs.Qxb6500369a
open Go.RowKit Go.Qx
set_option linter.unusedVariables false
set_option linter.unusedSimpArgs false

/-- A node. -/
structure N5 where
  id : Int
  st : Int
  lead : Int
  reach : Int
  got : Int

/-- A message. -/
structure Ms where
  k : Int
  id : Int
  hop : Int

def m0 : Ms := ⟨0, 0, 0⟩

/-- What a step sends. -/
structure Ou where
  cw : Ms
  ccw : Ms

def o0 : Ou := ⟨m0, m0⟩

def towardP (dir : Int) (m : Ms) : Ou := if dir = 0 then ⟨m, m0⟩ else ⟨m0, m⟩

def crownP (c : N5) (m : Ms) : N5 × Ou :=
  if m.id ≠ c.id ∨ c.st = 2 then (c, o0) else ({ c with lead := c.id, st := 2 }, ⟨⟨3, c.id, 0⟩, m0⟩)

def learnP (c : N5) (m : Ms) : N5 × Ou :=
  if m.id = c.id then (c, o0) else ({ c with lead := m.id, st := 1 }, ⟨m, m0⟩)

def crP (c : N5) (m : Ms) : N5 × Ou :=
  if m.k = 4 then (if c.reach = 0 then ({ c with reach := 1 }, ⟨⟨1, c.id, 1⟩, m0⟩) else (c, o0))
  else if m.k = 1 then (if c.id < m.id then (c, ⟨m, m0⟩) else crownP c m)
  else if m.k = 3 then learnP c m
  else (c, o0)

def openP (c : N5) : Ou := ⟨⟨1, c.id, c.reach⟩, ⟨1, c.id, c.reach⟩⟩

def hsP (c : N5) (dir : Int) (m : Ms) : N5 × Ou :=
  if m.k = 4 then (if c.reach ≠ 0 then (c, o0) else ({ c with reach := 1 }, openP { c with reach := 1 }))
  else if m.k = 1 then
    if m.id ≤ c.id then crownP c m
    else if 1 < m.hop then (c, towardP dir ⟨1, m.id, m.hop - 1⟩)
    else (c, towardP (1 - dir) ⟨2, m.id, 0⟩)
  else if m.k = 2 then
    if m.id ≠ c.id then (c, towardP dir m)
    else if c.reach < 1 ∨ 8 ≤ c.reach then (c, o0)
    else if c.got = 0 then ({ c with got := 1 }, o0)
    else ({ c with got := 0, reach := 2 * c.reach }, openP { c with got := 0, reach := 2 * c.reach })
  else if m.k = 3 then learnP c m
  else (c, o0)

/-- The mode's machine. -/
def machP (mode : Int) (c : N5) (dir : Int) (m : Ms) : N5 × Ou := if mode = 0 then crP c m else hsP c dir m

def probesP (mode : Int) (c : N5) : Ou := if mode = 0 then ⟨⟨1, c.id, c.reach⟩, m0⟩ else ⟨⟨1, c.id, c.reach⟩, ⟨1, c.id, c.reach⟩⟩

/-- The model's table. -/
def ruleP (mode : Int) (d : N5) (dir : Int) (m : Ms) : N5 × Ou :=
  if m.k = 4 ∧ d.reach = 0 then ({ d with reach := 1 }, probesP mode { d with reach := 1 })
  else if m.k = 1 ∧ m.id = d.id ∧ d.st ≠ 2 then ({ d with st := 2, lead := d.id }, ⟨⟨3, d.id, 0⟩, m0⟩)
  else if m.k = 1 ∧ d.id < m.id ∧ mode = 0 then (d, ⟨m, m0⟩)
  else if m.k = 1 ∧ d.id < m.id ∧ 1 < m.hop then (d, towardP dir ⟨1, m.id, m.hop - 1⟩)
  else if m.k = 1 ∧ d.id < m.id then (d, towardP (1 - dir) ⟨2, m.id, 0⟩)
  else if m.k = 2 ∧ mode = 1 ∧ m.id ≠ d.id then (d, towardP dir m)
  else if m.k = 2 ∧ mode = 1 ∧ 1 ≤ d.reach ∧ d.reach < 8 ∧ d.got = 0 then ({ d with got := 1 }, o0)
  else if m.k = 2 ∧ mode = 1 ∧ 1 ≤ d.reach ∧ d.reach < 8 then ({ d with got := 0, reach := 2 * d.reach }, probesP mode { d with got := 0, reach := 2 * d.reach })
  else if m.k = 3 ∧ m.id ≠ d.id then ({ d with st := 1, lead := m.id }, ⟨m, m0⟩)
  else (d, o0)

theorem rule_mach (mode : Int) (hm : mode = 0 ∨ mode = 1) (d : N5) (dir : Int) (m : Ms) : ruleP mode d dir m = machP mode d dir m := by
  obtain ⟨id, st, lead, reach, got⟩ := d
  obtain ⟨k, mi, hop⟩ := m
  by_cases e4 : k = 4
  · subst e4
    rcases hm with rfl | rfl <;> by_cases er : reach = 0 <;> simp [ruleP, machP, crP, hsP, probesP, openP, er]
  by_cases e1 : k = 1
  · subst e1
    rcases Int.lt_trichotomy mi id with hlt | rfl | hgt
    · have a1 : ¬ mi = id := by omega
      have a2 : ¬ id < mi := by omega
      have a3 : mi ≤ id := by omega
      rcases hm with rfl | rfl <;> simp [ruleP, machP, crP, hsP, crownP, a1, a2, a3]
    · by_cases es : st = 2
      · rcases hm with rfl | rfl <;> simp [ruleP, machP, crP, hsP, crownP, es]
      · rcases hm with rfl | rfl <;> simp [ruleP, machP, crP, hsP, crownP, es]
    · have a1 : ¬ mi = id := by omega
      have a3 : ¬ mi ≤ id := by omega
      rcases hm with rfl | rfl <;> by_cases eh : 1 < hop <;> simp [ruleP, machP, crP, hsP, crownP, a1, hgt, a3, eh]
  by_cases e2 : k = 2
  · subst e2
    rcases hm with rfl | rfl
    · simp [ruleP, machP, crP]
    · by_cases ei : mi = id
      · by_cases er : reach < 1 ∨ 8 ≤ reach
        · have a1 : ¬ (1 ≤ reach ∧ reach < 8) := by omega
          have a2 : ¬ (1 ≤ reach ∧ reach < 8 ∧ got = 0) := by omega
          simp only [ruleP, machP, hsP, ei, er, a1, a2]; simp
        · have a1 : 1 ≤ reach := by omega
          have a2 : reach < 8 := by omega
          by_cases eg : got = 0 <;> simp [ruleP, machP, hsP, ei, er, a1, a2, eg, probesP, openP]
      · simp [ruleP, machP, hsP, ei]
  by_cases e3 : k = 3
  · subst e3
    rcases hm with rfl | rfl <;> by_cases ei : mi = id <;> simp [ruleP, machP, crP, hsP, learnP, ei]
  · rcases hm with rfl | rfl <;> simp [ruleP, machP, crP, hsP, e4, e1, e2, e3]

/-- A lawful node. -/
structure Ok5 (mode : Int) (c : N5) : Prop where
  st : c.st = 0 ∨ c.st = 1 ∨ c.st = 2
  got : c.got = 0 ∨ c.got = 1
  reach : c.reach = 0 ∨ c.reach = 1 ∨ c.reach = 2 ∨ c.reach = 4 ∨ c.reach = 8
  l0 : c.st = 0 → c.lead = 0
  l2 : c.st = 2 → c.lead = c.id
  off : mode = -1 → c.st = 0 ∧ c.lead = 0 ∧ c.reach = 0 ∧ c.got = 0
  cr : mode = 0 → c.reach ≤ 1 ∧ c.got = 0
  i : -9223372036854775808 ≤ c.id ∧ c.id ≤ 9223372036854775807
  l : -9223372036854775808 ≤ c.lead ∧ c.lead ≤ 9223372036854775807

def MsIn (m : Ms) : Prop := -9223372036854775808 ≤ m.id ∧ m.id ≤ 9223372036854775807

theorem ok_mach {mode : Int} (hm : mode = 0 ∨ mode = 1) {c : N5} (h : Ok5 mode c) (dir : Int) (m : Ms) (hi : MsIn m) : Ok5 mode (machP mode c dir m).1 := by
  have hcr : Ok5 mode (crownP c m).1 := by
    unfold crownP
    split
    · exact h
    · exact ⟨.inr (.inr rfl), h.got, h.reach, fun e => by simp at e, fun _ => rfl, fun e => by rcases hm with rfl | rfl <;> omega, h.cr, h.i, h.i⟩
  have hle : Ok5 mode (learnP c m).1 := by
    unfold learnP
    split
    · exact h
    · exact ⟨.inr (.inl rfl), h.got, h.reach, fun e => by simp at e, fun e => by simp at e, fun e => by rcases hm with rfl | rfl <;> omega, h.cr, h.i, hi⟩
  have hw : c.reach = 0 → Ok5 mode { c with reach := 1 } := fun e =>
    ⟨h.st, h.got, .inr (.inl rfl), h.l0, h.l2, fun e => by rcases hm with rfl | rfl <;> omega, fun e => ⟨by simp, (h.cr e).2⟩, h.i, h.l⟩
  unfold machP
  split
  · unfold crP
    split
    · split
      · rename_i e; exact hw e
      · exact h
    · split
      · split
        · exact h
        · exact hcr
      · split
        · exact hle
        · exact h
  · rename_i hm0
    have hm1 : mode = 1 := by omega
    unfold hsP
    split
    · split
      · exact h
      · rename_i e; exact hw (by omega)
    · split
      · split
        · exact hcr
        · split <;> exact h
      · split
        · split
          · exact h
          · split
            · exact h
            · split
              · exact ⟨h.st, .inr rfl, h.reach, h.l0, h.l2, fun e => by omega, fun e => by omega, h.i, h.l⟩
              · rename_i e1 e2
                refine ⟨h.st, .inl rfl, ?_, h.l0, h.l2, fun e => by omega, fun e => by omega, h.i, h.l⟩
                have := h.reach
                simp only; omega
        · split
          · exact hle
          · exact h

/-! ### In memory -/
def ptr (a : Nat) : Value := .pointer (some ⟨a, 0, none⟩)

def rc (c : N5) : List Value := [.int .i64 c.id, .int .i64 c.lead, .int .i64 c.reach, .int .u8 (c.st + 4 * c.got)]
def mc (c : N5) : List Value := [.int .i64 c.id, .int .i64 c.st, .int .i64 c.lead, .int .i64 c.reach, .int .i64 c.got]
def msC (m : Ms) : List Value := [.int .i64 m.k, .int .i64 m.id, .int .i64 m.hop]
def msV (m : Ms) : Value := .agg #[.int .i64 m.k, .int .i64 m.id, .int .i64 m.hop]
def ouC (o : Ou) : List Value := msC o.cw ++ msC o.ccw
def ouV (o : Ou) : Value := .agg #[.int .i64 o.cw.k, .int .i64 o.cw.id, .int .i64 o.cw.hop, .int .i64 o.ccw.k, .int .i64 o.ccw.id, .int .i64 o.ccw.hop]

def flat (f : N5 → List Value) : List N5 → List Value
  | [] => []
  | c :: r => f c ++ flat f r

theorem flat_length {f : N5 → List Value} {n : Nat} (hf : ∀ c, (f c).length = n) : ∀ ns, (flat f ns).length = ns.length * n
  | [] => by simp [flat]
  | c :: r => by simp [flat, hf, flat_length hf r, Nat.succ_mul]; omega

theorem flat_append (f : N5 → List Value) : ∀ a b, flat f (a ++ b) = flat f a ++ flat f b
  | [], b => rfl
  | c :: r, b => by simp [flat, flat_append f r b]

theorem flat_get {f : N5 → List Value} {n : Nat} (hf : ∀ c, (f c).length = n) : ∀ (ns : List N5) (i j : Nat) (c : N5) (sp : List Value), ns[i]? = some c → j < n → (flat f ns ++ sp)[i * n + j]? = (f c)[j]?
  | [], i, j, c, sp, h, hj => by simp at h
  | d :: r, 0, j, c, sp, h, hj => by
    simp at h; subst h
    simp only [flat, Nat.zero_mul, Nat.zero_add, List.append_assoc]
    rw [List.getElem?_append_left (by rw [hf]; exact hj)]
  | d :: r, i + 1, j, c, sp, h, hj => by
    have ih := flat_get hf r i j c sp (by simpa using h) hj
    simp only [flat, List.append_assoc]
    rw [List.getElem?_append_right (by rw [hf, Nat.succ_mul]; omega), hf, ← ih]
    congr 1
    rw [Nat.succ_mul]; omega

theorem flat_set {f : N5 → List Value} {n : Nat} (hf : ∀ c, (f c).length = n) : ∀ (ns : List N5) (i j : Nat) (c c' : N5) (v : Value) (sp : List Value), ns[i]? = some c → j < n → (f c).set j v = f c' → (flat f ns ++ sp).set (i * n + j) v = flat f (ns.set i c') ++ sp
  | [], i, j, c, c', v, sp, h, hj, e => by simp at h
  | d :: r, 0, j, c, c', v, sp, h, hj, e => by
    simp at h; subst h
    simp only [flat, Nat.zero_mul, Nat.zero_add, List.append_assoc, List.set_cons_zero]
    rw [List.set_append_left _ _ (by rw [hf]; exact hj), e]
  | d :: r, i + 1, j, c, c', v, sp, h, hj, e => by
    have ih := flat_set hf r i j c c' v sp (by simpa using h) hj e
    simp only [flat, List.append_assoc, List.set_cons_succ]
    rw [List.set_append_right _ _ (by rw [hf, Nat.succ_mul]; omega), hf, ← ih]
    congr 2
    rw [Nat.succ_mul]; omega

theorem rc_length (c : N5) : (rc c).length = 4 := rfl
theorem mc_length (c : N5) : (mc c).length = 5 := rfl

/-- The real ring at x: its cells at a, its order at b. -/
structure Rep (w : World) (x a b : Nat) (mode : Int) (ns : List N5) (ord : List Int) : Prop where
  blk : Blk w x 52 [.int .i64 mode, .int .i64 ns.length, .slice (some ⟨a, 0, none⟩) 8 8, .slice (some ⟨b, 0, none⟩) 8 8]
  cb : Blk w a 80 (flat rc ns ++ flat rc (List.replicate (8 - ns.length) ⟨0, 0, 0, 0, 0⟩))
  ob : Blk w b 3 (ord.map (Value.int .i64))
  xa : x ≠ a
  xb : x ≠ b
  ab : a ≠ b
  n8 : ns.length ≤ 8
  ol : ord.length = 8

def own (x a b k : Nat) : Prop := k = x ∨ k = a ∨ k = b

theorem Rep.of_chg {S : Nat → Prop} {w w' : World} {x a b : Nat} {mode : Int} {ns : List N5} {ord : List Int} (h : Rep w x a b mode ns ord) (c : Chg S w w') (hS : ∀ k, S k → ¬ own x a b k) : Rep w' x a b mode ns ord :=
  { h with blk := c.blk h.blk (fun k => hS _ k (.inl rfl)), cb := c.blk h.cb (fun k => hS _ k (.inr (.inl rfl))), ob := c.blk h.ob (fun k => hS _ k (.inr (.inr rfl))) }

theorem Rep.quiet {w w' : World} {x a b : Nat} {mode : Int} {ns : List N5} {ord : List Int} (h : Rep w x a b mode ns ord) (c : Quiet w w') : Rep w' x a b mode ns ord := h.of_chg c (fun _ f => f.elim)

/-- The abstract ring at x. -/
structure RepM (w : World) (x : Nat) (v : Value) (mode : Int) (ns : List N5) : Prop where
  blk : Blk w x 87 [.int .i64 mode, v]
  row : Row w 28 5 v ns.length (flat mc ns)
  xv : v.ownBlock ≠ some x

def ownM (x : Nat) (v : Value) (k : Nat) : Prop := k = x ∨ v.ownBlock = some k

theorem RepM.of_chg {S : Nat → Prop} {w w' : World} {x : Nat} {v : Value} {mode : Int} {ns : List N5} (h : RepM w x v mode ns) (c : Chg S w w') (hS : ∀ k, S k → ¬ ownM x v k) : RepM w' x v mode ns :=
  { h with blk := c.blk h.blk (fun k => hS _ k (.inl rfl)), row := h.row.of_chg c (fun k hk hs => hS k hs (.inr hk)) }

theorem RepM.quiet {w w' : World} {x : Nat} {v : Value} {mode : Int} {ns : List N5} (h : RepM w x v mode ns) (c : Quiet w w') : RepM w' x v mode ns := h.of_chg c (fun _ f => f.elim)
end Go.Proofs.Qxb6500369a
