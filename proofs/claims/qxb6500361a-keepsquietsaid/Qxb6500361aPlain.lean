/-
  THE SKIP LIST, PLAINLY: the nodes in order, their cells, and what the search finds.
-/
import Derived.Test.Qxb6500361aLib
namespace Go.Proofs.Qxb6500361a
open Go.RowKit Go.Qx
set_option linter.unusedSimpArgs false
set_option linter.unusedVariables false

/-- A node: where it lies, its key, its value, its height. -/
structure Nd where
  addr : Nat
  key : Int
  val : ByteArray
  h : Nat

def ptr (a : Nat) : Value := .pointer (some ⟨a, 0, none⟩)

/-- The first node of the list in level i, as a pointer. -/
def nxt (i : Nat) (l : List Nd) : Value := ((l.find? fun d => decide (i < d.h)).map fun d => ptr d.addr).getD (.pointer none)

def cellsOf (d : Nd) (suf : List Nd) : List Value :=
  .int .i64 d.key :: .string d.val :: .int .i64 d.h :: (List.range 8).map fun i => if i < d.h then nxt i suf else .pointer none

def headCells (l : List Nd) : List Value :=
  .int .i64 0 :: .string ⟨#[]⟩ :: .int .i64 0 :: (List.range 8).map fun i => nxt i l

theorem headCells_at (l : List Nd) (i : Nat) (hi : i < 8) : (headCells l)[3 + i]? = some (nxt i l) := by
  unfold headCells
  rw [show 3 + i = i + 1 + 1 + 1 by omega]
  simp [hi]

theorem cellsOf_at (d : Nd) (l : List Nd) (i : Nat) (hi : i < 8) (hh : i < d.h) : (cellsOf d l)[3 + i]? = some (nxt i l) := by
  unfold cellsOf
  rw [show 3 + i = i + 1 + 1 + 1 by omega]
  simp [hi, hh]

/-- The cursor: the last node passed, or the head. -/
def cur (hd : Nat) (a : List Nd) : Nat := (a.getLast?.map Nd.addr).getD hd

/-- What the path holds for level i: the last node of 'pre' in that level, or the head. -/
def pathA (hd i : Nat) (pre : List Nd) : Nat := cur hd (pre.filter fun d => decide (i < d.h))

theorem cur_snoc (hd : Nat) (a : List Nd) (d : Nd) : cur hd (a ++ [d]) = d.addr := by simp [cur]

theorem pathA_cur (hd i : Nat) (a b : List Nd) (ha : ∀ d, a.getLast? = some d → i < d.h) (hb : ∀ d ∈ b, d.h ≤ i) : pathA hd i (a ++ b) = cur hd a := by
  unfold pathA
  rw [List.filter_append]
  have e : b.filter (fun d => decide (i < d.h)) = [] := by
    rw [List.filter_eq_nil_iff]; intro d hd; simpa using hb d hd
  rw [e, List.append_nil]
  unfold cur
  rcases List.eq_nil_or_concat a with rfl | ⟨l, d, rfl⟩
  · rfl
  · have := ha d (by simp)
    simp [List.concat_eq_append, List.filter_append, List.filter_cons, this]

theorem nxt_ptr (i : Nat) (l : List Nd) : ∃ p, nxt i l = .pointer p := by
  unfold nxt
  cases l.find? fun d => decide (i < d.h) with
  | none => exact ⟨none, rfl⟩
  | some d => exact ⟨_, rfl⟩

theorem nxt_none (i : Nat) (b l : List Nd) (hb : ∀ d ∈ b, d.h ≤ i) : nxt i (b ++ l) = nxt i l := by
  unfold nxt
  rw [List.find?_append]
  have e : b.find? (fun d => decide (i < d.h)) = none := by
    rw [List.find?_eq_none]; intro d hd; simpa using hb d hd
  rw [e]; rfl

theorem nxt_some (i : Nat) (b : List Nd) (d : Nd) (l : List Nd) (hb : ∀ d ∈ b, d.h ≤ i) (hd : i < d.h) : nxt i (b ++ d :: l) = ptr d.addr := by
  rw [nxt_none i b _ hb]
  unfold nxt
  rw [List.find?_cons_of_pos (by simpa using hd)]; rfl

/-- Either no node of b stands in level i, or there is a first one. -/
theorem first_in (i : Nat) : ∀ b : List Nd, (∀ d ∈ b, d.h ≤ i) ∨ ∃ b1 d b2, b = b1 ++ d :: b2 ∧ (∀ d ∈ b1, d.h ≤ i) ∧ i < d.h
  | [] => .inl (by simp)
  | d :: b => by
    by_cases h : i < d.h
    · exact .inr ⟨[], d, b, rfl, by simp, h⟩
    · rcases first_in i b with hb | ⟨b1, d', b2, rfl, h1, h2⟩
      · left; intro x hx; rcases List.mem_cons.1 hx with rfl | hx
        · omega
        · exact hb x hx
      · right
        refine ⟨d :: b1, d', b2, rfl, ?_, h2⟩
        intro x hx; rcases List.mem_cons.1 hx with rfl | hx
        · omega
        · exact h1 x hx

/-- The list in memory: l: the List's block; c: the purse's; hd: the head's. -/
structure Rep (w : World) (c l hd : Nat) (s : ByteArray) (nds : List Nd) (top : Nat) : Prop where
  coin : Blk w c 72 [.string s]
  list : Blk w l 55 [ptr c, ptr hd, .int .i64 top, .int .i64 nds.length]
  head : Blk w hd 53 (headCells nds)
  node : ∀ pre d suf, nds = pre ++ d :: suf → Blk w d.addr 53 (cellsOf d suf)
  sorted : nds.Pairwise fun a b => a.key < b.key
  high : ∀ d ∈ nds, 1 ≤ d.h ∧ d.h ≤ top
  vals : ∀ d ∈ nds, d.val.size ≤ 8
  keys : ∀ d ∈ nds, -9223372036854775808 ≤ d.key ∧ d.key ≤ 9223372036854775807
  top1 : 1 ≤ top
  top8 : top ≤ 8
  tight : top = 1 ∨ ∃ d ∈ nds, d.h = top
  len : nds.length ≤ 12
  nodup : (c :: l :: hd :: nds.map Nd.addr).Nodup
  slen : s.size ≤ 32

/-- The blocks of the list itself (without the purse). -/
def own (l hd : Nat) (nds : List Nd) (b : Nat) : Prop := b = l ∨ b = hd ∨ ∃ d ∈ nds, b = d.addr

theorem Rep.of_chg {w w' : World} {c l hd : Nat} {s : ByteArray} {nds : List Nd} {top : Nat} {S : Nat → Prop} (r : Rep w c l hd s nds top) (h : Chg S w w')
    (hc : ¬ S c) (hl : ¬ S l) (hh : ¬ S hd) (hn : ∀ d ∈ nds, ¬ S d.addr) : Rep w' c l hd s nds top :=
  { r with
    coin := h.blk r.coin hc, list := h.blk r.list hl, head := h.blk r.head hh
    node := fun pre d suf e => h.blk (r.node pre d suf e) (hn d (by rw [e]; simp)) }

theorem Rep.quiet {w w' : World} {c l hd : Nat} {s : ByteArray} {nds : List Nd} {top : Nat} (r : Rep w c l hd s nds top) (h : Quiet w w') : Rep w' c l hd s nds top :=
  r.of_chg h id id id (fun _ _ => id)

/-- The next of the cursor in level i. -/
theorem Rep.next {w : World} {c l hd : Nat} {s : ByteArray} {nds : List Nd} {top : Nat} (r : Rep w c l hd s nds top) (a b : List Nd) (e : nds = a ++ b) (i : Nat) (hi : i < 8)
    (ha : ∀ d, a.getLast? = some d → i < d.h) : w.cell? ⟨cur hd a, 3 + i, none⟩ = some (nxt i b) := by
  rcases List.eq_nil_or_concat a with rfl | ⟨a', d, rfl⟩
  · simp only [List.nil_append] at e
    subst e
    exact (r.head.cell _).trans (headCells_at _ i hi)
  · rw [List.concat_eq_append] at *
    rw [cur_snoc]
    have := (r.node a' d b (by rw [e]; simp)).cell (3 + i)
    rw [this]
    exact cellsOf_at d b i hi (ha d (by simp))

theorem Rep.key_at {w : World} {c l hd : Nat} {s : ByteArray} {nds : List Nd} {top : Nat} (r : Rep w c l hd s nds top) {d : Nd} (hd' : d ∈ nds) : w.cell? ⟨d.addr, 0, none⟩ = some (.int .i64 d.key) ∧ w.cell? ⟨d.addr, 1, none⟩ = some (.string d.val) ∧ w.cell? ⟨d.addr, 2, none⟩ = some (.int .i64 d.h) := by
  obtain ⟨pre, suf, e⟩ := List.append_of_mem hd'
  have := r.node pre d suf e
  exact ⟨this.cell 0, this.cell 1, this.cell 2⟩


/-- Where a node of 'pre ++ d :: suf' stands. -/
theorem app_cases {pre suf a b : List Nd} {d x : Nd} (e : pre ++ d :: suf = a ++ x :: b) :
    (∃ m, pre = a ++ x :: m ∧ b = m ++ d :: suf) ∨ (pre = a ∧ d = x ∧ suf = b) ∨ ∃ m, a = pre ++ d :: m ∧ suf = m ++ x :: b := by
  rcases List.append_eq_append_iff.1 e with ⟨m, h3, h4⟩ | ⟨m, h3, h4⟩
  · cases m with
    | nil =>
      simp only [List.nil_append, List.cons.injEq, List.append_nil] at h3 h4
      exact .inr (.inl ⟨h3.symm, h4.1, h4.2⟩)
    | cons y m =>
      simp only [List.cons_append, List.cons.injEq] at h4
      obtain ⟨rfl, h4⟩ := h4
      exact .inr (.inr ⟨m, h3, h4⟩)
  · cases m with
    | nil =>
      simp only [List.nil_append, List.cons.injEq, List.append_nil] at h3 h4
      exact .inr (.inl ⟨h3, h4.1.symm, h4.2.symm⟩)
    | cons y m =>
      simp only [List.cons_append, List.cons.injEq] at h4
      obtain ⟨rfl, h4⟩ := h4
      exact .inl ⟨m, h3, h4⟩

theorem nxt_val (i : Nat) (b : List Nd) (d : Nd) (v : ByteArray) (l : List Nd) : nxt i (b ++ { d with val := v } :: l) = nxt i (b ++ d :: l) := by
  rcases first_in i b with h | ⟨b1, x, b2, rfl, h1, h2⟩
  · by_cases hd : i < d.h
    · rw [nxt_some i b d l h hd, nxt_some i b { d with val := v } l h hd]
    · rw [nxt_none i b _ h, nxt_none i b _ h]
      have e1 := nxt_none i [d] l (by simp; omega)
      have e2 := nxt_none i [{ d with val := v }] l (by simp; omega)
      simp only [List.cons_append, List.nil_append] at e1 e2
      rw [e1, e2]
  · rw [List.append_assoc, List.cons_append, nxt_some i b1 x _ h1 h2, List.append_assoc, List.cons_append, nxt_some i b1 x _ h1 h2]

/-- A value is replaced. -/
theorem Rep.set_val {w : World} {c l hd : Nat} {s : ByteArray} {pre suf : List Nd} {d : Nd} {top : Nat} (r : Rep w c l hd s (pre ++ d :: suf) top) (v : ByteArray) (hv : v.size ≤ 8) :
    Rep (w.setCell ⟨d.addr, 1, none⟩ (.string v)) c l hd s (pre ++ { d with val := v } :: suf) top := by
  have hn := r.nodup
  simp only [List.nodup_cons, List.mem_cons, not_or, List.map_append, List.map_cons, List.mem_append, List.mem_map, not_exists, not_and, List.nodup_append] at hn
  obtain ⟨⟨_, _, _, hcd, _⟩, ⟨_, _, hld, _⟩, ⟨_, hhd, _⟩, hn1, ⟨hn2, hn3⟩, hn4⟩ := hn
  have hm : ∀ x, x ∈ pre ++ { d with val := v } :: suf → x = { d with val := v } ∨ x ∈ pre ++ d :: suf := by
    intro x hx
    simp only [List.mem_append, List.mem_cons] at hx ⊢
    rcases hx with h | h | h
    · exact .inr (.inl h)
    · exact .inl h
    · exact .inr (.inr (.inr h))
  refine ⟨r.coin.set_other hcd _, ?_, ?_, ?_, ?_, ?_, ?_, ?_, r.top1, r.top8, ?_, ?_, ?_, r.slen⟩
  · have := r.list.set_other (a := ⟨d.addr, 1, none⟩) hld (.string v)
    simpa using this
  · have := r.head.set_other (a := ⟨d.addr, 1, none⟩) hhd (.string v)
    have e : headCells (pre ++ { d with val := v } :: suf) = headCells (pre ++ d :: suf) := by
      unfold headCells; simp only [nxt_val]
    rw [e]; exact this
  · intro a x b e
    rcases app_cases e with ⟨m, rfl, rfl⟩ | ⟨rfl, rfl, rfl⟩ | ⟨m, rfl, rfl⟩
    · have := (r.node a x (m ++ d :: suf) (by simp)).set_other (a := ⟨d.addr, 1, none⟩) (by
        show x.addr ≠ d.addr
        exact hn4 _ ⟨x, by simp, rfl⟩ _ (.inl rfl)) (.string v)
      have e : cellsOf x (m ++ { d with val := v } :: suf) = cellsOf x (m ++ d :: suf) := by
        unfold cellsOf; simp only [nxt_val]
      rw [e]; exact this
    · exact (r.node pre d suf rfl).set 1 _
    · exact (r.node (pre ++ d :: m) x b (by simp)).set_other (by
        show x.addr ≠ d.addr
        intro h; exact hn2 x (by simp) h) _
  · have := r.sorted
    simp only [List.pairwise_append, List.pairwise_cons, List.mem_cons] at this ⊢
    refine ⟨this.1, ⟨this.2.1.1, this.2.1.2⟩, ?_⟩
    intro a ha b hb
    rcases hb with rfl | hb
    · exact this.2.2 a ha d (.inl rfl)
    · exact this.2.2 a ha b (.inr hb)
  · intro x hx; rcases hm x hx with rfl | h
    · exact r.high d (by simp)
    · exact r.high x h
  · intro x hx; rcases hm x hx with rfl | h
    · exact hv
    · exact r.vals x h
  · intro x hx; rcases hm x hx with rfl | h
    · exact r.keys d (by simp)
    · exact r.keys x h
  · rcases r.tight with h | ⟨x, hx, h⟩
    · exact .inl h
    · right
      simp only [List.mem_append, List.mem_cons] at hx
      rcases hx with hx | rfl | hx
      · exact ⟨x, by simp [hx], h⟩
      · exact ⟨{ x with val := v }, by simp, h⟩
      · exact ⟨x, by simp [hx], h⟩
  · have := r.len; simpa using this
  · have := r.nodup; simpa using this


/-- A new node: all but its links. -/
theorem Rep.insert {w w' : World} {c l hd : Nat} {s t : ByteArray} {pre suf : List Nd} {top : Nat} (r : Rep w c l hd s (pre ++ suf) top) (f : Nd) (hk1 : -9223372036854775808 ≤ f.key) (hk2 : f.key ≤ 9223372036854775807) (hv : f.val.size ≤ 8)
    (hh1 : 1 ≤ f.h) (hh8 : f.h ≤ 8) (hpre : ∀ x ∈ pre, x.key < f.key) (hsuf : ∀ x ∈ suf, f.key < x.key) (hroom : (pre ++ suf).length < 12) (ha : w.heap.size ≤ f.addr) (ht : t.size ≤ 32)
    (coin : Blk w' c 72 [.string t]) (list : Blk w' l 55 [ptr c, ptr hd, .int .i64 (max top f.h : Nat), .int .i64 ((pre ++ suf).length + 1 : Nat)])
    (nodes : Blk w' hd 53 (headCells (pre ++ f :: suf)) ∧ ∀ a d b, pre ++ f :: suf = a ++ d :: b → Blk w' d.addr 53 (cellsOf d b)) : Rep w' c l hd t (pre ++ f :: suf) (max top f.h) := by
  have hm : ∀ x, x ∈ pre ++ f :: suf → x = f ∨ x ∈ pre ++ suf := by
    intro x hx
    simp only [List.mem_append, List.mem_cons] at hx ⊢
    rcases hx with h | h | h
    · exact .inr (.inl h)
    · exact .inl h
    · exact .inr (.inr h)
  have hlt : ∀ d ∈ pre ++ suf, d.addr < w.heap.size := by
    intro d hd
    obtain ⟨a, b, e⟩ := List.append_of_mem hd
    exact (r.node a d b e).lt
  refine ⟨coin, ?_, nodes.1, fun a d b e => nodes.2 a d b e, ?_, ?_, ?_, ?_, ?_, ?_, ?_, ?_, ?_, ht⟩
  · have e : (pre ++ f :: suf).length = (pre ++ suf).length + 1 := by simp; omega
    rw [e]; exact list
  · have := r.sorted
    simp only [List.pairwise_append, List.pairwise_cons, List.mem_cons] at this ⊢
    refine ⟨this.1, ⟨hsuf, this.2.1⟩, ?_⟩
    intro a ha' b hb
    rcases hb with rfl | hb
    · exact hpre a ha'
    · exact this.2.2 a ha' b hb
  · intro x hx; rcases hm x hx with rfl | h
    · omega
    · have := r.high x h; omega
  · intro x hx; rcases hm x hx with rfl | h
    · exact hv
    · exact r.vals x h
  · intro x hx; rcases hm x hx with rfl | h
    · exact ⟨hk1, hk2⟩
    · exact r.keys x h
  · have := r.top1; omega
  · have := r.top8; omega
  · by_cases h : top ≤ f.h
    · right; exact ⟨f, by simp, by omega⟩
    · rcases r.tight with h1 | ⟨d, hd, h1⟩
      · omega
      · right
        refine ⟨d, ?_, by omega⟩
        simp only [List.mem_append, List.mem_cons] at hd ⊢
        rcases hd with hd | hd
        · exact .inl hd
        · exact .inr (.inr hd)
  · simp at hroom ⊢; omega
  · have hn := r.nodup
    have h1 := r.coin.lt
    have h2 := r.list.lt
    have h3 := r.head.lt
    simp only [List.nodup_cons, List.mem_cons, not_or, List.map_append, List.map_cons, List.mem_append, List.mem_map, not_exists, not_and, List.nodup_append] at hn ⊢
    obtain ⟨⟨a1, a2, a3, a4⟩, ⟨b1, b2, b3⟩, ⟨c1, c2⟩, d1, d2, d3⟩ := hn
    refine ⟨⟨a1, a2, a3, by omega, a4⟩, ⟨b1, b2, by omega, b3⟩, ⟨c1, by omega, c2⟩, d1, ⟨?_, d2⟩, ?_⟩
    · intro x hx e; have := hlt x (by simp [hx]); omega
    · intro a ha' b hb
      rcases hb with rfl | hb
      · obtain ⟨x, hx, rfl⟩ := ha'
        have := hlt x (by simp [hx]); omega
      · exact d3 a ha' b hb


/-- A node is gone: all but the links. -/
theorem Rep.remove {w w' : World} {c l hd : Nat} {s : ByteArray} {pre suf : List Nd} {f : Nd} {top top' : Nat} (r : Rep w c l hd s (pre ++ f :: suf) top)
    (h1 : 1 ≤ top') (h8 : top' ≤ 8) (hh : ∀ d ∈ pre ++ suf, d.h ≤ top') (ht : top' = 1 ∨ ∃ d ∈ pre ++ suf, d.h = top')
    (coin : Blk w' c 72 [.string s]) (list : Blk w' l 55 [ptr c, ptr hd, .int .i64 top', .int .i64 (pre ++ suf).length])
    (nodes : Blk w' hd 53 (headCells (pre ++ suf)) ∧ ∀ a d b, pre ++ suf = a ++ d :: b → Blk w' d.addr 53 (cellsOf d b)) : Rep w' c l hd s (pre ++ suf) top' := by
  have hm : ∀ x, x ∈ pre ++ suf → x ∈ pre ++ f :: suf := by
    intro x hx
    simp only [List.mem_append, List.mem_cons] at hx ⊢
    rcases hx with h | h
    · exact .inl h
    · exact .inr (.inr h)
  refine ⟨coin, list, nodes.1, fun a d b e => nodes.2 a d b e, ?_, fun x hx => ⟨(r.high x (hm x hx)).1, hh x hx⟩, fun x hx => r.vals x (hm x hx), fun x hx => r.keys x (hm x hx), h1, h8, ht, ?_, ?_, r.slen⟩
  · have := r.sorted
    simp only [List.pairwise_append, List.pairwise_cons, List.mem_cons] at this ⊢
    exact ⟨this.1, this.2.1.2, fun a ha b hb => this.2.2 a ha b (.inr hb)⟩
  · have := r.len; simp at this ⊢; omega
  · have hn := r.nodup
    simp only [List.nodup_cons, List.mem_cons, not_or, List.map_append, List.map_cons, List.mem_append, List.mem_map, not_exists, not_and, List.nodup_append] at hn ⊢
    obtain ⟨⟨a1, a2, a3, _, a4⟩, ⟨b1, b2, _, b3⟩, ⟨c1, _, c2⟩, d1, ⟨_, d2⟩, d3⟩ := hn
    exact ⟨⟨a1, a2, a3, a4⟩, ⟨b1, b2, b3⟩, ⟨c1, c2⟩, d1, d2, fun a ha b hb => d3 a ha b (.inr hb)⟩

end Go.Proofs.Qxb6500361a
