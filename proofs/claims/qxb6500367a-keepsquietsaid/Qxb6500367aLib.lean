/-
  OUR OWN SMALL LIBRARY on worlds: whole blocks ('Blk'), what a call may change ('Chg'). No program in it. Laid for each seat under its own name.
-/
import Derived.WalkKit
import Derived.WalkSpells
import Derived.WalkLawsBesides
import Derived.Deep.QuietTactic
import Derived.BigQuiet
import Derived.Deep.RegionHeld3
import Derived.Deep.LoopGhost
namespace Go.Qx
open Go.RowKit

/-- Block b is a row of the cells cs, of element type t, nothing of it frozen. -/
def Blk (w : World) (b : Nat) (t : TypeId) (cs : List Value) : Prop := w.heap[b]? = some (.cells cs.toArray t)

theorem Blk.cell {w : World} {b : Nat} {t : TypeId} {cs : List Value} (h : Blk w b t cs) (o : Nat) : w.cell? ⟨b, o, none⟩ = cs[o]? := by
  unfold Blk at h
  simp [World.cell?, h]

theorem Blk.frozen {w : World} {b : Nat} {t : TypeId} {cs : List Value} (h : Blk w b t cs) (o : Nat) : w.frozen? ⟨b, o, none⟩ = false := by
  unfold Blk at h
  simp [World.frozen?, h]

theorem Blk.lt {w : World} {b : Nat} {t : TypeId} {cs : List Value} (h : Blk w b t cs) : b < w.heap.size := by
  unfold Blk at h
  exact (Array.getElem?_eq_some_iff.1 h).1

theorem Blk.eq {w : World} {b : Nat} {t t' : TypeId} {cs cs' : List Value} (h : Blk w b t cs) (h' : Blk w b t' cs') : cs = cs' := by
  unfold Blk at h h'
  rw [h] at h'
  simp at h'
  exact h'.1

theorem Blk.of_heap {w w' : World} {b : Nat} {t : TypeId} {cs : List Value} (h : Blk w b t cs) (e : w'.heap[b]? = w.heap[b]?) : Blk w' b t cs := by
  unfold Blk at *
  rw [e]; exact h

theorem Blk.set {w : World} {b : Nat} {t : TypeId} {cs : List Value} (h : Blk w b t cs) (o : Nat) (v : Value) : Blk (w.setCell ⟨b, o, none⟩ v) b t (cs.set o v) := by
  unfold Blk at *
  simp [World.setCell, Array.getElem?_modify, h]

theorem Blk.set_other {w : World} {b : Nat} {t : TypeId} {cs : List Value} (h : Blk w b t cs) {a : Addr} (hne : b ≠ a.block) (v : Value) : Blk (w.setCell a v) b t cs :=
  h.of_heap (Below.heap_setCell _ _ _ _ hne)

theorem Blk.alloc {w : World} {b : Nat} {t : TypeId} {cs : List Value} (h : Blk w b t cs) (o : Obj) : Blk (w.alloc o) b t cs :=
  h.of_heap (Below.heap_alloc _ _ _ h.lt)

theorem Blk.new (w : World) (t : TypeId) (cs : List Value) : Blk (w.alloc (.cells cs.toArray t)) w.heap.size t cs := by
  show (w.heap.push _)[w.heap.size]? = _
  simp

theorem Blk.drew {w : World} {b : Nat} {t : TypeId} {cs : List Value} (h : Blk w b t cs) : Blk w.drew b t cs := h
theorem Blk.drewN {w : World} {b : Nat} {t : TypeId} {cs : List Value} (h : Blk w b t cs) (n : Nat) : Blk (w.drewN n) b t cs := h

/-- From w to w' only the blocks of S (of those that were there) may have turned; the rest of the world is as it was, but for draws. -/
structure Chg (S : Nat → Prop) (w w' : World) : Prop where
  os : w'.os = w.os
  tape : w'.tape = w.tape
  output : w'.output = w.output
  size : w.heap.size ≤ w'.heap.size
  block : ∀ k, k < w.heap.size → ¬ S k → w'.heap[k]? = w.heap[k]?

theorem Chg.refl (S : Nat → Prop) (w : World) : Chg S w w := ⟨rfl, rfl, rfl, Nat.le_refl _, fun _ _ _ => rfl⟩

theorem Chg.trans {S : Nat → Prop} {a b c : World} (h : Chg S a b) (k : Chg S b c) : Chg S a c :=
  ⟨k.os.trans h.os, k.tape.trans h.tape, k.output.trans h.output, Nat.le_trans h.size k.size,
    fun i hi hs => (k.block i (Nat.lt_of_lt_of_le hi h.size) hs).trans (h.block i hi hs)⟩

/-- The second step may turn what the first has made. -/
theorem Chg.trans' {S T : Nat → Prop} {a b c : World} (h : Chg S a b) (k : Chg T b c) (hT : ∀ i, i < a.heap.size → T i → S i) : Chg S a c :=
  ⟨k.os.trans h.os, k.tape.trans h.tape, k.output.trans h.output, Nat.le_trans h.size k.size,
    fun i hi hs => (k.block i (Nat.lt_of_lt_of_le hi h.size) (fun t => hs (hT i hi t))).trans (h.block i hi hs)⟩

theorem Chg.mono {S T : Nat → Prop} {a b : World} (h : Chg S a b) (hT : ∀ i, i < a.heap.size → S i → T i) : Chg T a b :=
  ⟨h.os, h.tape, h.output, h.size, fun i hi hs => h.block i hi (fun s => hs (hT i hi s))⟩

theorem Chg.drew {S : Nat → Prop} {a w : World} (h : Chg S a w) : Chg S a w.drew := ⟨h.os, h.tape, h.output, h.size, h.block⟩
theorem Chg.drewN {S : Nat → Prop} {a w : World} (h : Chg S a w) (n : Nat) : Chg S a (w.drewN n) := ⟨h.os, h.tape, h.output, h.size, h.block⟩

theorem Chg.alloc {S : Nat → Prop} {a w : World} (h : Chg S a w) (o : Obj) : Chg S a (w.alloc o) :=
  ⟨h.os, h.tape, h.output, by have := h.size; simp; omega, fun k hk hs => (Below.heap_alloc _ _ _ (Nat.lt_of_lt_of_le hk h.size)).trans (h.block k hk hs)⟩

theorem Chg.setCell {S : Nat → Prop} {a w : World} (h : Chg S a w) {p : Addr} (hp : S p.block ∨ a.heap.size ≤ p.block) (v : Value) : Chg S a (w.setCell p v) := by
  refine ⟨h.os, h.tape, h.output, by simpa [World.setCell] using h.size, fun k hk hs => (Below.heap_setCell _ _ _ _ ?_).trans (h.block k hk hs)⟩
  rintro rfl
  rcases hp with hp | hp
  · exact hs hp
  · omega

theorem Chg.blk {S : Nat → Prop} {w w' : World} (h : Chg S w w') {b : Nat} {t : TypeId} {cs : List Value} (hb : Blk w b t cs) (hs : ¬ S b) : Blk w' b t cs :=
  hb.of_heap (h.block b hb.lt hs)

theorem Chg.below {S : Nat → Prop} {w w' : World} (h : Chg S w w') (B : Nat) (hB : B ≤ w.heap.size) (hS : ∀ k, S k → B ≤ k) : Below B w w' :=
  ⟨h.os, h.tape, h.output, h.size, fun k hk => h.block k (by omega) (fun s => by have := hS k s; omega)⟩

theorem Chg.of_below {w w' : World} (h : Below w.heap.size w w') (S : Nat → Prop) : Chg S w w' :=
  ⟨h.os, h.tape, h.output, h.size, fun k hk _ => h.block k hk⟩

theorem hide {p : Prop} (h : p) : Hid p := h
theorem unhide {p : Prop} (h : Hid p) : p := h

/-- Nothing that was there has turned. -/
def Quiet (w w' : World) : Prop := Chg (fun _ => False) w w'

theorem Chg.cell {S : Nat → Prop} {w w' : World} (h : Chg S w w') {a : Addr} {v : Value} (hc : w.cell? a = some v) (hs : ¬ S a.block) : w'.cell? a = some v := by
  have hb := World.block_lt_of_cell? _ _ hc
  rw [World.cell?_of_block (w := w) (h.block a.block hb hs)]
  exact hc

theorem Quiet.cell {w w' : World} (h : Quiet w w') {a : Addr} {v : Value} (hc : w.cell? a = some v) : w'.cell? a = some v := Chg.cell h hc id
theorem Quiet.blk {w w' : World} (h : Quiet w w') {b : Nat} {t : TypeId} {cs : List Value} (hb : Blk w b t cs) : Blk w' b t cs := Chg.blk h hb id
theorem Quiet.trans {a b c : World} (h : Quiet a b) (k : Quiet b c) : Quiet a c := Chg.trans h k
theorem Quiet.refl (w : World) : Quiet w w := Chg.refl _ w
theorem Quiet.chg {w w' : World} (h : Quiet w w') (S : Nat → Prop) : Chg S w w' := Chg.mono h (fun _ _ f => f.elim)
theorem Quiet.below {w w' : World} (h : Quiet w w') : Below w.heap.size w w' := Chg.below h _ (Nat.le_refl _) (fun _ f => f.elim)

theorem cell_set_ne {w : World} {b x c z : Nat} {v t : Value} (h : w.cell? ⟨c, z, none⟩ = some t) (hne : b ≠ c ∨ x ≠ z) : (w.setCell ⟨b, x, none⟩ v).cell? ⟨c, z, none⟩ = some t := by
  rw [World.cell?_setCell_other]
  · exact h
  · intro e; cases e; rcases hne with hne | hne <;> exact hne rfl

theorem cell_set2_ne {w : World} {b x y c z : Nat} {u v t : Value} (h : w.cell? ⟨c, z, none⟩ = some t) (h1 : b ≠ c ∨ x ≠ z) (h2 : b ≠ c ∨ y ≠ z) : ((w.setCell ⟨b, x, none⟩ u).setCell ⟨b, y, none⟩ v).cell? ⟨c, z, none⟩ = some t :=
  cell_set_ne (cell_set_ne h h1) h2

/-! ### '==' on pointers into plain blocks -/
theorem run_sameAddr {P : Program} {w : World} {x y : Nat} {tx ty : TypeId} {cx cy : List Value} (hx : Blk w x tx cx) (hy : Blk w y ty cy) (o p : Nat) :
    (sameAddr ⟨x, o, none⟩ ⟨y, p, none⟩).run P w = .ok (decide (x = y ∧ o = p)) w := by
  have fx := hx.frozen
  have fy := hy.frozen
  unfold Blk at hx hy
  by_cases h : x = y
  · subst h
    have : ((⟨x, o, none⟩ : Addr) == ⟨x, p, none⟩) = decide (o = p) := by
      rw [Bool.eq_iff_iff]; simp
    simp [sameAddr, this]
  · have sx : w.shape? x = some (tx, cx.length) := by simp [World.shape?, hx]
    have sy : w.shape? y = some (ty, cy.length) := by simp [World.shape?, hy]
    simp [sameAddr, h, fx, fy, noView, viewAt, mayBeOne, stringish, sx, sy]

theorem run_equalIn_ptr {P : Program} {w : World} (d : Nat) (t e : TypeId) (n : Nat) (hu : P.underlying t = some (.pointer e)) (hs : ∀ w, (sizeOf e).run P w = .ok (n + 1) w) {x y : Nat} {tx ty : TypeId} {cx cy : List Value} (hx : Blk w x tx cx) (hy : Blk w y ty cy) (o p : Nat) :
    (Op.equalIn (d + 1) t (.pointer (some ⟨x, o, none⟩)) (.pointer (some ⟨y, p, none⟩))).run P w = .ok (decide (x = y ∧ o = p)) w := by
  simp [Op.equalIn, run_underlying hu, hs, run_sameAddr hx hy]

theorem run_equal_ptr {P : Program} {w : World} (t e : TypeId) (n : Nat) (hu : P.underlying t = some (.pointer e)) (hs : ∀ w, (sizeOf e).run P w = .ok (n + 1) w) {x y : Nat} {tx ty : TypeId} {cx cy : List Value} (hx : Blk w x tx cx) (hy : Blk w y ty cy) (o p : Nat) :
    (Op.equal t (.pointer (some ⟨x, o, none⟩)) (.pointer (some ⟨y, p, none⟩))).run P w = .ok (decide (x = y ∧ o = p)) w := by
  exact run_equalIn_ptr 9999 t e n hu hs hx hy o p

theorem run_eql_ptr {P : Program} {w : World} (t e : TypeId) (n : Nat) (hu : P.underlying t = some (.pointer e)) (hs : ∀ w, (sizeOf e).run P w = .ok (n + 1) w) {x y : Nat} {tx ty : TypeId} {cx cy : List Value} (hx : Blk w x tx cx) (hy : Blk w y ty cy) (o p : Nat) :
    (binOp .eql t (.pointer (some ⟨x, o, none⟩)) (.pointer (some ⟨y, p, none⟩))).run P w = .ok (.bool (decide (x = y ∧ o = p))) w := by
  simp only [binOp]
  simp [run_equal_ptr t e n hu hs hx hy]

theorem run_neq_ptr {P : Program} {w : World} (t e : TypeId) (n : Nat) (hu : P.underlying t = some (.pointer e)) (hs : ∀ w, (sizeOf e).run P w = .ok (n + 1) w) {x y : Nat} {tx ty : TypeId} {cx cy : List Value} (hx : Blk w x tx cx) (hy : Blk w y ty cy) (o p : Nat) :
    (binOp .neq t (.pointer (some ⟨x, o, none⟩)) (.pointer (some ⟨y, p, none⟩))).run P w = .ok (.bool (!decide (x = y ∧ o = p))) w := by
  simp only [binOp]
  simp [run_equal_ptr t e n hu hs hx hy]

theorem run_equalIn_nil_ptr {P : Program} (w : World) (d : Nat) (t e : TypeId) (hu : P.underlying t = some (.pointer e)) (a : Addr) :
    (Op.equalIn (d + 1) t (.pointer none) (.pointer (some a))).run P w = .ok false w := by
  simp [Op.equalIn, run_underlying hu]

theorem run_equal_nil_ptr {P : Program} (w : World) (t e : TypeId) (hu : P.underlying t = some (.pointer e)) (a : Addr) :
    (Op.equal t (.pointer none) (.pointer (some a))).run P w = .ok false w := by
  exact run_equalIn_nil_ptr w 9999 t e hu a

theorem run_eql_nil_ptr {P : Program} (w : World) (t e : TypeId) (hu : P.underlying t = some (.pointer e)) (a : Addr) :
    (binOp .eql t (.pointer none) (.pointer (some a))).run P w = .ok (.bool false) w := by
  simp only [binOp]
  simp [run_equal_nil_ptr w t e hu a]

/-- a[i] of an array value whose elements take one cell. -/
theorem run_index_agg {P : Program} (w : World) (t e : TypeId) (n : Nat) (hu : P.underlying t = some (.array n e)) (hs : ∀ w, (sizeOf e).run P w = .ok 1 w) (ha : ∀ w, (isAgg e).run P w = .ok false w) (cs : Array Value) (j : Nat) (hj : j < n) (v : Value) (hv : cs[j]? = some v) :
    (Instr.index t (.agg cs) (.int .i64 j)).run P w = .ok v w := by
  have h1 : (0 : Int) ≤ (j : Int) ∧ (j : Int) < (n : Int) := by omega
  simp [Instr.index, asIntOf, run_underlying hu, h1, hs, part, ha, hv]
  intro h; omega

/-- A byte as a cell's value. -/
def bv (c : UInt8) : Value := .int .u8 c.toNat

/-- string(b[i:j]) where the bytes are known. -/
theorem run_str_of_cells {P : Program} (w : World) (src e : TypeId) (hs : P.underlying src = some (.slice e)) (he : P.underlying e = some (.int .u8)) (b off len cap : Nat) (bs : List UInt8) (hlen : bs.length = len)
    (hcell : ∀ i, i < len → w.cell? ⟨b, off + i, none⟩ = (bs[i]?).map bv) (dst : TypeId) (hd : P.underlying dst = some .string) :
    (convert src dst (.slice (some ⟨b, off, none⟩) len cap)).run P w = .ok (.string ⟨bs.toArray⟩) w := by
  have := run_convert_bytes_arg w src e hs he b off len cap (bs.map fun c => (c.toNat : Int)) (by simpa using hlen) (fun i hi => by
    rw [hcell i hi]
    have : i < bs.length := by omega
    simp [bv, List.getElem?_eq_getElem this]) dst hd
  rw [this]
  congr 3
  simp [strOfNums, Function.comp_def]

/-- arr[l:] of an array of one-cell elements that lies at an address. -/
theorem run_sliceAt_arr_l {P : Program} (w : World) (t e : TypeId) (n : Nat) (hu : P.underlying t = some (.array n e)) (hs : ∀ w, (sizeOf e).run P w = .ok 1 w) (b off : Nat) (l : Int) (h0 : 0 ≤ l) (h1 : l < n) :
    (Instr.sliceAt t (.pointer (some ⟨b, off, none⟩)) (some (.int .i64 l)) none none).run P w = .ok (.slice (some ⟨b, off + l.toNat, none⟩) (n - l.toNat) (n - l.toNat)) w := by
  have e1 : (l.toNat : Int) = l := Int.toNat_of_nonneg h0
  have e2 : ¬ n = l.toNat := by omega
  have e3 : l ≤ n := by omega
  simp [Instr.sliceAt, Instr.sureAddr, run_underlying hu, Instr.sliceBounds, run_sliceBound, hs, h0, e3, e2]
  unfold Addr.add
  split <;> simp_all

/-- A string of known bytes. -/
def str (l : List UInt8) : ByteArray := ⟨l.toArray⟩
theorem str_size (l : List UInt8) : (str l).size = l.length := by simp [str, ByteArray.size]
theorem str_append (a b : List UInt8) : str a ++ str b = str (a ++ b) := ByteArray.mk_append_mk a b
theorem str_toList (l : List UInt8) : (str l).toList = l := ByteArray.toList_mk l
theorem str_of (s : ByteArray) : s = str s.data.toList := by simp [str]
theorem toList_beq (a b : ByteArray) : (a.toList == b.toList) = decide (a = b) := by
  rw [ByteArray.toList_eq, ByteArray.toList_eq, Bool.eq_iff_iff, beq_iff_eq, decide_eq_true_iff]
  constructor
  · intro h; rw [ByteArray.ext_iff]; exact Array.toList_inj.1 h
  · intro h; rw [h]

/-! ### Itoa, plainly -/
def digs : Nat → Nat → List UInt8 → List UInt8
  | 0, _, acc => acc
  | f + 1, m, acc => if m = 0 then acc else digs f (m / 10) (UInt8.ofNat (48 + m % 10) :: acc)

/-- What api.Itoa answers. -/
def itoa (n : Int) : List UInt8 := if n = 0 then [48] else if n < 0 then 45 :: digs 19 n.natAbs [] else digs 19 n.natAbs []

theorem digs_zero (f : Nat) (ds : List UInt8) : digs f 0 ds = ds := by cases f <;> rfl

theorem digs_step (f m : Nat) (ds : List UInt8) (h : m ≠ 0) : digs (f + 1) m ds = digs f (m / 10) (UInt8.ofNat (48 + m % 10) :: ds) := by
  simp [digs, h]

theorem digs_length : ∀ (f m : Nat) (ds : List UInt8), (digs f m ds).length ≤ f + ds.length
  | 0, _, ds => by simp [digs]
  | f + 1, m, ds => by
    unfold digs
    split
    · omega
    · have := digs_length f (m / 10) (UInt8.ofNat (48 + m % 10) :: ds)
      rw [List.length_cons] at this
      omega

theorem itoa_length (n : Int) : (itoa n).length ≤ 20 := by
  have h := digs_length 19 n.natAbs []
  unfold itoa
  split
  · simp
  · split
    · simp at h ⊢; omega
    · simp at h; omega

theorem tdiv_natAbs (m : Int) : (m.tdiv 10).natAbs = m.natAbs / 10 := by
  rw [Int.natAbs_tdiv]; rfl
theorem tmod_natAbs (m : Int) : (m.tmod 10).natAbs = m.natAbs % 10 := by
  rw [Int.natAbs_tmod]; rfl

theorem tdiv_nonneg' (m : Int) (h : 0 ≤ m) : 0 ≤ m.tdiv 10 := Int.tdiv_nonneg h (by decide)
theorem tdiv_nonpos' (m : Int) (h : m ≤ 0) : m.tdiv 10 ≤ 0 := by
  have := Int.tdiv_nonneg (a := -m) (b := 10) (by omega) (by decide)
  rw [Int.neg_tdiv] at this
  omega

theorem set_replicate (k : Nat) (hk : 0 < k) (v x : Value) (l : List Value) : (List.replicate k v ++ l).set (k - 1) x = List.replicate (k - 1) v ++ x :: l := by
  obtain ⟨j, rfl⟩ : ∃ j, k = j + 1 := ⟨k - 1, by omega⟩
  rw [List.replicate_succ']
  simp

theorem set_rep_drop (ls : List Value) (j : Nat) (v : Value) (h : j < ls.length) : (List.replicate j v ++ ls.drop j).set j v = List.replicate (j + 1) v ++ ls.drop (j + 1) := by
  have e : ls.drop j = ls[j] :: ls.drop (j + 1) := List.drop_eq_getElem_cons h
  rw [List.set_append_right _ _ (by simp), e, List.replicate_succ', List.length_replicate, Nat.sub_self, List.set_cons_zero, List.append_assoc]
  rfl

theorem get_replicate (k : Nat) (hk : 0 < k) (v : Value) (l : List Value) : (List.replicate k v ++ l)[k - 1]? = some v := by
  rw [List.getElem?_append_left (by simp; omega), List.getElem?_replicate, if_pos (by omega)]

theorem ret_int {k : IntKind} {a b : Int} (h : a = b) : Ending.returned (.int k a) = .returned (.int k b) := by rw [h]
theorem ret_val {a b : Value} (h : a = b) : Ending.returned a = .returned b := by rw [h]

end Go.Qx
