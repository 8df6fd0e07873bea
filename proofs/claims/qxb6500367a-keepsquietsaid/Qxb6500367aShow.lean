/-
  Show, New.
-/
import Derived.Test.Qxb6500367aSmallFns
import Derived.Test.Qxb6500367aEnter
import Derived.Test.Qxb6500367aEvents
import Derived.Laws.MakeOwn
namespace Go.Proofs.Qxb6500367a
open Go.RowKit Go.Qx
set_option linter.unusedSimpArgs false
set_option linter.unusedVariables false

theorem field_length (s : List UInt8) (v : Int) : (field s v).length ≤ s.length + 21 := by
  have := itoa_length v
  simp [field]; omega

/-- What Show wants: every number is an int. -/
def In64 (v : Int) : Prop := -9223372036854775808 ≤ v ∧ v ≤ 9223372036854775807

structure Shows (s : Nd) : Prop where
  clock : In64 s.clock
  phase : In64 s.phase
  q : ∀ u ∈ s.q, In64 u.1 ∧ In64 u.2

theorem heldP_in : ∀ (q : List (Int × Int)) (j : Int), (∀ u ∈ q, In64 u.1 ∧ In64 u.2) → In64 (heldP q j)
  | [], _, _ => by unfold heldP In64; omega
  | s :: r, j, h => by
    unfold heldP
    split
    · exact (h s (by simp)).1
    · exact heldP_in r j (fun u hu => h u (by simp [hu]))

theorem headP_in (q : List (Int × Int)) (h : ∀ u ∈ q, In64 u.1 ∧ In64 u.2) : In64 (headP q) := by
  cases q with
  | nil => exact ⟨by decide, by decide⟩
  | cons u r => exact (h u (by simp)).2

/-- The flags' bits below k. -/
def bitsTo (g : List Bool) (k : Nat) : Int := bitsP (g.take k) 0

theorem bitsP_append : ∀ (g h : List Bool) (j : Nat), bitsP (g ++ h) j = bitsP g j + bitsP h (j + g.length)
  | [], h, j => by simp [bitsP]
  | b :: r, h, j => by
    have := bitsP_append r h (j + 1)
    simp only [List.cons_append, bitsP, this, List.length_cons]
    rw [show j + 1 + r.length = j + (r.length + 1) by omega]
    omega

theorem bitsTo_succ (g : List Bool) (k : Nat) (hk : k < g.length) : bitsTo g (k + 1) = bitsTo g k + if g[k] then 2 ^ k else 0 := by
  unfold bitsTo
  rw [List.take_succ_eq_append_getElem hk, bitsP_append]
  simp [bitsP, Nat.min_eq_left (Nat.le_of_lt hk)]

theorem bitsTo_bound (g : List Bool) : ∀ k, k ≤ g.length → 0 ≤ bitsTo g k ∧ bitsTo g k < 2 ^ k
  | 0, _ => by simp [bitsTo, bitsP]
  | k + 1, h => by
    have ih := bitsTo_bound g k (by omega)
    rw [bitsTo_succ g k (by omega)]
    have : (2 : Int) ^ (k + 1) = 2 ^ k + 2 ^ k := by rw [Int.pow_succ]; omega
    split <;> omega

theorem or_bit_all : ∀ k, k < 4 → ∀ v, v < 8 → v < 2 ^ k → bits BinOp.or IntKind.i64 ((v : Nat) : Int) (wrap64 (2 ^ k)) = (v : Int) + 2 ^ k := by decide +kernel

theorem or_bit (k : Nat) (hk : k < 4) (v : Int) (h0 : 0 ≤ v) (h1 : v < 2 ^ k) : bits BinOp.or IntKind.i64 v (wrap64 (2 ^ k)) = v + 2 ^ k := by
  obtain ⟨u, rfl⟩ : ∃ u : Nat, v = u := ⟨v.toNat, by omega⟩
  have hk2 : (2 : Nat) ^ k ≤ 8 := by
    have : (2 : Nat) ^ k ≤ 2 ^ 3 := Nat.pow_le_pow_right (by omega) (by omega)
    omega
  have h1' : u < 2 ^ k := by
    have e : ((2 : Int) ^ k) = ((2 ^ k : Nat) : Int) := by simp
    rw [e] at h1; omega
  exact or_bit_all k hk u (by omega) h1'

/-- Show's last fields, below k. -/
def tailTo (l : List UInt8) (q : List (Int × Int)) (k : Nat) : List UInt8 := (List.range k).foldl (fun l (j : Nat) => field l (heldP q j)) l

theorem tailTo_succ (l : List UInt8) (q : List (Int × Int)) (k : Nat) : tailTo l q (k + 1) = field (tailTo l q k) (heldP q k) := by
  unfold tailTo; rw [List.range_succ, List.foldl_append]; rfl

set_option maxRecDepth 100000 in
set_option maxHeartbeats 2000000 in
theorem show_any (w : World) (x a b : Nat) (s : Nd) (r : Rep w x a b s) (hS : Shows s) : Calls Try.prog 21 #[ptr x] w fun e w' => e = .returned (.string (str (showP s))) ∧ Quiet w w' := by
  obtain ⟨c0, c1, c2, c3, c4, c5, c6, c7⟩ := r.cells
  have hn4 := r.n4
  have hil := r.il
  have hgl := r.gl
  obtain ⟨⟨a1, a2⟩, ⟨a3, a4⟩, hq⟩ := hS
  have l1 := field_length [] s.id
  have l2 := field_length (field [] s.id) s.clock
  have l3 := field_length (field (field [] s.id) s.clock) s.phase
  have hnil : (str []) = ⟨#[]⟩ := rfl
  unfold ptr
  have hF1 := field_any w [] s.id (by simp) (by omega) (by omega)
  rw [hnil] at hF1
  clear hnil
  go_enter Try.func21, Try.ntmps21
  go_wp2_with fail
  refine hF1.mono ?_
  rintro e w1 ⟨rfl, q1⟩
  have d2 := Quiet.cell q1 c2
  go_wp2_with fail
  refine (field_any w1 _ s.clock (by simp at l1; omega) (by omega) (by omega)).mono ?_
  rintro e w2 ⟨rfl, q2'⟩
  have q2 := Quiet.trans q1 q2'
  have d3 := Quiet.cell q2 c3
  go_wp2_with fail
  refine (field_any w2 _ s.phase (by simp at l1; omega) (by omega) (by omega)).mono ?_
  rintro e w3 ⟨rfl, q3'⟩
  have q3 := Quiet.trans q2 q3'
  have e0 := Quiet.cell q3 c0
  have e6 := Quiet.cell q3 c6
  go_wp2
  go_loopw [4, 30] (fun v i wr => ∃ k : Nat, k ≤ s.n ∧ i = .int .i64 k ∧ v = .int .i64 (bitsTo s.got k) ∧ wr = w3) (fun _ i _ => 5 - (intOf i).toNat)
  case atStart => exact ⟨0, Nat.zero_le _, rfl, rfl, rfl⟩
  case round =>
    obtain ⟨k, hk, rfl, rfl, rfl⟩ := hrel
    have i0 : (0 : Int) ≤ (k : Int) := by omega
    have r3 := r.quiet q3
    by_cases hlt : k < s.n
    · have i1 : (k : Int) < (s.n : Int) := by omega
      have hg := r3.gots k hlt
      have hst := bitsTo_succ s.got k (by omega)
      rw [List.getD_eq_getElem?_getD, List.getElem?_eq_getElem (by omega), Option.getD_some] at hg
      cases hb : s.got[k] with
      | true =>
        rw [hb] at hg hst
        have hstH := hide hst
        clear hst hb
        have hbd := bitsTo_bound s.got k (by omega)
        go_wp2
        go_roundw
        case rel => exact ⟨k + 1, by omega, by go_num, by rw [or_bit k (by omega) _ hbd.1 hbd.2, unhide hstH]; simp⟩
        case measure => simp [intOf]; omega
      | false =>
        rw [hb] at hg hst
        have hstH := hide hst
        clear hst hb
        go_wp2
        go_roundw
        case rel => exact ⟨k + 1, by omega, by go_num, by rw [unhide hstH]; simp⟩
        case measure => simp [intOf]; omega
    · have i1 : ¬ (k : Int) < (s.n : Int) := by omega
      go_wp2_with fail
      have hbd := bitsTo_bound s.got k (by omega)
      have hk2 : (2 : Int) ^ k ≤ 16 := by
        have : (2 : Nat) ^ k ≤ 2 ^ 4 := Nat.pow_le_pow_right (by omega) (by omega)
        have e : ((2 : Int) ^ k) = ((2 ^ k : Nat) : Int) := by simp
        rw [e]; omega
      have hbe : bitsTo s.got k = bitsP s.got 0 := by unfold bitsTo; rw [List.take_of_length_le (by omega)]
      rw [hbe] at hbd ⊢
      clear hbe
      have l4 := field_length (field (field (field [] s.id) s.clock) s.phase) (bitsP s.got 0)
      refine (field_any _ _ (bitsP s.got 0) (by simp at l1; omega) (by omega) (by omega)).mono ?_
      rintro e w4 ⟨rfl, q4'⟩
      have q4 := Quiet.trans q3 q4'
      go_wp2_with fail
      refine (head_any w4 x a b s (r.quiet q4)).mono ?_
      rintro e w5 ⟨rfl, q5'⟩
      have q5 := Quiet.trans q4 q5'
      have hhd := headP_in s.q hq
      have l5 := field_length (field (field (field (field [] s.id) s.clock) s.phase) (bitsP s.got 0)) (headP s.q)
      go_wp2_with fail
      refine (field_any w5 _ (headP s.q) (by simp at l1; omega) hhd.1 hhd.2).mono ?_
      rintro e w6 ⟨rfl, q6'⟩
      have q6 := Quiet.trans q5 q6'
      have hsh : Hid (showP s = tailTo (field (field (field (field (field [] s.id) s.clock) s.phase) (bitsP s.got 0)) (headP s.q)) s.q s.n) := rfl
      have hl6 : (field (field (field (field (field [] s.id) s.clock) s.phase) (bitsP s.got 0)) (headP s.q)).length ≤ 105 := by simp at l1; omega
      generalize field (field (field (field (field [] s.id) s.clock) s.phase) (bitsP s.got 0)) (headP s.q) = L at hsh hl6 ⊢
      clear l1 l2 l3 l4 l5 e0 e6
      have e0 := Quiet.cell q6 c0
      go_wp2
      go_loopw [3, 57] (fun v i wr => ∃ k : Nat, k ≤ s.n ∧ i = .int .i64 k ∧ v = .string (str (tailTo L s.q k)) ∧ (tailTo L s.q k).length ≤ 105 + k * 21 ∧ Quiet w wr) (fun _ i _ => 5 - (intOf i).toNat)
      case atStart => exact ⟨0, Nat.zero_le _, rfl, rfl, hl6, q6⟩
      case round =>
        obtain ⟨k, hk, rfl, rfl, hlk, qk⟩ := hrel
        have i0 : (0 : Int) ≤ (k : Int) := by omega
        by_cases hlt : k < s.n
        · have i1 : (k : Int) < (s.n : Int) := by omega
          have hhi := heldP_in s.q k hq
          have hts := hide (tailTo_succ L s.q k)
          have hfl := field_length (tailTo L s.q k) (heldP s.q k)
          go_wp2_with fail
          refine (held_any _ x a b s (r.quiet qk) k).mono ?_
          rintro e w7 ⟨rfl, q7⟩
          go_wp2_with fail
          refine (field_any w7 _ (heldP s.q k) (by omega) hhi.1 hhi.2).mono ?_
          rintro e w8 ⟨rfl, q8⟩
          go_wp2
          go_roundw
          case rel => exact ⟨k + 1, by omega, by go_num, by rw [unhide hts], by rw [unhide hts]; omega, Quiet.trans (Quiet.trans qk q7) q8⟩
          case measure => simp [intOf]; omega
        · have i1 : ¬ (k : Int) < (s.n : Int) := by omega
          have hkn : Hid (k = s.n) := by show _ = _; omega
          go_wp2
          go_ret
          refine ⟨?_, qk⟩
          rw [unhide hsh, ← unhide hkn]
          rfl

theorem info4 : (Try.prog.info? 4).map (fun i => (i.zero, i.size, i.bytes)) = some (some (.bool false), 1, 1) := by kernel_rfl

theorem made2 (n : Nat) (h : n ≤ 4) : madeCells (Value.agg #[Value.int .i64 0, Value.int .i64 0]).cells (n * 2) = (List.replicate (n * 2) (Value.int .i64 0)).toArray := by
  match n, h with
  | 0, _ => show _ = _; kernel_rfl
  | 1, _ => show _ = _; kernel_rfl
  | 2, _ => show _ = _; kernel_rfl
  | 3, _ => show _ = _; kernel_rfl
  | 4, _ => show _ = _; kernel_rfl

theorem made1 (n : Nat) (h : n ≤ 4) : madeCells (Value.bool false).cells (n * 1) = (List.replicate n (Value.bool false)).toArray := by
  match n, h with
  | 0, _ => show _ = _; kernel_rfl
  | 1, _ => show _ = _; kernel_rfl
  | 2, _ => show _ = _; kernel_rfl
  | 3, _ => show _ = _; kernel_rfl
  | 4, _ => show _ = _; kernel_rfl

theorem make69 (W : World) (n : Nat) (h : n ≤ 4) : (Instr.makeSlice 69 (.int .i64 0) (.int .i64 n)).run Try.prog W = .ok (.slice (some ⟨W.heap.size, 0, none⟩) 0 n) (W.alloc (.cells (List.replicate (n * 2) (Value.int .i64 0)).toArray 91)) := by
  obtain ⟨i, hi, hz0, hz1, hz2⟩ := info_parts info91
  have := run_make (P := Try.prog) W 69 91 i _ Try.underlying69 hi hz0 .i64 .i64 0 n (by omega) (by omega) (by rw [hz2]; omega) (by omega)
  rw [hz1] at this
  simp only [Int.toNat_zero, Int.toNat_natCast] at this
  rw [this, made2 n h]

theorem make70 (W : World) (n : Nat) (h : n ≤ 4) : (Instr.makeSlice 70 (.int .i64 n) (.int .i64 n)).run Try.prog W = .ok (.slice (some ⟨W.heap.size, 0, none⟩) n n) (W.alloc (.cells (List.replicate n (Value.bool false)).toArray 4)) := by
  obtain ⟨i, hi, hz0, hz1, hz2⟩ := info_parts info4
  have := run_make (P := Try.prog) W 70 4 i _ Try.underlying70 hi hz0 .i64 .i64 n n (by omega) (by omega) (by rw [hz2]; omega) (by omega)
  rw [hz1] at this
  simp only [Int.toNat_zero, Int.toNat_natCast] at this
  rw [this, made1 n h]

set_option maxRecDepth 100000 in
set_option maxHeartbeats 2000000 in
theorem new_ok (w : World) (n id : Nat) (h1 : 1 ≤ n) (h2 : n ≤ 4) (h3 : id < n) : Calls Try.prog 19 #[.int .i64 n, .int .i64 id] w fun e w' => ∃ x a b, e = .returned (.tuple #[ptr x, .int .i64 0]) ∧ Quiet w w' ∧ (∀ k, own x a b k → w.heap.size ≤ k) ∧ Rep w' x a b (newP n id) := by
  have i1 : (1 : Int) ≤ (n : Int) := by omega
  have i2 : (n : Int) ≤ 4 := by omega
  have i3 : (0 : Int) ≤ (id : Int) := by omega
  have i4 : (id : Int) < (n : Int) := by omega
  have i5 : (0 : Int) ≤ (n : Int) := by omega
  have hm1 := fun W => make69 W n h2
  have hm2 := fun W => make70 W n h2
  go_enter Try.func19, Try.ntmps19
  go_wp2
  go_region_law (fail)
  · go_wp2
    go_ret2
    rw [show Array.replicate (n * 2) (Value.int .i64 0) = (List.replicate (n * 2) (Value.int .i64 0)).toArray by simp, show Array.replicate n (Value.bool false) = (List.replicate n (Value.bool false)).toArray by simp]
    refine ⟨w.heap.size + 1 + 1, w.heap.size, w.heap.size + 1, rfl, ((((Chg.refl _ _).alloc _).alloc _).alloc _).drew, ?_, ?_⟩
    · rintro k (rfl | rfl | rfl) <;> omega
    · refine ⟨(Blk.at_new (by simp)).drew, ⟨List.replicate (n * 2) (Value.int .i64 0), (((Blk.new _ _ _).alloc _).alloc _).drew, by simp [newP, qCells]⟩, ?_, by omega, by omega, by omega, h1, h2, h3, Nat.zero_le _, by simp [newP]⟩
      simp only [newP, List.map_replicate]
      exact ((Blk.at_new (by simp)).alloc _).drew
  · go_wp2
    go_ret2
    rw [show Array.replicate (n * 2) (Value.int .i64 0) = (List.replicate (n * 2) (Value.int .i64 0)).toArray by simp, show Array.replicate n (Value.bool false) = (List.replicate n (Value.bool false)).toArray by simp]
    refine ⟨w.heap.size + 1 + 1, w.heap.size + 1, w.heap.size, rfl, ((((Chg.refl _ _).alloc _).alloc _).alloc _).drew, ?_, ?_⟩
    · rintro k (rfl | rfl | rfl) <;> omega
    · refine ⟨(Blk.at_new (by simp)).drew, ⟨List.replicate (n * 2) (Value.int .i64 0), ((Blk.at_new (by simp)).alloc _).drew, by simp [newP, qCells]⟩, ?_, by omega, by omega, by omega, h1, h2, h3, Nat.zero_le _, by simp [newP]⟩
      simp only [newP, List.map_replicate]
      exact (((Blk.new _ _ _).alloc _).alloc _).drew

theorem born_any (w : World) (n id : Nat) (h1 : 1 ≤ n) (h2 : n ≤ 4) (h3 : id < n) : Calls Try.prog 14 #[.int .i64 n, .int .i64 id] w fun e w' => ∃ x a b, e = .returned (ptr x) ∧ Quiet w w' ∧ (∀ k, own x a b k → w.heap.size ≤ k) ∧ Rep w' x a b (newP n id) := by
  have hn := new_ok w n id h1 h2 h3
  unfold ptr at *
  go_enter Try.func14, Try.ntmps14
  go_wp2_with fail
  refine hn.mono ?_
  rintro e w1 ⟨x, a, b, rfl, q, ho, r⟩
  go_wp2
  go_ret
  exact ⟨x, a, b, rfl, q, ho, r⟩
end Go.Proofs.Qxb6500367a
