/-
  THE TEXT's QUADS; the real bench: Load. (gen8load.py)
-/
import Derived.Test.Qxb6500368aOps
import Derived.Laws.Strings
namespace Go.Proofs.Qxb6500368a
open Go.RowKit Go.Qx
set_option linter.unusedVariables false
set_option linter.unusedSimpArgs false

theorem bits_or_i64_nat (a b : Nat) (ha : a < 9223372036854775808) (hb : b < 9223372036854775808) : bits .or .i64 (a : Int) (b : Int) = ((a ||| b : Nat) : Int) := by
  have hx : a ||| b < 2 ^ 63 := Nat.or_lt_two_pow (by omega) (by omega)
  have h1 : (BitVec.ofInt 64 (a : Int)).toNat = a := by
    rw [BitVec.ofInt_natCast, BitVec.toNat_ofNat]; exact Nat.mod_eq_of_lt (by omega)
  have h2 : (BitVec.ofInt 64 (b : Int)).toNat = b := by
    rw [BitVec.ofInt_natCast, BitVec.toNat_ofNat]; exact Nat.mod_eq_of_lt (by omega)
  show IntKind.i64.wrap ((BitVec.ofInt 64 (a : Int) ||| BitVec.ofInt 64 (b : Int)).toNat : Int) = _
  rw [BitVec.toNat_or, h1, h2, IntKind.wrap_i64]
  omega

theorem bits_or_u64_nat (a b : Nat) (ha : a < 9223372036854775808) (hb : b < 9223372036854775808) : bits .or .u64 (a : Int) (b : Int) = ((a ||| b : Nat) : Int) := by
  have hx : a ||| b < 2 ^ 63 := Nat.or_lt_two_pow (by omega) (by omega)
  have h1 : (BitVec.ofInt 64 (a : Int)).toNat = a := by
    rw [BitVec.ofInt_natCast, BitVec.toNat_ofNat]; exact Nat.mod_eq_of_lt (by omega)
  have h2 : (BitVec.ofInt 64 (b : Int)).toNat = b := by
    rw [BitVec.ofInt_natCast, BitVec.toNat_ofNat]; exact Nat.mod_eq_of_lt (by omega)
  show IntKind.u64.wrap ((BitVec.ofInt 64 (a : Int) ||| BitVec.ofInt 64 (b : Int)).toNat : Int) = _
  rw [BitVec.toNat_or, h1, h2, IntKind.wrap_u64]
  omega

def byteN (s : ByteArray) (i : Nat) : Nat := if h : i < s.size then s[i].toNat else 0

theorem byteN_lt (s : ByteArray) (i : Nat) : byteN s i < 256 := by
  unfold byteN
  split
  · exact UInt8.toNat_lt _
  · omega

/-- Quad number i. -/
def quadN (s : ByteArray) (i : Nat) : Nat := ((byteN s (4 * i) * 16777216 ||| byteN s (4 * i + 1) * 65536) ||| byteN s (4 * i + 2) * 256) ||| byteN s (4 * i + 3)

theorem or_lt32 {a b : Nat} (ha : a < 4294967296) (hb : b < 4294967296) : a ||| b < 4294967296 := Nat.or_lt_two_pow (n := 32) ha hb

theorem quadN_lt (s : ByteArray) (i : Nat) : quadN s i < 4294967296 := by
  have h0 := byteN_lt s (4 * i)
  have h1 := byteN_lt s (4 * i + 1)
  have h2 := byteN_lt s (4 * i + 2)
  have h3 := byteN_lt s (4 * i + 3)
  exact or_lt32 (or_lt32 (or_lt32 (by omega) (by omega)) (by omega)) (by omega)

/-- The first k quads are all below p. -/
def quadsTo (s : ByteArray) : Nat → Bool
  | 0 => true
  | k + 1 => quadsTo s k && decide (quadN s k < 998244353)

/-- What the text answers: ErrTooLong > ErrLen > ErrRange. -/
def quadsE (s : ByteArray) : Int := if 64 < s.size then 1 else if s.size % 4 ≠ 0 then 2 else if quadsTo s (s.size / 4) = true then 0 else 3

theorem quads_stick (s : ByteArray) {k : Nat} (h : quadsTo s k = false) : ∀ j, quadsTo s (k + j) = false
  | 0 => h
  | j + 1 => by rw [← Nat.add_assoc, quadsTo, quads_stick s h j]; rfl

def loadE (s : ByteArray) (r : Int) : Int := if quadsE s = 0 then (if regP r = true then 0 else 4) else quadsE s

theorem made_ints : ∀ k, k ≤ 16 → madeCells (Value.int .u64 0).cells (k * 1) = (ints .u64 (fun _ => 0) k).toArray := by
  intro k hk
  rcases (by omega : k = 0 ∨ k = 1 ∨ k = 2 ∨ k = 3 ∨ k = 4 ∨ k = 5 ∨ k = 6 ∨ k = 7 ∨ k = 8 ∨ k = 9 ∨ k = 10 ∨ k = 11 ∨ k = 12 ∨ k = 13 ∨ k = 14 ∨ k = 15 ∨ k = 16) with rfl | rfl | rfl | rfl | rfl | rfl | rfl | rfl | rfl | rfl | rfl | rfl | rfl | rfl | rfl | rfl | rfl <;> kernel_rfl

theorem make41k (W : World) (k : Nat) (hk : k ≤ 16) : (Instr.makeSlice 41 (.int .i64 k) (.int .i64 k)).run Try.prog W = .ok (.slice (some ⟨W.heap.size, 0, none⟩) k k) (W.alloc (.cells (ints .u64 (fun _ => 0) k).toArray 42)) := by
  obtain ⟨i, hi, hz0, hz1, hz2⟩ := info_parts info42
  have := run_make (P := Try.prog) W 41 42 i _ Try.underlying41 hi hz0 .i64 .i64 (k : Int) (k : Int) (by omega) (by omega) (by rw [hz2]; omega) (by omega)
  rw [hz1, Int.toNat_natCast, made_ints k hk] at this
  exact this

theorem over_ints (c y : Nat → Int) : ∀ (k off N : Nat), off + k ≤ N → over (ints .u64 c N) off (ints .u64 y k) = ints .u64 (win c off k y) N := by
  intro k off N h
  have hl := ints_length .u64 c N
  have e : ints .u64 c N = (ints .u64 c N).take off ++ ((ints .u64 c N).drop off).take k ++ (ints .u64 c N).drop (off + k) := by
    rw [List.append_assoc, ← List.drop_drop, List.take_append_drop, List.take_append_drop]
  have h1 := over_mid (ints .u64 y k) ((ints .u64 c N).take off) (((ints .u64 c N).drop off).take k) ((ints .u64 c N).drop (off + k)) (by rw [List.length_take, List.length_drop, hl, ints_length]; omega)
  rw [← e, List.length_take, hl, Nat.min_eq_left (by omega)] at h1
  rw [h1]
  refine List.ext_getElem? (fun i => ?_)
  by_cases hi : i < N
  · rw [ints_get .u64 _ N i hi]
    unfold win
    by_cases h2 : i < off
    · rw [if_neg (by omega), List.append_assoc, List.getElem?_append_left (by rw [List.length_take, hl]; omega), List.getElem?_take_of_lt h2, ints_get .u64 _ N i hi]
    · by_cases h3 : i < off + k
      · rw [if_pos (by omega), List.append_assoc, List.getElem?_append_right (by rw [List.length_take, hl]; omega), List.length_take, hl, Nat.min_eq_left (by omega), List.getElem?_append_left (by rw [ints_length]; omega), ints_get .u64 y k (i - off) (by omega)]
      · rw [if_neg (by omega), List.getElem?_append_right (by rw [List.length_append, List.length_take, hl, ints_length]; omega), List.length_append, List.length_take, hl, ints_length, Nat.min_eq_left (by omega), List.getElem?_drop, show off + k + (i - (off + k)) = i by omega, ints_get .u64 _ N i hi]
  · rw [List.getElem?_eq_none (by rw [List.length_append, List.length_append, List.length_take, hl, ints_length, List.length_drop, hl]; omega), List.getElem?_eq_none (by rw [ints_length]; omega)]

theorem ints_oneCell' (kd : IntKind) (y : Nat → Int) : ∀ k, ∀ u ∈ ints kd y k, u.oneCell' = true
  | 0, u, h => by simp [ints] at h
  | k + 1, u, h => by
    unfold ints at h
    rcases List.mem_append.1 h with h | h
    · exact ints_oneCell' kd y k u h
    · simp at h; subst h; rfl

theorem copyU (W : World) (v V off dl sl sc : Nat) (c y : Nat → Int) (M : Nat) (hk : sl ≤ dl) (ho : off + sl ≤ 48) (hM : sl ≤ M) (hv : Blk W v 42 (ints .u64 c 48)) (hV : Blk W V 42 (ints .u64 y M)) : (Builtin.copy_ #[41, 41] 3 #[.slice (some ⟨v, off, none⟩) dl dl, .slice (some ⟨V, 0, none⟩) sl sc]).run Try.prog W = .ok (.int .i64 sl) (W.setCells v off (ints .u64 y sl)) := by
  have h := run_copy_cells (P := Try.prog) W 41 41 3 42 v off dl dl ⟨V, 0, none⟩ sl sc (ints .u64 y sl) Try.underlying41 (by kernel_rfl) (by rw [ints_length]; exact (Nat.min_eq_left hk).symm) ?_ ?_ ?_ (ints_oneCell' _ _ _)
  · rw [h, ints_length]
    rfl
  · intro j u hu
    have hj : j < sl := by
      have := (List.getElem?_eq_some_iff.1 hu).1
      rw [ints_length] at this; exact this
    have e : (⟨V, 0, none⟩ : Addr).add j = ⟨V, j, none⟩ := by simp [Addr.add]; exact fun h => h.symm
    rw [ints_get .u64 y sl j hj] at hu
    rw [e, hV.cell j, ints_get .u64 y M j (by omega)]; exact hu
  · intro j hj
    rw [ints_length] at hj
    rw [hv.cell, ints_get .u64 c 48 (off + j) (by omega)]; rfl
  · intro j hj
    exact hv.frozen _

def updN (n : Nat → Nat) (r m : Nat) : Nat → Nat := fun j => if j = r then m else n j

def loadC (c : Nat → Int) (s : ByteArray) (r : Int) : Nat → Int := if loadE s r = 0 then win c (16 * r.toNat) (s.size / 4) (fun i => (quadN s i : Int)) else c
def loadN (n : Nat → Nat) (s : ByteArray) (r : Int) : Nat → Nat := if loadE s r = 0 then updN n r.toNat (s.size / 4) else n

/-- The first i quads. -/
def cutQ (s : ByteArray) (i : Nat) : Nat → Int := fun j => if j < i then (quadN s j : Int) else 0
theorem cutQ_next (s : ByteArray) (i : Nat) : updF (cutQ s i) i (quadN s i) = cutQ s (i + 1) := by
  funext r
  unfold updF cutQ
  by_cases h : r = i
  · subst h; simp
  · rw [if_neg h]
    by_cases h2 : r < i
    · rw [if_pos h2, if_pos (by omega)]
    · rw [if_neg h2, if_neg (by omega)]

theorem idx_byte (W : World) (s : ByteArray) (q : Nat) (h : q < s.size) : (Instr.index 9 (.string s) (.int .i64 q)).run Try.prog W = .ok (.int .u8 (byteN s q)) W := by
  rw [run_index_string W 9 s .i64 q Try.underlying9, dif_pos (by omega)]
  congr 2
  unfold byteN
  rw [dif_pos h]
  simp

/-- What the four bytes of a quad give, step by step. -/
structure QuadF (s : ByteArray) (i : Nat) (y0 y1 y2 y3 A0 A1 A2 O1 O2 : Int) : Prop where
  i0 : ∀ W : World, (Instr.index 9 (.string s) (.int .i64 (4 * (i : Int)))).run Try.prog W = .ok (.int .u8 y0) W
  i1 : ∀ W : World, (Instr.index 9 (.string s) (.int .i64 (4 * (i : Int) + 1))).run Try.prog W = .ok (.int .u8 y1) W
  i2 : ∀ W : World, (Instr.index 9 (.string s) (.int .i64 (4 * (i : Int) + 2))).run Try.prog W = .ok (.int .u8 y2) W
  i3 : ∀ W : World, (Instr.index 9 (.string s) (.int .i64 (4 * (i : Int) + 3))).run Try.prog W = .ok (.int .u8 y3) W
  z0 : IntKind.u64.wrap y0 = y0
  z1 : IntKind.u64.wrap y1 = y1
  z2 : IntKind.u64.wrap y2 = y2
  z3 : IntKind.u64.wrap y3 = y3
  s0 : IntKind.u64.wrap (y0 * 16777216) = A0
  s1 : IntKind.u64.wrap (y1 * 65536) = A1
  s2 : IntKind.u64.wrap (y2 * 256) = A2
  r1 : bits .or .u64 A0 A1 = O1
  r2 : bits .or .u64 O1 A2 = O2
  r3 : bits .or .u64 O2 y3 = quadN s i
  e4 : IntKind.i64.wrap (4 * (i : Int)) = 4 * (i : Int)
  e5 : IntKind.i64.wrap (4 * (i : Int) + 1) = 4 * (i : Int) + 1
  e6 : IntKind.i64.wrap (4 * (i : Int) + 2) = 4 * (i : Int) + 2
  e7 : IntKind.i64.wrap (4 * (i : Int) + 3) = 4 * (i : Int) + 3

theorem quadF (s : ByteArray) (i : Nat) (h : 4 * i + 3 < s.size) (hi : i < 16) : ∃ y0 y1 y2 y3 A0 A1 A2 O1 O2 : Int, QuadF s i y0 y1 y2 y3 A0 A1 A2 O1 O2 := by
  have hbL := idx_byte
  have i0 : ∀ W : World, (Instr.index 9 (.string s) (.int .i64 (4 * (i : Int)))).run Try.prog W = .ok (.int .u8 (byteN s (4 * i))) W := fun W => by
    have := hbL W s (4 * i) (by omega); rw [← this]; congr 3
  have i1 : ∀ W : World, (Instr.index 9 (.string s) (.int .i64 (4 * (i : Int) + 1))).run Try.prog W = .ok (.int .u8 (byteN s (4 * i + 1))) W := fun W => by
    have := hbL W s (4 * i + 1) (by omega); rw [← this]; congr 3
  have i2 : ∀ W : World, (Instr.index 9 (.string s) (.int .i64 (4 * (i : Int) + 2))).run Try.prog W = .ok (.int .u8 (byteN s (4 * i + 2))) W := fun W => by
    have := hbL W s (4 * i + 2) (by omega); rw [← this]; congr 3
  have i3 : ∀ W : World, (Instr.index 9 (.string s) (.int .i64 (4 * (i : Int) + 3))).run Try.prog W = .ok (.int .u8 (byteN s (4 * i + 3))) W := fun W => by
    have := hbL W s (4 * i + 3) (by omega); rw [← this]; congr 3
  clear hbL
  have b0 := byteN_lt s (4 * i)
  have b1 := byteN_lt s (4 * i + 1)
  have b2 := byteN_lt s (4 * i + 2)
  have b3 := byteN_lt s (4 * i + 3)
  have hQ : quadN s i = ((byteN s (4 * i) * 16777216 ||| byteN s (4 * i + 1) * 65536) ||| byteN s (4 * i + 2) * 256) ||| byteN s (4 * i + 3) := rfl
  generalize byteN s (4 * i) = y0 at *
  generalize byteN s (4 * i + 1) = y1 at *
  generalize byteN s (4 * i + 2) = y2 at *
  generalize byteN s (4 * i + 3) = y3 at *
  have o1 : y0 * 16777216 ||| y1 * 65536 < 4294967296 := or_lt32 (by omega) (by omega)
  have o2 : y0 * 16777216 ||| y1 * 65536 ||| y2 * 256 < 4294967296 := or_lt32 o1 (by omega)
  refine ⟨y0, y1, y2, y3, (y0 * 16777216 : Nat), (y1 * 65536 : Nat), (y2 * 256 : Nat), (y0 * 16777216 ||| y1 * 65536 : Nat), (y0 * 16777216 ||| y1 * 65536 ||| y2 * 256 : Nat), i0, i1, i2, i3, ?_, ?_, ?_, ?_, ?_, ?_, ?_, bits_or_u64_nat _ _ (by omega) (by omega), bits_or_u64_nat _ _ (by omega) (by omega), ?_, ?_, ?_, ?_, ?_⟩
  · rw [IntKind.wrap_u64]; omega
  · rw [IntKind.wrap_u64]; omega
  · rw [IntKind.wrap_u64]; omega
  · rw [IntKind.wrap_u64]; omega
  · rw [IntKind.wrap_u64]; omega
  · rw [IntKind.wrap_u64]; omega
  · rw [IntKind.wrap_u64]; omega
  · rw [hQ]; exact bits_or_u64_nat _ _ (by omega) (by omega)
  · rw [IntKind.wrap_i64]; omega
  · rw [IntKind.wrap_i64]; omega
  · rw [IntKind.wrap_i64]; omega
  · rw [IntKind.wrap_i64]; omega

theorem meas_next {k i : Nat} (h : i < k) (wi : wrap64 ((i : Int) + 1) = (i : Int) + 1) : k + 1 - (intOf (.int .i64 (wrap64 ((i : Int) + 1)))).toNat < k + 1 - (intOf (.int .i64 (i : Int))).toNat := by
  rw [wi]
  show k + 1 - ((i : Int) + 1).toNat < k + 1 - (i : Int).toNat
  omega

set_option maxRecDepth 100000 in
set_option maxHeartbeats 4000000 in
theorem load_any (w : World) (x v : Nat) (c : Nat → Int) (n : Nat → Nat) (wk : Nat) (R : Rep w x v c n wk) (I : Inv c n wk) (r : Int) (s : ByteArray) :
    Calls Try.prog 16 #[ptr x, .int .i64 r, .string s] w (repPost w x v (loadE s r) (loadC c s r) (loadN n s r) wk) := by
  have RH := hide R
  by_cases h64 : 64 < s.size
  · have e0 : quadsE s = 1 := by simp [quadsE, h64]
    have e1 : Hid (loadE s r = 1) := by show _ = _; simp [loadE, e0]
    have e2 : Hid (loadC c s r = c) := by show _ = _; simp [loadC, unhide e1]
    have e3 : Hid (loadN n s r = n) := by show _ = _; simp [loadN, unhide e1]
    rw [unhide e1, unhide e2, unhide e3]
    have g1 : (64 : Int) < (s.size : Int) := by omega
    clear e1 e2 e3 e0 R I
    unfold ptr repPost
    go_enter Try.func16, Try.ntmps16
    go_wp2
    go_ret
    exact ⟨rfl, Chg.refl _ _, unhide RH⟩
  · have g1 : ¬ (64 : Int) < (s.size : Int) := by omega
    by_cases h4 : s.size % 4 = 0
    · obtain ⟨k, hk⟩ : ∃ k, s.size = 4 * k := ⟨s.size / 4, by omega⟩
      have hk16 : k ≤ 16 := by omega
      have t1 : (s.size : Int).tmod 4 = 0 := by rw [Int.tmod_eq_emod_of_nonneg (by omega)]; omega
      have t2 : (s.size : Int).tdiv 4 = (k : Int) := by rw [Int.tdiv_eq_ediv_of_nonneg (by omega)]; omega
      have hdiv : s.size / 4 = k := by omega
      have hE : Hid (quadsE s = if quadsTo s k = true then 0 else 3) := by show _ = _; unfold quadsE; rw [if_neg h64, if_neg (by omega), hdiv]
      have hm := make41k
      have hmk : ∀ W : World, (Instr.makeSlice 41 (.int .i64 k) (.int .i64 k)).run Try.prog W = .ok (.slice (some ⟨W.heap.size, 0, none⟩) k k) (W.alloc (.cells (ints .u64 (fun _ => 0) k).toArray 42)) := fun W => hm W k hk16
      clear hm
      generalize hF : (ints .u64 (fun _ => 0) k).toArray = F at hmk
      have B0 : Hid (Blk (w.alloc (.cells F 42)) w.heap.size 42 (ints .u64 (fun _ => 0) k)) := by
        rw [← hF]; exact Blk.new w 42 _
      clear hF
      have hkH := hide hk
      have hdH := hide hdiv
      have IH := hide I
      clear hk h4 hdiv I h64 R
      unfold ptr repPost
      go_enter Try.func16, Try.ntmps16
      go_wp2
      go_loopw [23] (fun z wr => ∃ i : Nat, i ≤ k ∧ z = .int .i64 i ∧ quadsTo s i = true ∧ Quiet w wr ∧ Blk wr w.heap.size 42 (ints .u64 (cutQ s i) k)) (fun z _ => k + 1 - (intOf z).toNat)
      case atStart => exact ⟨0, by omega, rfl, rfl, (Chg.refl _ _).alloc _, unhide B0⟩
      case round =>
        clear B0 hmk
        obtain ⟨i, hi, rfl, hq, q, B⟩ := hrel
        by_cases hlt : i < k
        · have g1 : (i : Int) < (k : Int) := by omega
          obtain ⟨y0, y1, y2, y3, A0, A1, A2, O1, O2, QF⟩ := quadF s i (by have := unhide hkH; omega) (by omega)
          have hqH := hide hq
          have hiH := hide hi
          have hltH := hide hlt
          have hk16H := hide hk16
          generalize hQ4 : (quadN s i : Int) = Q4
          have hQ4H := hide hQ4
          have r3 := QF.r3
          rw [hQ4] at r3
          have r3H := hide r3
          clear hq hi hlt hk16 t1 t2 hQ4 r3
          go_wp2
          obtain ⟨i0, i1, i2, i3, z0, z1, z2, z3, s0, s1, s2, r1, r2, r30, e4, e5, e6, e7⟩ := QF
          clear r30
          have r3 := unhide r3H
          go_quiet (fail)
          clear z0 z1 z2 z3 i0 i1 i2 i3 e4 e5 e6 e7 s0 s1 s2 r1 r2 r3 r3H
          have nx : Hid (quadsTo s (i + 1) = decide (quadN s i < 998244353)) := by show _ = _; rw [quadsTo, unhide hqH, Bool.true_and]
          have B1 : Hid (Blk ((wr.drewN nq).setCell ⟨w.heap.size, i, none⟩ (.int .u64 Q4)) w.heap.size 42 (ints .u64 (cutQ s (i + 1)) k)) := by
            have h1 := (B.drewN nq).set i (.int .u64 (quadN s i))
            rw [ints_set _ _ _ _ _ (unhide hltH), cutQ_next, unhide hQ4H] at h1
            exact h1
          have cc := B.cell i
          rw [ints_get _ _ _ _ (unhide hltH)] at cc
          have cc' := (B.drewN nq).cell i
          rw [ints_get _ _ _ _ (unhide hltH)] at cc'
          have ff := (B.drewN nq).frozen i
          have qH := hide q
          generalize cutQ s i i = old at *
          clear B q cc
          by_cases hr : quadN s i < 998244353
          · have g2 : ¬ (998244353 : Int) ≤ Q4 := by have := unhide hQ4H; omega
            have i00 : (0 : Int) ≤ (i : Int) := by omega
            have nx2 : Hid (quadsTo s (i + 1) = true) := by show _ = _; rw [unhide nx]; simpa using hr
            have wi : wrap64 ((i : Int) + 1) = (i : Int) + 1 := by have := unhide hk16H; unfold wrap64; omega
            clear hr nx
            go_wp2
            go_roundw
            case rel => exact ⟨i + 1, unhide hltH, by simp; exact wi, unhide nx2, (((unhide qH).drewN _).setCell (p := ⟨w.heap.size, i, none⟩) (.inr (by simp)) _), unhide B1⟩
            case measure =>
              have h := unhide hltH
              show k + 1 - (intOf (.int .i64 (wrap64 ((i : Int) + 1)))).toNat < k + 1 - (intOf (.int .i64 (i : Int))).toNat
              exact meas_next h wi
          · have g2 : (998244353 : Int) ≤ Q4 := by have := unhide hQ4H; omega
            have nx2 : quadsTo s (i + 1) = false := by rw [unhide nx]; simpa using hr
            have nx3 : quadsTo s k = false := by
              have := quads_stick s nx2 (k - (i + 1))
              rwa [show i + 1 + (k - (i + 1)) = k by have := unhide hltH; omega] at this
            have e0 : quadsE s = 3 := by rw [unhide hE, nx3]; rfl
            have e1 : Hid (loadE s r = 3) := by show _ = _; simp [loadE, e0]
            have e2 : Hid (loadC c s r = c) := by show _ = _; simp [loadC, unhide e1]
            have e3 : Hid (loadN n s r = n) := by show _ = _; simp [loadN, unhide e1]
            clear nx nx2 nx3 e0 hr B1
            go_wp2
            go_ret
            exact ⟨by rw [unhide e1]; rfl, Quiet.chg ((unhide qH).drewN _) _, by rw [unhide e2, unhide e3]; exact (unhide RH).quiet ((unhide qH).drewN _)⟩
        · have g1 : ¬ (i : Int) < (k : Int) := by omega
          obtain rfl : i = k := by omega
          have hc := reg_any wr r
          have e0 : quadsE s = 0 := by rw [unhide hE, hq]; rfl
          have Rr := (unhide RH).quiet q
          rcases reg_cases r with ⟨kr, rfl, hkr, hreg⟩ | hreg
          · rw [hreg] at hc
            have e1 : loadE s kr = 0 := by simp [loadE, e0, hreg]
            have e2 : Hid (loadC c s kr = win c (16 * kr) i (cutQ s i)) := by
              show _ = _
              unfold loadC
              rw [if_pos e1, unhide hdH, Int.toNat_natCast]
              funext j
              unfold win cutQ
              split
              · rw [if_pos (by omega)]
              · rfl
            have e3 : Hid (loadN n s kr = updN n kr i) := by show _ = _; unfold loadN; rw [if_pos e1, unhide hdH, Int.toNat_natCast]
            have e1H := hide e1
            have c0 := Rr.hd
            have c1 := Rr.len kr hkr
            have cx : Hid (∀ o, (wr.setCells v (16 * kr) (ints .u64 (cutQ s i) i)).cell? ⟨x, o, none⟩ = wr.cell? ⟨x, o, none⟩) := fun o => by
              rw [Rr.own.cell o, (Rr.own.setCells_other Rr.xv (ints .u64 (cutQ s i) i) (16 * kr)).cell o]
            have fx := (Rr.own.setCells_other Rr.xv (ints .u64 (cutQ s i) i) (16 * kr)).frozen (1 + kr)
            have cn := unhide cx (1 + kr)
            rw [c1] at cn
            have RF : Hid (Rep ((wr.setCells v (16 * kr) (ints .u64 (cutQ s i) i)).setCell ⟨x, 1 + kr, none⟩ (.int .i64 i)) x v (win c (16 * kr) i (cutQ s i)) (updN n kr i) wk) := by
              have h1 := (Rr.own.setCells_other Rr.xv (ints .u64 (cutQ s i) i) (16 * kr)).set (1 + kr) (.int .i64 (i : Int))
              rw [tabC, set_n _ _ _ _ _ _ kr hkr] at h1
              have h2 := (Rr.row.setCells (ints .u64 (cutQ s i) i) (16 * kr)).set_other (a := ⟨x, 1 + kr, none⟩) (Ne.symm Rr.xv) (.int .i64 (i : Int))
              rw [over_ints _ _ _ _ _ (by omega)] at h2
              refine ⟨?_, h2, Rr.xv⟩
              rw [tabC, bench_congr v _ (updF (fun r => (n r : Int)) kr i) _ rootT _ irootT _ ninvT _ (fun r _ => ?_) (fun _ _ => rfl) (fun _ _ => rfl) (fun _ _ => rfl)]
              · exact h1
              · unfold updN updF; split <;> rfl
            have CF : Hid (Chg (own x v) w ((wr.setCells v (16 * kr) (ints .u64 (cutQ s i) i)).setCell ⟨x, 1 + kr, none⟩ (.int .i64 i))) :=
              Chg.setCell (Chg.setCells (.inl (.inr rfl)) _ _ (Quiet.chg q _)) (p := ⟨x, 1 + kr, none⟩) (.inl (.inl rfl)) _
            have hcp := copyU wr v w.heap.size (16 * kr) (48 - 16 * kr) i i c (cutQ s i) i (by omega) (by omega) (by omega) Rr.row B
            clear e1 e0 hq q B Rr hE hreg g1 hlt hi
            generalize cutQ s i = YY at *
            generalize hCS : wr.setCells v (16 * kr) (ints .u64 YY i) = W1 at *
            clear hCS cx
            generalize n kr = m at *
            have k0 : (0 : Int) ≤ (i : Int) := by omega
            rcases (by omega : kr = 0 ∨ kr = 1 ∨ kr = 2) with rfl | rfl | rfl
            · simp only [Nat.mul_zero, Nat.sub_zero, Nat.add_zero] at hcp c1 cn fx RF CF
              go_wp2_with fail
              refine hc.mono ?_
              rintro e w' ⟨rfl, hw'⟩
              subst hw'
              go_wp2
              go_ret
              exact ⟨by rw [unhide e1H]; rfl, unhide CF, by rw [unhide e2, unhide e3]; exact unhide RF⟩
            · simp only [Nat.reduceMul, Nat.reduceSub, Nat.reduceAdd] at hcp c1 cn fx RF CF
              go_wp2_with fail
              refine hc.mono ?_
              rintro e w' ⟨rfl, hw'⟩
              subst hw'
              go_wp2
              go_ret
              exact ⟨by rw [unhide e1H]; rfl, unhide CF, by rw [unhide e2, unhide e3]; exact unhide RF⟩
            · simp only [Nat.reduceMul, Nat.reduceSub, Nat.reduceAdd] at hcp c1 cn fx RF CF
              go_wp2_with fail
              refine hc.mono ?_
              rintro e w' ⟨rfl, hw'⟩
              subst hw'
              go_wp2
              go_ret
              exact ⟨by rw [unhide e1H]; rfl, unhide CF, by rw [unhide e2, unhide e3]; exact unhide RF⟩
          · rw [hreg] at hc
            have e1 : Hid (loadE s r = 4) := by show _ = _; simp [loadE, e0, hreg]
            have e2 : Hid (loadC c s r = c) := by show _ = _; simp [loadC, unhide e1]
            have e3 : Hid (loadN n s r = n) := by show _ = _; simp [loadN, unhide e1]
            have qH := hide q
            clear e0 hreg q Rr B hq hE
            go_wp2_with fail
            refine hc.mono ?_
            rintro e w' ⟨rfl, hw'⟩
            subst hw'
            go_wp2
            go_ret
            exact ⟨by rw [unhide e1]; rfl, Quiet.chg (unhide qH) _, by rw [unhide e2, unhide e3]; exact (unhide RH).quiet (unhide qH)⟩
    · have e0 : quadsE s = 2 := by simp [quadsE, h64, h4]
      have e1 : Hid (loadE s r = 2) := by show _ = _; simp [loadE, e0]
      have e2 : Hid (loadC c s r = c) := by show _ = _; simp [loadC, unhide e1]
      have e3 : Hid (loadN n s r = n) := by show _ = _; simp [loadN, unhide e1]
      rw [unhide e1, unhide e2, unhide e3]
      have t1 : (s.size : Int).tmod 4 = ((s.size % 4 : Nat) : Int) := by rw [Int.tmod_eq_emod_of_nonneg (by omega)]; omega
      have nz : ¬ ((s.size % 4 : Nat) : Int) = 0 := by omega
      generalize s.size % 4 = q at *
      clear e1 e2 e3 e0 R I h4
      unfold ptr repPost
      go_enter Try.func16, Try.ntmps16
      go_wp2
      go_ret
      exact ⟨rfl, Chg.refl _ _, unhide RH⟩
end Go.Proofs.Qxb6500368a
