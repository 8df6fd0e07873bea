/-
  KEEPS: a register as a string: four bytes a coefficient; pack.
-/
import Derived.Test.Qxb6500368aMTurn
import Derived.Deep.AppendLies
namespace Go.Qx
open Go.RowKit
/-- append onto a slice that owns its row, at a plain step. -/
theorem wpList_append_row {P : Program} {w : World} {ops : Array Oper} {rest : List Oper} {o : Oper} {a : Act} {Q : Exit → Act → World → Prop} (hgd : o.guard = none) (s x : Operand) (t : TypeId)
    (ho : o.op = .call { callee := .builtin .append, args := #[s, x], argTypes := #[t, t] })
    (e : TypeId) (i : TypeInfo) (z : Value) (size bytes : Nat) (ht : P.underlying t = some (.slice e)) (hi : P.info? e = some i) (hz : i.zero = some z)
    (hsize : i.size = size) (hby : i.bytes = bytes) (hzs : z.cells.size = size) (hsz : 0 < size)
    (v : Value) (n : Nat) (xs : List Value) (hs : a.eval s = v) (hown : Row w e size v n xs)
    (ad : Addr) (m c : Nat) (news : List Value) (hx : a.eval x = .slice (some ad) m c) (hl : news.length = m * size) (hnews : ∀ j u, news[j]? = some u → w.cell? (ad.add j) = some u) (h1 : ∀ u ∈ news, u.oneCell' = true)
    (hm : 0 < m) (h63 : n + m ≤ maxLen) (hbytes : (n + m) * bytes ≤ 140737488355328) (H : Nat) (hH : w.heap.size = H)
    (h : ∀ g cap w', Row w' e size (.slice (some ⟨g, 0, none⟩) (n + m) cap) (n + m) (xs ++ news) → Chg (fun x => v.ownBlock = some x) w w' → (v.ownBlock = some g ∨ g = H) → g < w'.heap.size → wpList P ops Q rest (a.put o.dst (.slice (some ⟨g, 0, none⟩) (n + m) cap)) w') : wpList P ops Q (o :: rest) a w :=
  wpList_append_lies (P := P) w hgd s x t ho 0 e i z size bytes ht hi hz hsize hby hzs hsz v n xs hs hown ad m c news hx hl hnews h1 hm h63 hbytes (Nat.zero_le _) H hH
    (fun g cap w' h2 h3 h4 h5 => h g cap w' h2 (Chg.of_grown h3) h4 h5)

theorem Row.shape {w : World} {e : TypeId} {size : Nat} {v : Value} {n : Nat} {xs : List Value} (h : Row w e size v n xs) : ∃ ao cap, v = .slice ao n cap := by
  rcases h.form with ⟨rfl, rfl, _⟩ | ⟨g, cap, sp, rfl, _⟩
  · exact ⟨_, _, rfl⟩
  · exact ⟨_, _, rfl⟩

theorem news_new (w : World) (t : TypeId) (cs : List Value) : ∀ j u, cs[j]? = some u → (w.alloc (.cells cs.toArray t)).cell? ((⟨w.heap.size, 0, none⟩ : Addr).add j) = some u := by
  intro j u hj
  have h := (Blk.new w t cs).cell j
  rw [show (⟨w.heap.size, 0, none⟩ : Addr).add j = ⟨w.heap.size, j, none⟩ by unfold Addr.add; split <;> simp_all, h]
  exact hj
end Go.Qx
namespace Go.Proofs.Qxb6500368a
open Go.RowKit Go.Qx
set_option linter.unusedVariables false
set_option linter.unusedSimpArgs false

def q4 (v : Int) : List UInt8 := [UInt8.ofNat (v.toNat / 16777216), UInt8.ofNat (v.toNat / 65536), UInt8.ofNat (v.toNat / 256), UInt8.ofNat v.toNat]
def packL (y : Nat → Int) : Nat → List UInt8
  | 0 => []
  | l + 1 => packL y l ++ q4 (y l)

theorem packL_length (y : Nat → Int) : ∀ l, (packL y l).length = 4 * l
  | 0 => rfl
  | l + 1 => by simp [packL, q4, packL_length y l]; omega

theorem packL_congr {y z : Nat → Int} : ∀ {l}, (∀ i, i < l → y i = z i) → packL y l = packL z l
  | 0, _ => rfl
  | l + 1, h => by rw [packL, packL, packL_congr (fun i hi => h i (by omega)), h l (by omega)]

theorem packL_get (y : Nat → Int) : ∀ l i, i < l → ∀ k, k < 4 → (packL y l)[4 * i + k]? = (q4 (y i))[k]?
  | 0, i, h, _, _ => by omega
  | l + 1, i, h, k, hk => by
    unfold packL
    by_cases e : i < l
    · rw [List.getElem?_append_left (by rw [packL_length]; omega)]; exact packL_get y l i e k hk
    · obtain rfl : i = l := by omega
      rw [List.getElem?_append_right (by rw [packL_length]; omega), packL_length, Nat.add_sub_cancel_left]

theorem byteN_str (L : List UInt8) (i : Nat) (b : UInt8) (h : L[i]? = some b) : byteN (str L) i = b.toNat := by
  obtain ⟨hi, hb⟩ := List.getElem?_eq_some_iff.1 h
  unfold byteN
  rw [dif_pos (by rw [str_size]; exact hi)]
  rw [← hb]; rfl

theorem or_lo (a b k : Nat) (h : b < 2 ^ k) : a * 2 ^ k ||| b = a * 2 ^ k + b := by
  rw [Nat.mul_comm, Nat.two_pow_add_eq_or_of_lt h]

theorem or_four (a b c d : Nat) (hb : b < 256) (hc : c < 256) (hd : d < 256) : ((a * 16777216 ||| b * 65536) ||| c * 256) ||| d = a * 16777216 + b * 65536 + c * 256 + d := by
  have h1 := or_lo a (b * 65536) 24 (by omega)
  have h2 := or_lo (a * 256 + b) (c * 256) 16 (by omega)
  have h3 := or_lo (a * 65536 + b * 256 + c) d 8 (by omega)
  simp only [Nat.reducePow] at h1 h2 h3
  rw [h1, show a * 16777216 + b * 65536 = (a * 256 + b) * 65536 by omega, h2, show (a * 256 + b) * 65536 + c * 256 = (a * 65536 + b * 256 + c) * 256 by omega, h3]

theorem quad_pack (y : Nat → Int) (l i : Nat) (h : i < l) (hy : 0 ≤ y i ∧ y i < pP) : (quadN (str (packL y l)) i : Int) = y i := by
  have g := packL_get y l i h
  have b0 := byteN_str _ _ _ (g 0 (by decide))
  have b1 := byteN_str _ _ _ (g 1 (by decide))
  have b2 := byteN_str _ _ _ (g 2 (by decide))
  have b3 := byteN_str _ _ _ (g 3 (by decide))
  unfold quadN
  rw [Nat.add_zero] at b0
  rw [b0, b1, b2, b3]
  obtain ⟨h0, h1⟩ := hy
  unfold pP at h1
  simp only [UInt8.toNat_ofNat']
  rw [or_four _ _ _ _ (by omega) (by omega) (by omega)]
  omega

theorem pack_quad_take (s : ByteArray) : ∀ k, 4 * k ≤ s.size → packL (fun i => (quadN s i : Int)) k = s.data.toList.take (4 * k)
  | 0, _ => rfl
  | k + 1, h => by
    have hl : s.data.toList.length = s.size := Array.length_toList
    rw [packL, pack_quad_take s k (by omega)]
    have hb : ∀ j, (hj : j < s.size) → byteN s j = (s.data.toList[j]'(by omega)).toNat := fun j hj => by
      unfold byteN; rw [dif_pos hj]; rfl
    have e1 := hb (4 * k) (by omega)
    have e2 := hb (4 * k + 1) (by omega)
    have e3 := hb (4 * k + 2) (by omega)
    have e4 := hb (4 * k + 3) (by omega)
    have hq : q4 (quadN s k) = [s.data.toList[4 * k]'(by omega), s.data.toList[4 * k + 1]'(by omega), s.data.toList[4 * k + 2]'(by omega), s.data.toList[4 * k + 3]'(by omega)] := by
      have hN : quadN s k = byteN s (4 * k) * 16777216 + byteN s (4 * k + 1) * 65536 + byteN s (4 * k + 2) * 256 + byteN s (4 * k + 3) := by
        unfold quadN
        exact or_four _ _ _ _ (byteN_lt _ _) (byteN_lt _ _) (byteN_lt _ _)
      have l1 := byteN_lt s (4 * k)
      have l2 := byteN_lt s (4 * k + 1)
      have l3 := byteN_lt s (4 * k + 2)
      have l4 := byteN_lt s (4 * k + 3)
      unfold q4
      rw [Int.toNat_natCast]
      have f : ∀ (u : UInt8) (m : Nat), m % 256 = u.toNat → UInt8.ofNat m = u := fun u m hm => by
        apply UInt8.toNat_inj.1; rw [UInt8.toNat_ofNat', hm]
      rw [f _ _ (show quadN s k / 16777216 % 256 = _ by rw [← e1]; omega), f _ _ (show quadN s k / 65536 % 256 = _ by rw [← e2]; omega), f _ _ (show quadN s k / 256 % 256 = _ by rw [← e3]; omega), f _ _ (show quadN s k % 256 = _ by rw [← e4]; omega)]
    show _ ++ q4 (quadN s k) = _
    rw [hq, show 4 * (k + 1) = 4 * k + 1 + 1 + 1 + 1 by omega, List.take_succ_eq_append_getElem (by omega), List.take_succ_eq_append_getElem (by omega), List.take_succ_eq_append_getElem (by omega), List.take_succ_eq_append_getElem (by omega)]
    simp

theorem pack_quad (s : ByteArray) (k : Nat) (h : s.size = 4 * k) : str (packL (fun i => (quadN s i : Int)) k) = s := by
  have hl : s.data.toList.length = s.size := Array.length_toList
  rw [pack_quad_take s k (by omega), ← h, ← hl, List.take_length]
  exact (str_of s).symm

theorem packQ (y : Nat → Int) (l : Nat) (hl : l ≤ 16) (hy : ∀ i, i < l → 0 ≤ y i ∧ y i < pP) : quadsE (str (packL y l)) = 0 ∧ (str (packL y l)).size = 4 * l := by
  have hs : (str (packL y l)).size = 4 * l := by rw [str_size, packL_length]
  refine ⟨?_, hs⟩
  have ht : ∀ k, k ≤ l → quadsTo (str (packL y l)) k = true := by
    intro k
    induction k with
    | zero => intro _; rfl
    | succ k ih =>
      intro hk
      rw [quadsTo, ih (by omega), Bool.true_and]
      have h1 := quad_pack y l k hk (hy k hk)
      have h2 := hy k hk
      unfold pP at h2
      have : quadN (str (packL y l)) k < 998244353 := by omega
      simpa using this
  unfold quadsE
  rw [hs, if_neg (by omega), if_neg (by omega), show 4 * l / 4 = l by omega, ht l (Nat.le_refl _)]
  rfl
-- PACK
theorem meas_plain' {k i : Nat} (h : i < k) : k + 1 - ((i : Int) + 1).toNat < k + 1 - (i : Int).toNat := by omega
theorem info5 : (Try.prog.info? 5).map (fun i => (i.zero, i.size, i.bytes)) = some (some (.int .u8 0), 1, 1) := by kernel_rfl
theorem make78 (W : World) (k : Nat) (hk : k ≤ 64) : ∃ F : Array Value, (Instr.makeSlice 78 (.int .i64 0) (.int .i64 k)).run Try.prog W = .ok (.slice (some ⟨W.heap.size, 0, none⟩) 0 k) (W.alloc (.cells F 5)) ∧ F.size = k := by
  obtain ⟨i, hi, hz0, hz1, hz2⟩ := info_parts info5
  have := run_make (P := Try.prog) W 78 5 i _ Try.underlying78 hi hz0 .i64 .i64 0 k (by omega) (by omega) (by rw [hz2]; omega) (by omega)
  rw [hz1] at this
  exact ⟨_, this, by rw [size_madeCells]; omega⟩

theorem one_bytes (l : List UInt8) : ∀ u ∈ l.map bv, u.oneCell' = true := by
  intro u hu
  obtain ⟨x, _, rfl⟩ := List.mem_map.1 hu
  rfl

/-- The bytes of a coefficient as the machine makes them. -/
structure By4 (v b0 b1 b2 b3 : Int) : Prop where
  c0 : IntKind.u8.wrap (v / 16777216) = b0
  c1 : IntKind.u8.wrap (v / 65536) = b1
  c2 : IntKind.u8.wrap (v / 256) = b2
  c3 : IntKind.u8.wrap v = b3
  h : [Value.int .u8 b0, .int .u8 b1, .int .u8 b2, .int .u8 b3] = (q4 v).map bv
theorem by4 (v : Int) (h : 0 ≤ v ∧ v < pP) : ∃ b0 b1 b2 b3, By4 v b0 b1 b2 b3 := by
  refine ⟨_, _, _, _, rfl, rfl, rfl, rfl, ?_⟩
  obtain ⟨h0, h1⟩ := h
  unfold pP at h1
  simp only [q4, List.map_cons, List.map_nil, bv, UInt8.toNat_ofNat', IntKind.wrap_u8]
  congr 1
  · congr 1; omega
  · congr 1
    · congr 1; omega
    · congr 1
      · congr 1; omega
      · congr 1
        congr 1; omega

set_option maxRecDepth 100000 in
set_option maxHeartbeats 4000000 in
theorem pack_any (w : World) (a off l cap : Nat) (y : Nat → Int) (hcell : ∀ i, i < l → w.cell? ⟨a, off + i, none⟩ = some (.int .i64 (y i))) (hl : l ≤ 16) (hy : ∀ i, i < l → 0 ≤ y i ∧ y i < pP) :
    Calls Try.prog 24 #[.slice (some ⟨a, off, none⟩) l cap] w fun e w' => e = .returned (.string (str (packL y l))) ∧ Quiet w w' := by
  obtain ⟨F, hmk0, hF⟩ := make78 w (4 * l) (by omega)
  have e4 : (4 : Int) * (l : Int) = ((4 * l : Nat) : Int) := by omega
  have w4 : wrap64 ((4 * l : Nat) : Int) = ((4 * l : Nat) : Int) := wrap_small _ (by omega)
  obtain ⟨t0, ht0, hz0, hz1, hz2⟩ := info_parts info5
  have R0 : Hid (Row (w.alloc (.cells F 5)) 5 1 (.slice (some ⟨w.heap.size, 0, none⟩) 0 (4 * l)) 0 []) := by
    have hb := Blk.new w 5 F.toList
    rw [Array.toArray_toList] at hb
    exact Row.of_blk (xs := []) (spare := F.toList) hb (by simp) (by omega) (by unfold maxLen; omega) (by simp [hF])
  have hcH := hide hcell
  have hyH := hide hy
  have hlH := hide hl
  have hzs := hide (⟨ht0, hz0, hz1, hz2⟩ : _ ∧ _ ∧ _ ∧ _)
  generalize 4 * l = L4 at *
  clear hcell hy ht0 hz0 hz1 hz2 hF hl
  go_enter Try.func24, Try.ntmps24
  go_wp2
  go_loopw [3, 4] (fun v z wr => ∃ i : Nat, i ≤ l ∧ z = .int .i64 i ∧ Quiet w wr ∧ ∃ g cp, v = .slice (some ⟨g, 0, none⟩) (4 * i) cp ∧ w.heap.size ≤ g ∧ Row wr 5 1 (.slice (some ⟨g, 0, none⟩) (4 * i) cp) (4 * i) ((packL y i).map bv)) (fun _ z _ => l + 1 - (intOf z).toNat)
  case atStart => exact ⟨0, by omega, rfl, (Chg.refl _ _).alloc _, _, _, rfl, Nat.le_refl _, unhide R0⟩
  case round =>
    clear R0 hmk0 e4 w4
    obtain ⟨i, hi, rfl, q, g, cp, rfl, hown, row⟩ := hrel
    by_cases hlt : i < l
    · have g1 : (i : Int) < (l : Int) := by omega
      have i0 : (0 : Int) ≤ (i : Int) := by omega
      have cc := q.cell (unhide hcH i hlt)
      have hyi := unhide hyH i hlt
      have lt5 : i + 1 < 1073741824 := by have := unhide hlH; omega
      have wi : wrap64 ((i : Int) + 1) = (i : Int) + 1 := wrap_small (i + 1) lt5
      obtain ⟨b0, b1, b2, b3, B4⟩ := by4 (y i) hyi
      have hB := hide B4.h
      have rowH := hide row
      have qH := hide q
      have ownH := hide hown
      have hltH := hide hlt
      have hstep : Hid (packL y (i + 1) = packL y i ++ q4 (y i)) := rfl
      obtain ⟨k0, k1, k2, k3, k4⟩ := B4
      clear k4 hyi lt5 row q hown hlt hi
      generalize y i = v at *
      go_wp2
      refine wp_region_noPanic ?_
      try simp only [List.append_eq, List.cons_append, List.nil_append]
      refine wp_region_mix [(0, false), (1, true), (2, true), (3, true), (4, true), (5, true), (6, true), (7, true), (8, true), (9, true), (10, true), (11, true), (12, true), (13, true), (14, true), (15, true), (16, true), (17, true), (18, true), (19, true), (20, true), (21, true), (22, true), (23, true)] [24, 25, 26] (by kernel_rfl) (by kernel_rfl) (fun _ _ _ _ _ h => h) ?_
      simp only [pickM, pickO, List.getElem?_cons_zero, List.getElem?_cons_succ]
      repeat (first | (refine wpMix_read rfl (fun K hK => ?_)) | (refine wpMix_pure rfl (fun K hK => ?_))
              go_big_quiet_op
              first | (refine hK _ ?_; clear hK K))
      refine wpMix_nil ?_
      intro _ hw'
      obtain ⟨nq, hw''⟩ := hw'
      subst hw''
      clear cc k0 k1 k2 k3
      have rq := (unhide rowH).quiet (((Chg.refl _ _).drewN nq).alloc (.cells #[.int .u8 b0, .int .u8 b1, .int .u8 b2, .int .u8 b3] 5))
      go_wp2_with (at_builtin; refine wpList_append_row rfl (.tmp 15) (.tmp 39) 78 rfl 5 t0 _ 1 1 Try.underlying78 (unhide hzs).1 (unhide hzs).2.1 (unhide hzs).2.2.1 (unhide hzs).2.2.2 rfl (by omega) (.slice (some ⟨g, 0, none⟩) (4 * i) cp) (4 * i) ((packL y i).map bv) rfl rq ⟨(wr.drewN nq).heap.size, 0, none⟩ 4 4 [.int .u8 b0, .int .u8 b1, .int .u8 b2, .int .u8 b3] rfl rfl (news_new _ _ _) (by rw [unhide hB]; exact one_bytes _) (by omega) (by have := unhide hlH; have := unhide hltH; unfold maxLen; omega) (by have := unhide hlH; have := unhide hltH; omega) _ rfl ?_)
      intro g2 cap2 W hr hc hg hgl
      have fin : Hid (Quiet w W ∧ w.heap.size ≤ g2 ∧ Row W 5 1 (.slice (some ⟨g2, 0, none⟩) (4 * (i + 1)) cap2) (4 * (i + 1)) ((packL y (i + 1)).map bv)) := by
        have h1 : Quiet w ((wr.drewN nq).alloc (.cells #[.int .u8 b0, .int .u8 b1, .int .u8 b2, .int .u8 b3] 5)) := ((unhide qH).drewN nq).alloc _
        refine ⟨Chg.trans' h1 hc (fun k hk h => by simp [Value.ownBlock] at h; have := unhide ownH; omega), ?_, ?_⟩
        · rcases hg with h | h
          · simp [Value.ownBlock] at h; have := unhide ownH; omega
          · have := (unhide qH).size; rw [h]; simp; omega
        · rw [unhide hstep, List.map_append, ← unhide hB]; exact hr
      clear hr hc hg hgl rq hB rowH
      go_wp2
      refine NoPanic.normal ?_
      go_wp2
      go_roundw
      case rel => exact ⟨i + 1, unhide hltH, by simp; try exact wi, (unhide fin).1, g2, cap2, rfl, (unhide fin).2.1, (unhide fin).2.2⟩
      case measure =>
        have h := unhide hltH
        first
          | exact meas_plain' h
          | exact meas_next h wi
    · have g1 : ¬ (i : Int) < (l : Int) := by omega
      obtain rfl : i = l := by omega
      obtain ⟨sp, hb, h1, h2, h3⟩ := row.some_form
      have hcv := run_str_of_cells (P := Try.prog) wr 78 5 Try.underlying78 (by kernel_rfl) g 0 (4 * i) cp (packL y i) (packL_length y i) (fun j hj => by
        rw [Nat.zero_add, hb.cell j, List.getElem?_append_left (by rw [List.length_map, packL_length]; exact hj), List.getElem?_map]) 9 (by kernel_rfl)
      have qH := hide q
      clear hb row h1 h2 h3 q hown hlt hi
      generalize hs : (⟨(packL y i).toArray⟩ : ByteArray) = SS at *
      have hsH : Hid (str (packL y i) = SS) := hs
      clear hs
      go_wp2
      go_ret
      exact ⟨by rw [unhide hsH]; rfl, unhide qH⟩
end Go.Proofs.Qxb6500368a
