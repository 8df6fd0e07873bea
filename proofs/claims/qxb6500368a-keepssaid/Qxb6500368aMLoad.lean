/-
  THE MODEL'S BENCH: Quads, Load. (gen8mload.py)
-/
import Derived.Test.Qxb6500368aMod
namespace Go.Proofs.Qxb6500368a
open Go.RowKit Go.Qx
set_option linter.unusedVariables false
set_option linter.unusedSimpArgs false

structure QuadG (s : ByteArray) (i : Nat) (y0 y1 y2 y3 A0 A1 A2 O1 O2 Q : Int) : Prop where
  i0 : ∀ W : World, (Instr.index 9 (.string s) (.int .i64 (4 * (i : Int)))).run Try.prog W = .ok (.int .u8 y0) W
  i1 : ∀ W : World, (Instr.index 9 (.string s) (.int .i64 (4 * (i : Int) + 1))).run Try.prog W = .ok (.int .u8 y1) W
  i2 : ∀ W : World, (Instr.index 9 (.string s) (.int .i64 (4 * (i : Int) + 2))).run Try.prog W = .ok (.int .u8 y2) W
  i3 : ∀ W : World, (Instr.index 9 (.string s) (.int .i64 (4 * (i : Int) + 3))).run Try.prog W = .ok (.int .u8 y3) W
  z0 : IntKind.i64.wrap y0 = y0
  z1 : IntKind.i64.wrap y1 = y1
  z2 : IntKind.i64.wrap y2 = y2
  z3 : IntKind.i64.wrap y3 = y3
  s0 : IntKind.i64.wrap (y0 * 16777216) = A0
  s1 : IntKind.i64.wrap (y1 * 65536) = A1
  s2 : IntKind.i64.wrap (y2 * 256) = A2
  r1 : bits .or .i64 A0 A1 = O1
  r2 : bits .or .i64 O1 A2 = O2
  r3 : bits .or .i64 O2 y3 = Q
  e4 : IntKind.i64.wrap (4 * (i : Int)) = 4 * (i : Int)
  e5 : IntKind.i64.wrap (4 * (i : Int) + 1) = 4 * (i : Int) + 1
  e6 : IntKind.i64.wrap (4 * (i : Int) + 2) = 4 * (i : Int) + 2
  e7 : IntKind.i64.wrap (4 * (i : Int) + 3) = 4 * (i : Int) + 3
  q : Q = quadN s i

theorem quadG (s : ByteArray) (i : Nat) (h : 4 * i + 3 < s.size) (hi : i < 16) : ∃ y0 y1 y2 y3 A0 A1 A2 O1 O2 Q : Int, QuadG s i y0 y1 y2 y3 A0 A1 A2 O1 O2 Q := by
  have hbL := idx_byte
  have i0 : ∀ W : World, (Instr.index 9 (.string s) (.int .i64 (4 * (i : Int)))).run Try.prog W = .ok (.int .u8 (byteN s (4 * i))) W := fun W => by
    have := hbL W s (4 * i) (by omega); rw [← this]; congr 3
  have i1 : ∀ W : World, (Instr.index 9 (.string s) (.int .i64 (4 * (i : Int) + 1))).run Try.prog W = .ok (.int .u8 (byteN s (4 * i + 1))) W := fun W => by
    have := hbL W s (4 * i + 1) (by omega); rw [← this]; congr 3
  have i2 : ∀ W : World, (Instr.index 9 (.string s) (.int .i64 (4 * (i : Int) + 2))).run Try.prog W = .ok (.int .u8 (byteN s (4 * i + 2))) W := fun W => by
    have := hbL W s (4 * i + 2) (by omega); rw [← this]; congr 3
  have i3 : ∀ W : World, (Instr.index 9 (.string s) (.int .i64 (4 * (i : Int) + 3))).run Try.prog W = .ok (.int .u8 (byteN s (4 * i + 3))) W := fun W => by
    have := hbL W s (4 * i + 3) (by omega); rw [← this]; congr 3
  clear hbL
  have b0 := byteN_lt s (4 * i)
  have b1 := byteN_lt s (4 * i + 1)
  have b2 := byteN_lt s (4 * i + 2)
  have b3 := byteN_lt s (4 * i + 3)
  have hQ : quadN s i = ((byteN s (4 * i) * 16777216 ||| byteN s (4 * i + 1) * 65536) ||| byteN s (4 * i + 2) * 256) ||| byteN s (4 * i + 3) := rfl
  generalize byteN s (4 * i) = y0 at *
  generalize byteN s (4 * i + 1) = y1 at *
  generalize byteN s (4 * i + 2) = y2 at *
  generalize byteN s (4 * i + 3) = y3 at *
  have o1 : y0 * 16777216 ||| y1 * 65536 < 4294967296 := or_lt32 (by omega) (by omega)
  have o2 : y0 * 16777216 ||| y1 * 65536 ||| y2 * 256 < 4294967296 := or_lt32 o1 (by omega)
  refine ⟨y0, y1, y2, y3, (y0 * 16777216 : Nat), (y1 * 65536 : Nat), (y2 * 256 : Nat), (y0 * 16777216 ||| y1 * 65536 : Nat), (y0 * 16777216 ||| y1 * 65536 ||| y2 * 256 : Nat), _, i0, i1, i2, i3, ?_, ?_, ?_, ?_, ?_, ?_, ?_, bits_or_i64_nat _ _ (by omega) (by omega), bits_or_i64_nat _ _ (by omega) (by omega), bits_or_i64_nat _ _ (by omega) (by omega), ?_, ?_, ?_, ?_, ?_⟩
  · rw [IntKind.wrap_i64]; omega
  · rw [IntKind.wrap_i64]; omega
  · rw [IntKind.wrap_i64]; omega
  · rw [IntKind.wrap_i64]; omega
  · rw [IntKind.wrap_i64]; omega
  · rw [IntKind.wrap_i64]; omega
  · rw [IntKind.wrap_i64]; omega
  · rw [IntKind.wrap_i64]; omega
  · rw [IntKind.wrap_i64]; omega
  · rw [IntKind.wrap_i64]; omega
  · rw [IntKind.wrap_i64]; omega
  · rw [hQ]

def quadsPost (w : World) (s : ByteArray) (e : Ending) (w' : World) : Prop :=
  ∃ V, e = .returned (.tuple #[V, .int .i64 (quadsE s)]) ∧ Quiet w w' ∧ (quadsE s = 0 → ∃ p, V = .slice (some ⟨p, 0, none⟩) (s.size / 4) (s.size / 4) ∧ w.heap.size ≤ p ∧ Blk w' p 3 (ints .i64 (cutQ s (s.size / 4)) (s.size / 4)) ∧ s.size / 4 ≤ 16)

set_option maxRecDepth 100000 in
set_option maxHeartbeats 4000000 in
theorem quadsM_any (w : World) (s : ByteArray) : Calls Try.prog 28 #[.string s] w (quadsPost w s) := by
  by_cases h64 : 64 < s.size
  · have e0 : Hid (quadsE s = 1) := by show _ = _; simp [quadsE, h64]
    have g1 : (64 : Int) < (s.size : Int) := by omega
    unfold quadsPost
    go_enter Try.func28, Try.ntmps28
    go_wp2
    go_ret2
    rw [unhide e0]
    exact ⟨_, rfl, Chg.refl _ _, fun h => by cases h⟩
  · have g1 : ¬ (64 : Int) < (s.size : Int) := by omega
    by_cases h4 : s.size % 4 = 0
    · obtain ⟨k, hk⟩ : ∃ k, s.size = 4 * k := ⟨s.size / 4, by omega⟩
      have hk16 : k ≤ 16 := by omega
      have t1 : (s.size : Int).tmod 4 = 0 := by rw [Int.tmod_eq_emod_of_nonneg (by omega)]; omega
      have t2 : (s.size : Int).tdiv 4 = (k : Int) := by rw [Int.tdiv_eq_ediv_of_nonneg (by omega)]; omega
      have hdiv : s.size / 4 = k := by omega
      have hE : Hid (quadsE s = if quadsTo s k = true then 0 else 3) := by show _ = _; unfold quadsE; rw [if_neg h64, if_neg (by omega), hdiv]
      have hm := make58k
      have hmk : ∀ W : World, (Instr.makeSlice 58 (.int .i64 k) (.int .i64 k)).run Try.prog W = .ok (.slice (some ⟨W.heap.size, 0, none⟩) k k) (W.alloc (.cells (ints .i64 (fun _ => 0) k).toArray 3)) := fun W => hm W k hk16
      clear hm
      generalize hF : (ints .i64 (fun _ => 0) k).toArray = F at hmk
      have B0 : Hid (Blk (w.alloc (.cells F 3)) w.heap.size 3 (ints .i64 (fun _ => 0) k)) := by
        rw [← hF]; exact Blk.new w 3 _
      clear hF
      have hkH := hide hk
      have hdH := hide hdiv
      clear hk h4 hdiv h64
      unfold quadsPost
      go_enter Try.func28, Try.ntmps28
      go_wp2
      go_loopw [5] (fun z wr => ∃ i : Nat, i ≤ k ∧ z = .int .i64 i ∧ quadsTo s i = true ∧ Quiet w wr ∧ Blk wr w.heap.size 3 (ints .i64 (cutQ s i) k)) (fun z _ => k + 1 - (intOf z).toNat)
      case atStart => exact ⟨0, by omega, rfl, rfl, (Chg.refl _ _).alloc _, unhide B0⟩
      case round =>
        clear B0 hmk
        obtain ⟨i, hi, rfl, hq, q, B⟩ := hrel
        by_cases hlt : i < k
        · have g1 : (i : Int) < (k : Int) := by omega
          obtain ⟨y0, y1, y2, y3, A0, A1, A2, O1, O2, Q4, QF⟩ := quadG s i (by have := unhide hkH; omega) (by omega)
          have hqH := hide hq
          have hiH := hide hi
          have hltH := hide hlt
          have hk16H := hide hk16
          have hQ4H := hide QF.q
          have nx : Hid (quadsTo s (i + 1) = decide (quadN s i < 998244353)) := by show _ = _; rw [quadsTo, hq, Bool.true_and]
          have B1 : Hid (∀ nq, Blk ((wr.drewN nq).setCell ⟨w.heap.size, i, none⟩ (.int .i64 Q4)) w.heap.size 3 (ints .i64 (cutQ s (i + 1)) k)) := fun nq => by
            have h1 := (B.drewN nq).set i (.int .i64 (quadN s i))
            rw [ints_set _ _ _ _ _ (unhide hltH), cutQ_next, ← unhide hQ4H] at h1
            exact h1
          have cc := B.cell i
          rw [ints_get _ _ _ _ (unhide hltH)] at cc
          have ff := B.frozen i
          have qH := hide q
          generalize cutQ s i i = old at *
          have i00 : (0 : Int) ≤ (i : Int) := by omega
          have wi : wrap64 ((i : Int) + 1) = (i : Int) + 1 := by have := unhide hk16H; unfold wrap64; omega
          clear hq hi hlt hk16 t1 t2 B q
          obtain ⟨i0, i1, i2, i3, z0, z1, z2, z3, s0, s1, s2, r1, r2, r3, e4, e5, e6, e7, q0⟩ := QF
          clear q0
          go_wp2
          refine wp_region_noPanic ?_
          try simp only [List.append_eq, List.cons_append, List.nil_append]
          refine wp_region_mix [(0, true), (1, true), (2, true), (3, true), (4, true), (5, true), (6, true), (7, true), (8, true), (9, true), (10, true), (11, true), (12, true), (13, true), (14, true), (15, true), (16, true), (17, true), (18, true), (19, true), (20, true), (21, true), (22, true), (23, true), (24, true), (25, true), (26, true), (27, true), (28, true), (29, true), (30, true), (31, true)] [32] (by kernel_rfl) (by kernel_rfl) (fun _ _ _ _ _ h => h) ?_
          simp only [pickM, pickO, List.getElem?_cons_zero, List.getElem?_cons_succ]
          repeat (first | (refine wpMix_read rfl (fun K hK => ?_)) | (refine wpMix_pure rfl (fun K hK => ?_))
                  go_big_quiet_op
                  first | (refine hK _ ?_; clear hK K))
          refine wpMix_nil ?_
          intro _ hw'
          obtain ⟨nq, hw''⟩ := hw'
          subst hw''
          clear z0 z1 z2 z3 i0 i1 i2 i3 e4 e5 e6 e7 s0 s1 s2 r1 r2 r3
          by_cases hr : quadN s i < 998244353
          · have g2 : ¬ (998244353 : Int) ≤ Q4 := by have := unhide hQ4H; omega
            have nx2 : Hid (quadsTo s (i + 1) = true) := by show _ = _; rw [unhide nx]; simpa using hr
            clear hr nx
            go_wp2
            refine NoPanic.normal ?_
            go_wp2
            go_roundw
            case rel => exact ⟨i + 1, unhide hltH, by simp; try exact wi, unhide nx2, (((unhide qH).drewN _).setCell (p := ⟨w.heap.size, i, none⟩) (.inr (by simp)) _), unhide B1 _⟩
            case measure =>
              have h := unhide hltH
              show k + 1 - (intOf (.int .i64 (wrap64 ((i : Int) + 1)))).toNat < k + 1 - (intOf (.int .i64 (i : Int))).toNat
              exact meas_next h wi
          · have g2 : (998244353 : Int) ≤ Q4 := by have := unhide hQ4H; omega
            have nx2 : quadsTo s (i + 1) = false := by rw [unhide nx]; simpa using hr
            have nx3 : quadsTo s k = false := by
              have := quads_stick s nx2 (k - (i + 1))
              rwa [show i + 1 + (k - (i + 1)) = k by have := unhide hltH; omega] at this
            have e0 : Hid (quadsE s = 3) := by show _ = _; rw [unhide hE, nx3]; rfl
            clear nx nx2 nx3 hr B1
            go_wp2
            refine NoPanic.normal ?_
            go_wp2
            go_ret2
            rw [unhide e0]
            exact ⟨_, rfl, (((unhide qH).drewN _).setCell (p := ⟨w.heap.size, i, none⟩) (.inr (by simp)) _), fun h => by cases h⟩
        · have g1 : ¬ (i : Int) < (k : Int) := by omega
          obtain rfl : i = k := by omega
          have e0 : Hid (quadsE s = 0) := by show _ = _; rw [unhide hE, hq]; rfl
          have qH := hide q
          have BH := hide B
          have h16 := hide hk16
          clear hlt hi q B hq hE
          go_wp2
          go_ret2
          rw [unhide e0]
          exact ⟨_, rfl, unhide qH, fun _ => by rw [unhide hdH]; exact ⟨_, rfl, Nat.le_refl _, unhide BH, unhide h16⟩⟩
    · have e0 : Hid (quadsE s = 2) := by show _ = _; simp [quadsE, h64, h4]
      have t1 : (s.size : Int).tmod 4 = ((s.size % 4 : Nat) : Int) := by rw [Int.tmod_eq_emod_of_nonneg (by omega)]; omega
      have nz : ¬ ((s.size % 4 : Nat) : Int) = 0 := by omega
      generalize s.size % 4 = q at *
      clear h4
      unfold quadsPost
      go_enter Try.func28, Try.ntmps28
      go_wp2
      go_ret2
      rw [unhide e0]
      exact ⟨_, rfl, Chg.refl _ _, fun h => by cases h⟩

theorem copyM (W : World) (d o dl dc V so sl sc : Nat) (c y : Nat → Int) (D M : Nat) (hk : sl ≤ dl) (ho : o + sl ≤ D) (hM : so + sl ≤ M) (hv : Blk W d 3 (ints .i64 c D)) (hV : Blk W V 3 (ints .i64 y M)) : (Builtin.copy_ #[58, 58] 3 #[.slice (some ⟨d, o, none⟩) dl dc, .slice (some ⟨V, so, none⟩) sl sc]).run Try.prog W = .ok (.int .i64 sl) (W.setCells d o (ints .i64 (fun p => y (so + p)) sl)) := by
  have h := run_copy_cells (P := Try.prog) W 58 58 3 3 d o dl dc ⟨V, so, none⟩ sl sc (ints .i64 (fun p => y (so + p)) sl) Try.underlying58 (by kernel_rfl) (by rw [ints_length]; exact (Nat.min_eq_left hk).symm) ?_ ?_ ?_ (ints_oneCell' _ _ _)
  · rw [h, ints_length]
    rfl
  · intro j u hu
    have hj : j < sl := by
      have := (List.getElem?_eq_some_iff.1 hu).1
      rw [ints_length] at this; exact this
    have e : (⟨V, so, none⟩ : Addr).add j = ⟨V, so + j, none⟩ := by simp [Addr.add]
    rw [ints_get .i64 _ sl j hj] at hu
    rw [e, hV.cell (so + j), ints_get .i64 y M (so + j) (by omega)]; exact hu
  · intro j hj
    rw [ints_length] at hj
    rw [hv.cell, ints_get .i64 c D (o + j) (by omega)]; rfl
  · intro j hj
    exact hv.frozen _

theorem over_intsi (c y : Nat → Int) : ∀ (k off N : Nat), off + k ≤ N → over (ints .i64 c N) off (ints .i64 y k) = ints .i64 (win c off k y) N := by
  intro k off N h
  have hl := ints_length .i64 c N
  have e : ints .i64 c N = (ints .i64 c N).take off ++ ((ints .i64 c N).drop off).take k ++ (ints .i64 c N).drop (off + k) := by
    rw [List.append_assoc, ← List.drop_drop, List.take_append_drop, List.take_append_drop]
  have h1 := over_mid (ints .i64 y k) ((ints .i64 c N).take off) (((ints .i64 c N).drop off).take k) ((ints .i64 c N).drop (off + k)) (by rw [List.length_take, List.length_drop, hl, ints_length]; omega)
  rw [← e, List.length_take, hl, Nat.min_eq_left (by omega)] at h1
  rw [h1]
  refine List.ext_getElem? (fun i => ?_)
  by_cases hi : i < N
  · rw [ints_get .i64 _ N i hi]
    unfold win
    by_cases h2 : i < off
    · rw [if_neg (by omega), List.append_assoc, List.getElem?_append_left (by rw [List.length_take, hl]; omega), List.getElem?_take_of_lt h2, ints_get .i64 _ N i hi]
    · by_cases h3 : i < off + k
      · rw [if_pos (by omega), List.append_assoc, List.getElem?_append_right (by rw [List.length_take, hl]; omega), List.length_take, hl, Nat.min_eq_left (by omega), List.getElem?_append_left (by rw [ints_length]; omega), ints_get .i64 y k (i - off) (by omega)]
      · rw [if_neg (by omega), List.getElem?_append_right (by rw [List.length_append, List.length_take, hl, ints_length]; omega), List.length_append, List.length_take, hl, ints_length, Nat.min_eq_left (by omega), List.getElem?_drop, show off + k + (i - (off + k)) = i by omega, ints_get .i64 _ N i hi]
  · rw [List.getElem?_eq_none (by rw [List.length_append, List.length_append, List.length_take, hl, ints_length, List.length_drop, hl]; omega), List.getElem?_eq_none (by rw [ints_length]; omega)]

def repPostM (w : World) (m a b : Nat) (E : Int) (c : Nat → Int) (n : Nat → Nat) (wk : Nat) (e : Ending) (w' : World) : Prop := e = .returned (.int .i64 E) ∧ Chg (ownM m a b) w w' ∧ RepM w' m a b c n wk

section
variable {w : World} {m a b : Nat} {c : Nat → Int} {n : Nat → Nat} {wk : Nat}
theorem RepM.copy (h : RepM w m a b c n wk) (o k : Nat) (y : Nat → Int) (hk : o + k ≤ 48) : RepM (w.setCells a o (ints .i64 y k)) m a b (win c o k y) n wk :=
  ⟨h.own.setCells_other h.ma _ _, by rw [← over_intsi _ _ _ _ _ hk]; exact h.row.setCells _ _, h.lens.setCells_other (Ne.symm h.ab) _ _, h.ma, h.mb, h.ab⟩
theorem RepM.setN (h : RepM w m a b c n wk) (r L : Nat) (hr : r < 3) : RepM (w.setCell ⟨b, r, none⟩ (.int .i64 (L : Int))) m a b c (updN n r L) wk := by
  refine ⟨h.own.set_other (a := ⟨b, r, none⟩) h.mb _, h.row.set_other (a := ⟨b, r, none⟩) h.ab _, ?_, h.ma, h.mb, h.ab⟩
  have h1 := h.lens.set r (.int .i64 (L : Int))
  rw [ints_set _ _ _ _ _ hr] at h1
  rw [ints_congr .i64 (g := updF (fun r => (n r : Int)) r (L : Int)) (fun j _ => ?_)]
  · exact h1
  · unfold updN updF; split <;> rfl
theorem RepM.setW (h : RepM w m a b c n wk) (W : Nat) : RepM (w.setCell ⟨m, 2, none⟩ (.int .i64 (W : Int))) m a b c n W :=
  ⟨h.own.set 2 (.int .i64 (W : Int)), h.row.set_other (a := ⟨m, 2, none⟩) (Ne.symm h.ma) _, h.lens.set_other (a := ⟨m, 2, none⟩) (Ne.symm h.mb) _, h.ma, h.mb, h.ab⟩
end

set_option maxRecDepth 100000 in
set_option maxHeartbeats 4000000 in
theorem mload_any (w : World) (m a b : Nat) (c : Nat → Int) (n : Nat → Nat) (wk : Nat) (R : RepM w m a b c n wk) (I : Inv c n wk) (r : Int) (s : ByteArray) :
    Calls Try.prog 42 #[ptr m, .int .i64 r, .string s] w (repPostM w m a b (loadE s r) (loadC c s r) (loadN n s r) wk) := by
  have hq := hide (quadsM_any w s)
  have RH := hide R
  unfold quadsPost at hq
  by_cases hE : quadsE s = 0
  · rcases reg_cases r with ⟨kr, rfl, hkr, hreg⟩ | hreg
    · have e1 : loadE s kr = 0 := by simp [loadE, hE, hreg]
      have e2 : Hid (loadC c s kr = win c (16 * kr) (s.size / 4) (cutQ s (s.size / 4))) := by
        show _ = _
        unfold loadC
        rw [if_pos e1, Int.toNat_natCast]
        funext j
        unfold win cutQ
        split
        · rw [if_pos (by omega)]
        · rfl
      have e3 : Hid (loadN n s kr = updN n kr (s.size / 4)) := by show _ = _; unfold loadN; rw [if_pos e1, Int.toNat_natCast]
      have e1H := hide e1
      rw [unhide e1H, unhide e2, unhide e3]
      have hcr := fun W => reg_any W (kr : Int)
      rw [hreg] at hcr
      have hcrH := hide hcr
      have hEH := hide hE
      clear e1 e2 e3 e1H R I hreg hcr hE
      unfold ptr repPostM
      go_enter Try.func42, Try.ntmps42
      go_wp2_with fail
      refine (unhide hq).mono ?_
      clear hq
      rintro e w1 ⟨V, rfl, q1, hV⟩
      obtain ⟨p, rfl, hp, B, h16⟩ := hV (unhide hEH)
      rw [unhide hEH]
      have Rr := (unhide RH).quiet q1
      generalize hL : s.size / 4 = L at *
      have hLH := hide hL
      clear hL
      have c0 := Rr.c0
      have hcp := copyM w1 a (16 * kr) (48 - 16 * kr) (48 - 16 * kr) p 0 L L c (cutQ s L) 48 L (by omega) (by omega) (by omega) Rr.row B
      simp only [Nat.zero_add] at hcp
      have R2 := Rr.copy (16 * kr) L (cutQ s L) (by omega)
      have C2 : Hid (Chg (ownM m a b) w (w1.setCells a (16 * kr) (ints .i64 (cutQ s L) L))) := Chg.setCells (.inl (.inr (.inl rfl))) _ _ (Quiet.chg q1 _)
      have fin : Hid (Chg (ownM m a b) w ((w1.setCells a (16 * kr) (ints .i64 (cutQ s L) L)).setCell ⟨b, kr, none⟩ (.int .i64 (L : Int))) ∧ RepM ((w1.setCells a (16 * kr) (ints .i64 (cutQ s L) L)).setCell ⟨b, kr, none⟩ (.int .i64 (L : Int))) m a b (win c (16 * kr) L (cutQ s L)) (updN n kr L) wk) := ⟨Chg.setCell (unhide C2) (p := ⟨b, kr, none⟩) (.inl (.inr (.inr rfl))) _, R2.setN kr L hkr⟩
      have cn1 := R2.c1
      have cn2 := R2.len kr hkr
      have fx := R2.lens.frozen kr
      have l0 : (0 : Int) ≤ (L : Int) := by omega
      clear hV Rr q1 B hp C2 R2 h16
      generalize w1.setCells a (16 * kr) (ints .i64 (cutQ s L) L) = W2 at *
      generalize hYY : cutQ s L = YY at *
      have hYH := hide hYY
      clear hYY
      generalize n kr = old at *
      have hc1 := hide (unhide hcrH w1)
      clear hcrH
      rcases (by omega : kr = 0 ∨ kr = 1 ∨ kr = 2) with rfl | rfl | rfl
      · clear hkr
        simp only [Nat.mul_zero, Nat.sub_zero] at hcp
        go_wp2_with fail
        refine (unhide hc1).mono ?_
        rintro e w' ⟨rfl, hw'⟩
        subst hw'
        go_wp2
        go_ret
        exact ⟨rfl, (unhide fin).1, by rw [unhide hLH, unhide hYH]; exact (unhide fin).2⟩
      · clear hkr
        simp only [Nat.reduceMul, Nat.reduceSub] at hcp
        go_wp2_with fail
        refine (unhide hc1).mono ?_
        rintro e w' ⟨rfl, hw'⟩
        subst hw'
        go_wp2
        go_ret
        exact ⟨rfl, (unhide fin).1, by rw [unhide hLH, unhide hYH]; exact (unhide fin).2⟩
      · clear hkr
        simp only [Nat.reduceMul, Nat.reduceSub] at hcp
        go_wp2_with fail
        refine (unhide hc1).mono ?_
        rintro e w' ⟨rfl, hw'⟩
        subst hw'
        go_wp2
        go_ret
        exact ⟨rfl, (unhide fin).1, by rw [unhide hLH, unhide hYH]; exact (unhide fin).2⟩
    · have e1 : Hid (loadE s r = 4) := by show _ = _; simp [loadE, hE, hreg]
      have e2 : Hid (loadC c s r = c) := by show _ = _; simp [loadC, unhide e1]
      have e3 : Hid (loadN n s r = n) := by show _ = _; simp [loadN, unhide e1]
      rw [unhide e1, unhide e2, unhide e3]
      have hcr := fun W => reg_any W r
      rw [hreg] at hcr
      have hcrH := hide hcr
      have hEH := hide hE
      clear e1 e2 e3 R I hreg hcr hE
      unfold ptr repPostM
      go_enter Try.func42, Try.ntmps42
      go_wp2_with fail
      refine (unhide hq).mono ?_
      clear hq
      rintro e w1 ⟨V, rfl, q1, hV⟩
      rw [unhide hEH]
      have q1H := hide q1
      have hc1 := hide (unhide hcrH w1)
      clear hV q1 hcrH hEH
      go_wp2_with fail
      refine (unhide hc1).mono ?_
      rintro e w' ⟨rfl, hw'⟩
      subst hw'
      go_wp2
      go_ret
      exact ⟨rfl, Quiet.chg (unhide q1H) _, (unhide RH).quiet (unhide q1H)⟩
  · have e1 : Hid (loadE s r = quadsE s) := by show _ = _; simp [loadE, hE]
    have e2 : Hid (loadC c s r = c) := by show _ = _; simp [loadC, loadE, hE]
    have e3 : Hid (loadN n s r = n) := by show _ = _; simp [loadN, loadE, hE]
    rw [unhide e1, unhide e2, unhide e3]
    clear e1 e2 e3 R I
    unfold ptr repPostM
    generalize quadsE s = E at *
    go_enter Try.func42, Try.ntmps42
    go_wp2_with fail
    refine (unhide hq).mono ?_
    clear hq
    rintro e w1 ⟨V, rfl, q1, hV⟩
    have q1H := hide q1
    clear hV q1
    go_wp2
    go_ret
    exact ⟨rfl, Quiet.chg (unhide q1H) _, (unhide RH).quiet (unhide q1H)⟩
end Go.Proofs.Qxb6500368a
