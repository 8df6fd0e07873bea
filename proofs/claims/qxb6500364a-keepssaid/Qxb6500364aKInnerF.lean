/-
  THE INNER ROUND OF keep, with W1, W2, W3. (gen64keepF.py)
-/
import Derived.Test.Qxb6500364aKInner
import Derived.Test.Qxb6500364aKTrueW
namespace Go.Proofs.Qxb6500364a
open Go.RowKit Go.Qx
set_option linter.unusedVariables false
set_option linter.unusedSimpArgs false

theorem bestTo_cg {c h h' : Nat → Int} : ∀ k, k ≤ 5 → (∀ b, b < 5 → h b = h' b) → bestTo c h k = bestTo c h' k
  | 0, _, _ => rfl
  | k + 1, hk, hh => by
    unfold bestTo
    rw [bestTo_cg k (by omega) hh, hh k (by omega)]
theorem bestP_cg {a : Nat} {c : Nat → Int} {h h' : Nat → Nat → Int} {d : Nat} (hh : ∀ b, b < 5 → h b d = h' b d) : bestP a c h d = bestP a c h' d := by
  unfold bestP
  by_cases e : d = a
  · rw [if_pos e, if_pos e]
  · rw [if_neg e, if_neg e, bestTo_cg 5 (Nat.le_refl _) hh]
theorem show_congr {C : Nat → Nat → Int} {H H' : Nat → Nat → Nat → Int} (hh : ∀ a b d, a < 5 → b < 5 → d < 5 → H a b d = H' a b d) : showP C H = showP C H' := by
  rw [← pairsTo_all, ← pairsTo_all]
  have : ∀ n, n ≤ 25 → pairsTo C H n = pairsTo C H' n := by
    intro n
    induction n with
    | zero => intro _; rfl
    | succ n ih =>
      intro hn
      rw [pairsTo, pairsTo, ih (by omega)]
      have ha : n / 5 < 5 := by omega
      have hb : n % 5 < 5 := by omega
      have e1 := bestP_cg (a := n / 5) (c := C (n / 5)) (d := n % 5) (h := H (n / 5)) (h' := H' (n / 5)) (fun b hb' => hh _ b _ ha hb' hb)
      have e2 : ∀ d, d < 5 → H (n / 5) (n % 5) d = H' (n / 5) (n % 5) d := fun d hd => hh _ _ d ha hb hd
      unfold pairP
      rw [e1, e2 0 (by omega), e2 1 (by omega), e2 2 (by omega), e2 3 (by omega), e2 4 (by omega)]
  exact this 25 (Nat.le_refl _)
/-- W3. -/
theorem deliver_still {C : Nat → Nat → Int} {H : Nat → Nat → Nat → Int} {M F : Nat → Nat → Bool} {rd : Nat} (hB : Booked false C H M F rd) (o : Opr) (hk : o.k = 3) (he : (ansP C H o).e = 0) (hr : rd = 16) : showP (nextP C H o).1 (nextP C H o).2 = showP C H := by
  obtain ⟨I, _, Nr, _⟩ := hB
  have Nr := Nr rfl
  subst hr
  obtain ⟨k, a, b, c, s, t⟩ := o
  dsimp only at hk
  subst hk
  have he : liveP C a b = 0 := he
  rcases live_cases C a b with ⟨i, j, rfl, rfl, hi, hj, hij, e0, hz, el⟩ | hne
  · have hx : nextP C H ⟨3, i, j, c, s, t⟩ = (C, upd H j (upd (H j) i (vecP C H i))) := by
      show (C, delH C H i j) = _
      unfold delH; rw [if_pos he]; rfl
    rw [hx]
    refine show_congr ?_
    intro x y d hx hy hd
    show upd H j (upd (H j) i (vecP C H i)) x y d = H x y d
    unfold upd
    by_cases e1 : x = j
    · rw [if_pos e1]
      by_cases e2 : y = i
      · rw [if_pos e2, e1, e2, near_vec (fw_bell I) I Nr hi hd]
        refine (near_ear (fw_bell I) I Nr hj hi hd ?_).symm
        have h1 := I.c j i hj hi
        have h2 := I.sym i j hi hj
        omega
      · rw [if_neg e2, e1]
    · rw [if_neg e1]
  · exact absurd he hne
theorem kb_settled {W w : World} {x g : Nat} {C' C : Nat → Nat → Int} {H' H : Nat → Nat → Nat → Int} {M F : Nat → Nat → Bool} (h : KB W w x g C' H' C H M F 16) (hB : Booked false C H M F 16) : Calls Try.prog 18 #[.pointer (some ⟨g, 0, none⟩), .string (str (showP C H))] w fun e w' => e = .returned (.bool true) ∧ Quiet w w' := by
  obtain ⟨h1, r, n, p, q, m, f, R, G, h2, h3⟩ := h
  exact settled_any w g p q m f C H M F 16 G hB.1 (hB.2.2.1 rfl)

set_option maxHeartbeats 40000000 in
set_option maxRecDepth 100000 in
theorem inner_false (w wr : World) (x g sb so len cap i j : Nat) (C : Nat → Nat → Int) (H : Nat → Nat → Nat → Int) (M F : Nat → Nat → Bool) (rd : Nat) (ok oa ob oc : Int) (os ot : ByteArray)
    (hbH : Hid (KB w wr x g C H C H M F rd)) (hBH : Hid (Booked false C H M F rd)) (hj : j ≤ 25) (hiH : Hid (i < len))
    (k0 : wr.cell? ⟨sb, so + i * 6, none⟩ = some (.int .i64 ok)) (k1 : wr.cell? ⟨sb, so + i * 6 + 1, none⟩ = some (.int .i64 oa)) (k2 : wr.cell? ⟨sb, so + i * 6 + 2, none⟩ = some (.int .i64 ob)) (k3 : wr.cell? ⟨sb, so + i * 6 + 3, none⟩ = some (.int .i64 oc)) (k4 : wr.cell? ⟨sb, so + i * 6 + 4, none⟩ = some (.string os)) (k5 : wr.cell? ⟨sb, so + i * 6 + 5, none⟩ = some (.string ot))
    (u2 u3 u4 u10 u11 u12 u13 u14 u15 u16 u17 u18 u19 u20 u21 u22 u23 u24 u25 u26 u27 u28 u29 u30 u31 u32 u33 u34 u35 u36 u37 u38 u39 u40 u41 u42 u43 u44 u45 u46 u47 u48 u49 u50 u51 u52 u53 u54 u55 u56 u57 u58 u59 u60 u61 u62 u63 u64 u65 u66 u67 u68 u69 u70 u71 u72 u73 u74 u75 u76 u77 u78 u79 u80 u81 u82 u83 u84 u85 u86 u87 u88 u89 u90 u91 u92 u93 u94 u95 u96 u97 u98 u99 u100 u101 u102 u103 u104 u105 u106 u107 u108 u109 u110 u111 u112 u113 u114 u115 u116 u117 u118 u119 u120 u121 u122 u123 u124 u125 u126 u127 u128 u129 u130 u131 u132 u133 u134 u135 u136 u137 u138 u139 u140 u141 u142 : Value) (Q : Exit → Act → World → Prop)
    (hQ : ∀ (wx : World) (C2 : Nat → Nat → Int) (H2 : Nat → Nat → Nat → Int) (M2 F2 : Nat → Nat → Bool) (r2 : Nat) (y10 y11 y12 y13 y14 y15 y16 y51 y52 y53 y54 y55 y56 y57 y58 y59 y60 y61 y62 y63 y64 y65 y66 y67 y68 y69 y70 y71 y72 y73 y74 y75 y76 y77 y78 y79 y80 y81 y82 y83 y84 y85 y86 y87 y88 y89 y90 y91 y92 y93 y94 y95 y96 y97 y98 y99 y100 y101 y102 y103 y104 y105 y106 y107 y108 y109 y110 y111 y112 y113 y114 y115 y116 y117 y118 y119 y120 y121 y122 y123 y124 y125 y126 y127 y128 y129 y130 y131 y132 y133 y134 y135 y136 y137 y138 y139 y140 y141 y142 : Value), KB w wx x g C2 H2 C2 H2 M2 F2 r2 → Booked false C2 H2 M2 F2 r2 → Q .normal ⟨(Value.slice (some ⟨sb, so, none⟩) len cap :: Value.bool false :: u2 :: u3 :: u4 :: Value.pointer (some ⟨x, 0, none⟩) :: Value.pointer (some ⟨g, 0, none⟩) :: Value.string (str (showP C2 H2)) :: Value.int .i64 i :: Value.int .i64 j :: y10 :: y11 :: y12 :: y13 :: y14 :: y15 :: y16 :: u17 :: u18 :: u19 :: u20 :: u21 :: u22 :: u23 :: u24 :: u25 :: u26 :: u27 :: u28 :: u29 :: u30 :: u31 :: u32 :: u33 :: u34 :: u35 :: u36 :: u37 :: u38 :: u39 :: u40 :: u41 :: u42 :: u43 :: u44 :: u45 :: u46 :: u47 :: u48 :: u49 :: u50 :: y51 :: y52 :: y53 :: y54 :: y55 :: y56 :: y57 :: y58 :: y59 :: y60 :: y61 :: y62 :: y63 :: y64 :: y65 :: y66 :: y67 :: y68 :: y69 :: y70 :: y71 :: y72 :: y73 :: y74 :: y75 :: y76 :: y77 :: y78 :: y79 :: y80 :: y81 :: y82 :: y83 :: y84 :: y85 :: y86 :: y87 :: y88 :: y89 :: y90 :: y91 :: y92 :: y93 :: y94 :: y95 :: y96 :: y97 :: y98 :: y99 :: y100 :: y101 :: y102 :: y103 :: y104 :: y105 :: y106 :: y107 :: y108 :: y109 :: y110 :: y111 :: y112 :: y113 :: y114 :: y115 :: y116 :: y117 :: y118 :: y119 :: y120 :: y121 :: y122 :: y123 :: y124 :: y125 :: y126 :: y127 :: y128 :: y129 :: y130 :: y131 :: y132 :: y133 :: y134 :: y135 :: y136 :: y137 :: y138 :: y139 :: y140 :: y141 :: y142 :: ([] : List Value)).toArray, []⟩ wx) :
    Code.wp Try.prog round7 Q ⟨(Value.slice (some ⟨sb, so, none⟩) len cap :: Value.bool false :: u2 :: u3 :: u4 :: Value.pointer (some ⟨x, 0, none⟩) :: Value.pointer (some ⟨g, 0, none⟩) :: Value.string (str (showP C H)) :: Value.int .i64 i :: Value.int .i64 j :: u10 :: u11 :: u12 :: u13 :: u14 :: u15 :: u16 :: u17 :: u18 :: u19 :: u20 :: u21 :: u22 :: u23 :: u24 :: u25 :: u26 :: u27 :: u28 :: u29 :: u30 :: u31 :: u32 :: u33 :: u34 :: u35 :: u36 :: u37 :: u38 :: u39 :: u40 :: u41 :: u42 :: u43 :: u44 :: u45 :: u46 :: u47 :: u48 :: u49 :: u50 :: u51 :: u52 :: u53 :: u54 :: u55 :: u56 :: u57 :: u58 :: u59 :: u60 :: u61 :: u62 :: u63 :: u64 :: u65 :: u66 :: u67 :: u68 :: u69 :: u70 :: u71 :: u72 :: u73 :: u74 :: u75 :: u76 :: u77 :: u78 :: u79 :: u80 :: u81 :: u82 :: u83 :: u84 :: u85 :: u86 :: u87 :: u88 :: u89 :: u90 :: u91 :: u92 :: u93 :: u94 :: u95 :: u96 :: u97 :: u98 :: u99 :: u100 :: u101 :: u102 :: u103 :: u104 :: u105 :: u106 :: u107 :: u108 :: u109 :: u110 :: u111 :: u112 :: u113 :: u114 :: u115 :: u116 :: u117 :: u118 :: u119 :: u120 :: u121 :: u122 :: u123 :: u124 :: u125 :: u126 :: u127 :: u128 :: u129 :: u130 :: u131 :: u132 :: u133 :: u134 :: u135 :: u136 :: u137 :: u138 :: u139 :: u140 :: u141 :: u142 :: ([] : List Value)).toArray, []⟩ wr := by
  conv => arg 2; whnf
  have hQH := hide hQ
  clear hQ
  have i1 : (0 : Int) ≤ (i : Int) := by omega
  have i2 : (i : Int) < (len : Int) := by have := unhide hiH; omega
  have g1 : decide (i < len) = true := by simpa using unhide hiH
  have hpart := hide (part_any wr ⟨ok, oa, ob, oc, os, ot⟩ j hj)
  dsimp only at hpart
  go_wp2_with fail
  refine (unhide hpart).mono ?_
  clear hpart k0 k1 k2 k3 k4 k5 i1 i2 g1 hiH hj
  rintro e w4 ⟨rfl, q4⟩
  generalize partP ⟨ok, oa, ob, oc, os, ot⟩ j = p at *
  obtain ⟨xk, xa, xb, xc, xs, xt⟩ := p
  dsimp only
  have al5 : Quiet w4 (w4.alloc (.cells #[.int .i64 xk, .int .i64 xa, .int .i64 xb, .int .i64 xc, .string xs, .string xt] 32)) := (Chg.refl _ _).alloc _
  have hb4 := hide ((unhide hbH).quiet q4)
  have hb5 := hide ((unhide hb4).quiet al5)
  have bo5 := Blk.new w4 32 [.int .i64 xk, .int .i64 xa, .int .i64 xb, .int .i64 xc, .string xs, .string xt]
  obtain ⟨bo, hbo⟩ : ∃ b, w4.heap.size = b := ⟨_, rfl⟩
  rw [hbo] at bo5
  have e45 := hide hbo
  obtain ⟨w5, hw5⟩ : ∃ W, w4.alloc (.cells #[.int .i64 xk, .int .i64 xa, .int .i64 xb, .int .i64 xc, .string xs, .string xt] 32) = W := ⟨_, rfl⟩
  rw [hw5] at hb5 bo5 al5
  have al5H := hide al5
  clear al5 q4 hbH
  have cw := kb_want (unhide hb5) (unhide hBH).1 ⟨xk, xa, xb, xc, xs, xt⟩
  have hne := hide (next_same C H ⟨xk, xa, xb, xc, xs, xt⟩)
  have hstl := hide (deliver_still (unhide hBH) ⟨xk, xa, xb, xc, xs, xt⟩)
  have htn := hide (fun (W : World) (C' : Nat → Nat → Int) (H' : Nat → Nat → Nat → Int) (h : KB w W x g C' H' C H M F rd) => kb_turn h false (unhide hBH) ⟨xk, xa, xb, xc, xs, xt⟩)
  have hdo := hide (fun (W : World) (q : Quiet w4 W) => kb_do (unhide hb4) (unhide hBH).1 q ⟨xk, xa, xb, xc, xs, xt⟩)
  have hIn := hide (inv_next (unhide hBH).1 ⟨xk, xa, xb, xc, xs, xt⟩)
  generalize nextP C H ⟨xk, xa, xb, xc, xs, xt⟩ = NX at *
  obtain ⟨C2, H2⟩ := NX
  generalize ansP C H ⟨xk, xa, xb, xc, xs, xt⟩ = AN at *
  obtain ⟨E, A, B, Z⟩ := AN
  dsimp only at cw hne htn hdo hIn hstl
  unfold opv ansv ansC at cw hdo
  unfold opv at htn
  generalize hSeq : str (showP C H) = S at *
  have hSH := hide hSeq
  clear hSeq
  replace cw := hide cw
  have o0 : w5.cell? ⟨bo, 0, none⟩ = some (.int .i64 xk) := bo5.cell 0
  have o1 : w5.cell? ⟨bo, 1, none⟩ = some (.int .i64 xa) := bo5.cell 1
  have o2 : w5.cell? ⟨bo, 2, none⟩ = some (.int .i64 xb) := bo5.cell 2
  have o3 : w5.cell? ⟨bo, 3, none⟩ = some (.int .i64 xc) := bo5.cell 3
  have o4 : w5.cell? ⟨bo, 4, none⟩ = some (.string xs) := bo5.cell 4
  have o5 : w5.cell? ⟨bo, 5, none⟩ = some (.string xt) := bo5.cell 5
  have bo5H := hide bo5
  clear bo5
  go_wp2_with fail
  refine (unhide cw).mono ?_
  rintro e w6 ⟨rfl, q6⟩
  clear cw o0 o1 o2 o3 o4 o5 hbo hw5
  have al7 : Quiet w6 (w6.alloc (.cells #[.int .i64 E, .int .i64 A, .int .i64 B, .string Z] 36)) := (Chg.refl _ _).alloc _
  have q57 := Quiet.trans q6 al7
  have bo7 := Quiet.blk q57 (unhide bo5H)
  have bw7 := Blk.new w6 36 [.int .i64 E, .int .i64 A, .int .i64 B, .string Z]
  obtain ⟨bw, hbw⟩ : ∃ b, w6.heap.size = b := ⟨_, rfl⟩
  have lbo : bo < w6.heap.size := Nat.lt_of_lt_of_le (unhide bo5H).lt q6.size
  have l5 : w5.heap.size ≤ w6.heap.size := q6.size
  rw [hbw] at bw7 lbo l5
  obtain ⟨w7, hw7⟩ : ∃ W, w6.alloc (.cells #[.int .i64 E, .int .i64 A, .int .i64 B, .string Z] 36) = W := ⟨_, rfl⟩
  rw [hw7] at q57 bo7 bw7
  have cd := hide (unhide hdo w7 (Quiet.trans (unhide al5H) q57))
  clear al7 q57 q6 hdo
  have o0 : w7.cell? ⟨bo, 0, none⟩ = some (.int .i64 xk) := bo7.cell 0
  have o1 : w7.cell? ⟨bo, 1, none⟩ = some (.int .i64 xa) := bo7.cell 1
  have o2 : w7.cell? ⟨bo, 2, none⟩ = some (.int .i64 xb) := bo7.cell 2
  have o3 : w7.cell? ⟨bo, 3, none⟩ = some (.int .i64 xc) := bo7.cell 3
  have o4 : w7.cell? ⟨bo, 4, none⟩ = some (.string xs) := bo7.cell 4
  have o5 : w7.cell? ⟨bo, 5, none⟩ = some (.string xt) := bo7.cell 5
  have bo7H := hide bo7
  have bw7H := hide bw7
  clear bo7 bw7 bo5H
  go_wp2_with fail
  refine (unhide cd).mono ?_
  rintro e w8 ⟨rfl, ch8, hb8⟩
  clear cd o0 o1 o2 o3 o4 o5 hbw hw7
  rw [unhide e45] at ch8
  have bo8 := ch8.blk (unhide bo7H) (Nat.lt_irrefl _)
  have bw8 := ch8.blk (unhide bw7H) (by omega)
  have al9 : Quiet w8 (w8.alloc (.cells #[.int .i64 E, .int .i64 A, .int .i64 B, .string Z] 36)) := (Chg.refl _ _).alloc _
  have bo9 := Quiet.blk al9 bo8
  have bw9 := Quiet.blk al9 bw8
  have ba9 := Blk.new w8 36 [.int .i64 E, .int .i64 A, .int .i64 B, .string Z]
  have hb9 := hb8.quiet al9
  obtain ⟨ba, hba⟩ : ∃ b, w8.heap.size = b := ⟨_, rfl⟩
  rw [hba] at ba9
  obtain ⟨w9, hw9⟩ : ∃ W, w8.alloc (.cells #[.int .i64 E, .int .i64 A, .int .i64 B, .string Z] 36) = W := ⟨_, rfl⟩
  rw [hw9] at bo9 bw9 ba9 hb9
  have cs := hide (kb_show hb9 (unhide hIn))
  generalize hS2 : str (showP C2 H2) = S2 at *
  have hS2H := hide hS2
  have hb9H := hide hb9
  have bo9H := hide bo9
  have bw9H := hide bw9
  have ba9H := hide ba9
  clear hS2 hb9 bo9 bw9 ba9 bo8 bw8 al9 hb8 ch8 bo7H bw7H lbo l5
  go_wp2_with fail
  refine (unhide cs).mono ?_
  rintro e w10 ⟨rfl, q10⟩
  clear cs hba hw9
  have hb10 := (unhide hb9H).quiet q10
  have bo10 := Quiet.blk q10 (unhide bo9H)
  have bw10 := Quiet.blk q10 (unhide bw9H)
  have ba10 := Quiet.blk q10 (unhide ba9H)
  have o0 : w10.cell? ⟨bo, 0, none⟩ = some (.int .i64 xk) := bo10.cell 0
  have o1 : w10.cell? ⟨bo, 1, none⟩ = some (.int .i64 xa) := bo10.cell 1
  have o2 : w10.cell? ⟨bo, 2, none⟩ = some (.int .i64 xb) := bo10.cell 2
  have o3 : w10.cell? ⟨bo, 3, none⟩ = some (.int .i64 xc) := bo10.cell 3
  have o4 : w10.cell? ⟨bo, 4, none⟩ = some (.string xs) := bo10.cell 4
  have o5 : w10.cell? ⟨bo, 5, none⟩ = some (.string xt) := bo10.cell 5
  have p0 : w10.cell? ⟨bw, 0, none⟩ = some (.int .i64 E) := bw10.cell 0
  have p1 : w10.cell? ⟨bw, 1, none⟩ = some (.int .i64 A) := bw10.cell 1
  have p2 : w10.cell? ⟨bw, 2, none⟩ = some (.int .i64 B) := bw10.cell 2
  have p3 : w10.cell? ⟨bw, 3, none⟩ = some (.string Z) := bw10.cell 3
  have q0 : w10.cell? ⟨ba, 0, none⟩ = some (.int .i64 E) := ba10.cell 0
  have q1 : w10.cell? ⟨ba, 1, none⟩ = some (.int .i64 A) := ba10.cell 1
  have q2 : w10.cell? ⟨ba, 2, none⟩ = some (.int .i64 B) := ba10.cell 2
  have q3 : w10.cell? ⟨ba, 3, none⟩ = some (.string Z) := ba10.cell 3
  have hZ : (Z.toList == Z.toList) = true := by simp
  have hb10H := hide hb10
  clear hb10 bo10 bw10 ba10 hb9H bo9H bw9H ba9H q10
  have hr16 := hide (unhide hBH).2.2.2
  by_cases ht : E = 0 ∧ 1 ≤ xk ∧ xk ≤ 3
  · obtain ⟨t1, t2, t3⟩ := ht
    subst t1
    have ct := hide (unhide htn w10 C2 H2 (unhide hb10H) t2 t3 rfl)
    have g2 : (1 ≤ xk) = True := eq_true t2
    have g3 : (xk ≤ 3) = True := eq_true t3
    clear hne htn hBH t2 t3
    by_cases h3 : xk = 3
    · subst h3
      have krx := kb_rd (unhide hb10H)
      by_cases h16 : rd = 16
      · have e3 : S2 = S := (unhide hS2H).symm.trans ((congrArg str (unhide hstl rfl rfl h16)).trans (unhide hSH))
        subst e3
        subst h16
        clear hstl
        go_wp2_with fail
        refine (unhide ct).mono ?_
        rintro e w11 ⟨rfl, M2, F2, r2, hbT, hBk⟩
        have hbX := hide hbT
        have hBX := hide hBk
        clear krx ct hbT hBk o0 o1 o2 o3 o4 o5 p0 p1 p2 p3 q0 q1 q2 q3
        have csh := hide (kb_shown (unhide hbX) (unhide hBX).1)
        rw [unhide hS2H] at csh
        have hSS : (S2.toList == S2.toList) = true := by simp
        go_wp2_with fail
        refine (unhide csh).mono ?_
        rintro e wb ⟨rfl, qb⟩
        have hbY := hide ((unhide hbX).quiet qb)
        clear csh qb
        have cft := hide (kb_foot (unhide hbY) (unhide hBX).1 (unhide hBX).2.1)
        rw [unhide hS2H] at cft
        go_wp2_with fail
        refine (unhide cft).mono ?_
        rintro e wd ⟨rfl, hwd⟩
        replace hwd := hwd.symm
        subst hwd
        clear cft
        have kry := kb_rd (unhide hbY)
        by_cases h16 : r2 = 16
        · subst h16
          have cse := hide (kb_settled (unhide hbY) (unhide hBX))
          rw [unhide hS2H] at cse
          go_wp2_with fail
          refine (unhide cse).mono ?_
          rintro e wz ⟨rfl, qz⟩
          have hbZ := hide ((unhide hbY).quiet qz)
          clear cse qz
          go_wp2
          have hq := unhide hQH wz C2 H2 M2 F2 16
          rw [unhide hS2H] at hq
          exact hq _ _ _ _ _ _ _ _ _ _ _ _ _ _ _ _ _ _ _ _ _ _ _ _ _ _ _ _ _ _ _ _ _ _ _ _ _ _ _ _ _ _ _ _ _ _ _ _ _ _ _ _ _ _ _ _ _ _ _ _ _ _ _ _ _ _ _ _ _ _ _ _ _ _ _ _ _ _ _ _ _ _ _ _ _ _ _ _ _ _ _ _ _ _ _ _ _ _ _ (unhide hbZ) (unhide hBX)
        · have x16 : (16 ≤ (r2 : Int)) = False := eq_false (by have := (unhide hBX).2.2.2; omega)
          clear h16
          go_wp2
          have hq := unhide hQH wb C2 H2 M2 F2 r2
          rw [unhide hS2H] at hq
          exact hq _ _ _ _ _ _ _ _ _ _ _ _ _ _ _ _ _ _ _ _ _ _ _ _ _ _ _ _ _ _ _ _ _ _ _ _ _ _ _ _ _ _ _ _ _ _ _ _ _ _ _ _ _ _ _ _ _ _ _ _ _ _ _ _ _ _ _ _ _ _ _ _ _ _ _ _ _ _ _ _ _ _ _ _ _ _ _ _ _ _ _ _ _ _ _ _ _ _ _ (unhide hbY) (unhide hBX)
      · have y16 : (16 ≤ (rd : Int)) = False := eq_false (by have := unhide hr16; omega)
        clear h16 hstl
        go_wp2_with fail
        refine (unhide ct).mono ?_
        rintro e w11 ⟨rfl, M2, F2, r2, hbT, hBk⟩
        have hbX := hide hbT
        have hBX := hide hBk
        clear krx y16 ct hbT hBk o0 o1 o2 o3 o4 o5 p0 p1 p2 p3 q0 q1 q2 q3
        have csh := hide (kb_shown (unhide hbX) (unhide hBX).1)
        rw [unhide hS2H] at csh
        have hSS : (S2.toList == S2.toList) = true := by simp
        go_wp2_with fail
        refine (unhide csh).mono ?_
        rintro e wb ⟨rfl, qb⟩
        have hbY := hide ((unhide hbX).quiet qb)
        clear csh qb
        have cft := hide (kb_foot (unhide hbY) (unhide hBX).1 (unhide hBX).2.1)
        rw [unhide hS2H] at cft
        go_wp2_with fail
        refine (unhide cft).mono ?_
        rintro e wd ⟨rfl, hwd⟩
        replace hwd := hwd.symm
        subst hwd
        clear cft
        have kry := kb_rd (unhide hbY)
        by_cases h16 : r2 = 16
        · subst h16
          have cse := hide (kb_settled (unhide hbY) (unhide hBX))
          rw [unhide hS2H] at cse
          go_wp2_with fail
          refine (unhide cse).mono ?_
          rintro e wz ⟨rfl, qz⟩
          have hbZ := hide ((unhide hbY).quiet qz)
          clear cse qz
          go_wp2
          have hq := unhide hQH wz C2 H2 M2 F2 16
          rw [unhide hS2H] at hq
          exact hq _ _ _ _ _ _ _ _ _ _ _ _ _ _ _ _ _ _ _ _ _ _ _ _ _ _ _ _ _ _ _ _ _ _ _ _ _ _ _ _ _ _ _ _ _ _ _ _ _ _ _ _ _ _ _ _ _ _ _ _ _ _ _ _ _ _ _ _ _ _ _ _ _ _ _ _ _ _ _ _ _ _ _ _ _ _ _ _ _ _ _ _ _ _ _ _ _ _ _ (unhide hbZ) (unhide hBX)
        · have x16 : (16 ≤ (r2 : Int)) = False := eq_false (by have := (unhide hBX).2.2.2; omega)
          clear h16
          go_wp2
          have hq := unhide hQH wb C2 H2 M2 F2 r2
          rw [unhide hS2H] at hq
          exact hq _ _ _ _ _ _ _ _ _ _ _ _ _ _ _ _ _ _ _ _ _ _ _ _ _ _ _ _ _ _ _ _ _ _ _ _ _ _ _ _ _ _ _ _ _ _ _ _ _ _ _ _ _ _ _ _ _ _ _ _ _ _ _ _ _ _ _ _ _ _ _ _ _ _ _ _ _ _ _ _ _ _ _ _ _ _ _ _ _ _ _ _ _ _ _ _ _ _ _ (unhide hbY) (unhide hBX)
    · have g4 : (xk == 3) = false := by simpa using h3
      have g5 : (xk = 3) = False := eq_false h3
      clear h3 hstl
      go_wp2_with fail
      refine (unhide ct).mono ?_
      rintro e w11 ⟨rfl, M2, F2, r2, hbT, hBk⟩
      have hbX := hide hbT
      have hBX := hide hBk
      clear ct hbT hBk o0 o1 o2 o3 o4 o5 p0 p1 p2 p3 q0 q1 q2 q3
      have csh := hide (kb_shown (unhide hbX) (unhide hBX).1)
      rw [unhide hS2H] at csh
      have hSS : (S2.toList == S2.toList) = true := by simp
      go_wp2_with fail
      refine (unhide csh).mono ?_
      rintro e wb ⟨rfl, qb⟩
      have hbY := hide ((unhide hbX).quiet qb)
      clear csh qb
      have cft := hide (kb_foot (unhide hbY) (unhide hBX).1 (unhide hBX).2.1)
      rw [unhide hS2H] at cft
      go_wp2_with fail
      refine (unhide cft).mono ?_
      rintro e wd ⟨rfl, hwd⟩
      replace hwd := hwd.symm
      subst hwd
      clear cft
      have kry := kb_rd (unhide hbY)
      by_cases h16 : r2 = 16
      · subst h16
        have cse := hide (kb_settled (unhide hbY) (unhide hBX))
        rw [unhide hS2H] at cse
        go_wp2_with fail
        refine (unhide cse).mono ?_
        rintro e wz ⟨rfl, qz⟩
        have hbZ := hide ((unhide hbY).quiet qz)
        clear cse qz
        go_wp2
        have hq := unhide hQH wz C2 H2 M2 F2 16
        rw [unhide hS2H] at hq
        exact hq _ _ _ _ _ _ _ _ _ _ _ _ _ _ _ _ _ _ _ _ _ _ _ _ _ _ _ _ _ _ _ _ _ _ _ _ _ _ _ _ _ _ _ _ _ _ _ _ _ _ _ _ _ _ _ _ _ _ _ _ _ _ _ _ _ _ _ _ _ _ _ _ _ _ _ _ _ _ _ _ _ _ _ _ _ _ _ _ _ _ _ _ _ _ _ _ _ _ _ (unhide hbZ) (unhide hBX)
      · have x16 : (16 ≤ (r2 : Int)) = False := eq_false (by have := (unhide hBX).2.2.2; omega)
        clear h16
        go_wp2
        have hq := unhide hQH wb C2 H2 M2 F2 r2
        rw [unhide hS2H] at hq
        exact hq _ _ _ _ _ _ _ _ _ _ _ _ _ _ _ _ _ _ _ _ _ _ _ _ _ _ _ _ _ _ _ _ _ _ _ _ _ _ _ _ _ _ _ _ _ _ _ _ _ _ _ _ _ _ _ _ _ _ _ _ _ _ _ _ _ _ _ _ _ _ _ _ _ _ _ _ _ _ _ _ _ _ _ _ _ _ _ _ _ _ _ _ _ _ _ _ _ _ _ (unhide hbY) (unhide hBX)
  · have hs := unhide hne (by omega)
    obtain ⟨e1, e2⟩ := Prod.mk.inj hs
    replace e1 := e1.symm
    replace e2 := e2.symm
    subst e1 e2
    have e3 : S2 = S := (unhide hS2H).symm.trans (unhide hSH)
    subst e3
    clear hne htn hs
    by_cases hE : E = 0
    · by_cases h1 : 1 ≤ xk
      · have g3 : (xk ≤ 3) = False := eq_false (by omega)
        have g2 : (1 ≤ xk) = True := eq_true h1
        subst hE
        clear ht h1
        have hbX := hb10H
        have hBX := hBH
        clear hstl
        have csh := hide (kb_shown (unhide hbX) (unhide hBX).1)
        rw [unhide hSH] at csh
        have hSS : (S2.toList == S2.toList) = true := by simp
        go_wp2_with fail
        refine (unhide csh).mono ?_
        rintro e wb ⟨rfl, qb⟩
        have hbY := hide ((unhide hbX).quiet qb)
        clear csh qb
        have cft := hide (kb_foot (unhide hbY) (unhide hBX).1 (unhide hBX).2.1)
        rw [unhide hSH] at cft
        go_wp2_with fail
        refine (unhide cft).mono ?_
        rintro e wd ⟨rfl, hwd⟩
        replace hwd := hwd.symm
        subst hwd
        clear cft
        have kry := kb_rd (unhide hbY)
        by_cases h16 : rd = 16
        · subst h16
          have cse := hide (kb_settled (unhide hbY) (unhide hBX))
          rw [unhide hSH] at cse
          go_wp2_with fail
          refine (unhide cse).mono ?_
          rintro e wz ⟨rfl, qz⟩
          have hbZ := hide ((unhide hbY).quiet qz)
          clear cse qz
          go_wp2
          have hq := unhide hQH wz C H M F 16
          rw [unhide hSH] at hq
          exact hq _ _ _ _ _ _ _ _ _ _ _ _ _ _ _ _ _ _ _ _ _ _ _ _ _ _ _ _ _ _ _ _ _ _ _ _ _ _ _ _ _ _ _ _ _ _ _ _ _ _ _ _ _ _ _ _ _ _ _ _ _ _ _ _ _ _ _ _ _ _ _ _ _ _ _ _ _ _ _ _ _ _ _ _ _ _ _ _ _ _ _ _ _ _ _ _ _ _ _ (unhide hbZ) (unhide hBX)
        · have x16 : (16 ≤ (rd : Int)) = False := eq_false (by have := (unhide hBX).2.2.2; omega)
          clear h16
          go_wp2
          have hq := unhide hQH wb C H M F rd
          rw [unhide hSH] at hq
          exact hq _ _ _ _ _ _ _ _ _ _ _ _ _ _ _ _ _ _ _ _ _ _ _ _ _ _ _ _ _ _ _ _ _ _ _ _ _ _ _ _ _ _ _ _ _ _ _ _ _ _ _ _ _ _ _ _ _ _ _ _ _ _ _ _ _ _ _ _ _ _ _ _ _ _ _ _ _ _ _ _ _ _ _ _ _ _ _ _ _ _ _ _ _ _ _ _ _ _ _ (unhide hbY) (unhide hBX)
      · have g2 : (1 ≤ xk) = False := eq_false h1
        subst hE
        clear ht h1
        have hbX := hb10H
        have hBX := hBH
        clear hstl
        have csh := hide (kb_shown (unhide hbX) (unhide hBX).1)
        rw [unhide hSH] at csh
        have hSS : (S2.toList == S2.toList) = true := by simp
        go_wp2_with fail
        refine (unhide csh).mono ?_
        rintro e wb ⟨rfl, qb⟩
        have hbY := hide ((unhide hbX).quiet qb)
        clear csh qb
        have cft := hide (kb_foot (unhide hbY) (unhide hBX).1 (unhide hBX).2.1)
        rw [unhide hSH] at cft
        go_wp2_with fail
        refine (unhide cft).mono ?_
        rintro e wd ⟨rfl, hwd⟩
        replace hwd := hwd.symm
        subst hwd
        clear cft
        have kry := kb_rd (unhide hbY)
        by_cases h16 : rd = 16
        · subst h16
          have cse := hide (kb_settled (unhide hbY) (unhide hBX))
          rw [unhide hSH] at cse
          go_wp2_with fail
          refine (unhide cse).mono ?_
          rintro e wz ⟨rfl, qz⟩
          have hbZ := hide ((unhide hbY).quiet qz)
          clear cse qz
          go_wp2
          have hq := unhide hQH wz C H M F 16
          rw [unhide hSH] at hq
          exact hq _ _ _ _ _ _ _ _ _ _ _ _ _ _ _ _ _ _ _ _ _ _ _ _ _ _ _ _ _ _ _ _ _ _ _ _ _ _ _ _ _ _ _ _ _ _ _ _ _ _ _ _ _ _ _ _ _ _ _ _ _ _ _ _ _ _ _ _ _ _ _ _ _ _ _ _ _ _ _ _ _ _ _ _ _ _ _ _ _ _ _ _ _ _ _ _ _ _ _ (unhide hbZ) (unhide hBX)
        · have x16 : (16 ≤ (rd : Int)) = False := eq_false (by have := (unhide hBX).2.2.2; omega)
          clear h16
          go_wp2
          have hq := unhide hQH wb C H M F rd
          rw [unhide hSH] at hq
          exact hq _ _ _ _ _ _ _ _ _ _ _ _ _ _ _ _ _ _ _ _ _ _ _ _ _ _ _ _ _ _ _ _ _ _ _ _ _ _ _ _ _ _ _ _ _ _ _ _ _ _ _ _ _ _ _ _ _ _ _ _ _ _ _ _ _ _ _ _ _ _ _ _ _ _ _ _ _ _ _ _ _ _ _ _ _ _ _ _ _ _ _ _ _ _ _ _ _ _ _ (unhide hbY) (unhide hBX)
    · have gE : (E == 0) = false := by simpa using hE
      have gE2 : (E = 0) = False := eq_false hE
      clear ht hE
      have hbX := hb10H
      have hBX := hBH
      clear hstl
      have csh := hide (kb_shown (unhide hbX) (unhide hBX).1)
      rw [unhide hSH] at csh
      have hSS : (S2.toList == S2.toList) = true := by simp
      go_wp2_with fail
      refine (unhide csh).mono ?_
      rintro e wb ⟨rfl, qb⟩
      have hbY := hide ((unhide hbX).quiet qb)
      clear csh qb
      have cft := hide (kb_foot (unhide hbY) (unhide hBX).1 (unhide hBX).2.1)
      rw [unhide hSH] at cft
      go_wp2_with fail
      refine (unhide cft).mono ?_
      rintro e wd ⟨rfl, hwd⟩
      replace hwd := hwd.symm
      subst hwd
      clear cft
      have kry := kb_rd (unhide hbY)
      by_cases h16 : rd = 16
      · subst h16
        have cse := hide (kb_settled (unhide hbY) (unhide hBX))
        rw [unhide hSH] at cse
        go_wp2_with fail
        refine (unhide cse).mono ?_
        rintro e wz ⟨rfl, qz⟩
        have hbZ := hide ((unhide hbY).quiet qz)
        clear cse qz
        go_wp2
        have hq := unhide hQH wz C H M F 16
        rw [unhide hSH] at hq
        exact hq _ _ _ _ _ _ _ _ _ _ _ _ _ _ _ _ _ _ _ _ _ _ _ _ _ _ _ _ _ _ _ _ _ _ _ _ _ _ _ _ _ _ _ _ _ _ _ _ _ _ _ _ _ _ _ _ _ _ _ _ _ _ _ _ _ _ _ _ _ _ _ _ _ _ _ _ _ _ _ _ _ _ _ _ _ _ _ _ _ _ _ _ _ _ _ _ _ _ _ (unhide hbZ) (unhide hBX)
      · have x16 : (16 ≤ (rd : Int)) = False := eq_false (by have := (unhide hBX).2.2.2; omega)
        clear h16
        go_wp2
        have hq := unhide hQH wb C H M F rd
        rw [unhide hSH] at hq
        exact hq _ _ _ _ _ _ _ _ _ _ _ _ _ _ _ _ _ _ _ _ _ _ _ _ _ _ _ _ _ _ _ _ _ _ _ _ _ _ _ _ _ _ _ _ _ _ _ _ _ _ _ _ _ _ _ _ _ _ _ _ _ _ _ _ _ _ _ _ _ _ _ _ _ _ _ _ _ _ _ _ _ _ _ _ _ _ _ _ _ _ _ _ _ _ _ _ _ _ _ (unhide hbY) (unhide hBX)
end Go.Proofs.Qxb6500364a
