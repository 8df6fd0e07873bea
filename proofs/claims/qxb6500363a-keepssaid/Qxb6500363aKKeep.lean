/-
  THE WALK OF Keeps. (gen63kkeep.py)
-/
import Derived.Test.Qxb6500363aKMid
import Derived.BigQuiet
import Derived.Deep.CutBlock
import Derived.Deep.CutRange
namespace Go.Proofs.Qxb6500363a
open Go.RowKit Go.Qx
set_option linter.unusedVariables false
set_option linter.unusedSimpArgs false

theorem set_len (xs : List Int) (v : Nat) (y : Int) : (xs.set v y).length = xs.length := List.length_set ..
/-- What the loop holds: i, n, since, g, K, w, t, p, ok. -/
def LI (W : World) (len r : Nat) (n since g gk wv t p okv i : Value) (wr : World) : Prop :=
  ∃ (j gb gn gc : Nat) (k : Int) (xs : List Int) (S : Nat) (b : Bool), j ≤ len ∧ i = .int .i64 j ∧ n = .int .i64 xs.length ∧ since = .int .i64 S ∧ g = .slice (some ⟨gb, 0, none⟩) gn gc ∧ gk = .int .i64 k ∧ wv = .int .i64 (mk (hots xs)) ∧ t = .int .i64 (cnt (hots xs)) ∧ p = .int .i64 (wsum xs.length (hots xs) 0) ∧ okv = .bool b ∧ KB W wr r gb gn gc k xs xs ∧ Ok k xs ∧ Jv k xs S ∧ S ≤ 100

set_option maxHeartbeats 40000000 in
set_option maxRecDepth 100000 in
theorem keepsUpTo_any (w : World) (a : Option Addr) (len cap : Nat) (ops : List Opr) (ho : IsOps w a len cap ops) :
    Calls Try.prog 6 #[.slice a len cap] w fun e w' => e = .returned (.int .i64 (-1)) ∧ Below w.heap.size w w' := by
  have hlen := ho.small
  have hnew := hide (newR_any w)
  have m1 : ∀ W, (Instr.makeSlice 27 (.int .i64 2) (.int .i64 2)).run Try.prog W = .ok (.slice (some ⟨W.heap.size, 0, none⟩) 2 2) (W.alloc (.cells #[.int .i64 0, .int .i64 0] 3)) := fun W => make27 W 2 (by omega)
  go_enter Try.func6, Try.ntmps6
  go_wp2_with fail
  refine (unhide hnew).mono ?_
  clear hnew
  rintro e w1 ⟨r, ra, rb, rfl, q1, ho1, R1⟩
  have kb0 := hide (kb_new R1 q1 ho1)
  clear q1 ho1 R1
  unfold ptr
  have hm := hide (kb_mask (unhide kb0) ok_first)
  have hz : Hid (([0, 0] : List Int).length = 2) := rfl
  rw [unhide hz] at hm
  have hmk : mk (hots [0, 0]) = 1 := by decide
  rw [hmk] at hm
  have hsu := hide (sums_any (w1.alloc (.cells #[.int .i64 0, .int .i64 0] 3)) (hots [0, 0]) (by decide) (by decide))
  have hsl : (hots [0, 0]).length = 2 := by decide
  rw [hsl, hmk] at hsu
  have hcn : cnt (hots [0, 0]) = 1 := by decide
  have hws : wsum 2 (hots [0, 0]) 0 = 0 := by decide
  rw [hcn, hws] at hsu
  have hst := hide (kb_state (unhide kb0) ok_first)
  rw [unhide hz, hcn, hws] at hst
  clear hmk hsl hcn hws hz
  go_wp2_with fail
  refine (unhide hm).mono ?_
  rintro e w2 ⟨rfl, rfl⟩
  clear hm
  go_wp2_with fail
  refine (unhide hsu).mono ?_
  rintro e w2 ⟨rfl, rfl⟩
  clear hsu
  go_wp2_with fail
  refine (unhide hst).mono ?_
  rintro e w2 ⟨rfl, q2⟩
  clear hst
  have kb1 := hide ((unhide kb0).quiet q2)
  clear kb0 q2
  obtain ⟨gb0, hgb0⟩ : ∃ g, w1.heap.size = g := ⟨_, rfl⟩
  rw [hgb0] at kb1 ⊢
  clear hgb0
  have hsh := hide (kb_show (unhide kb1) ok_first)
  have hX : ((str (showP 2 [0, 0])).toList == [50, 47, 49, 47, 48, 58, 42, 48, 44, 48, 44]) = true := by rw [str_toList, show_first]; decide
  generalize str (showP 2 [0, 0]) = X0 at *
  go_wp2_with fail
  refine (unhide hsh).mono ?_
  rintro e w3 ⟨rfl, q3⟩
  clear hsh
  have kb2 := hide ((unhide kb1).quiet q3)
  clear kb1 q3
  go_wp2
  have st0 : Hid (LI w len r (.int .i64 2) (.int .i64 0) (.slice (some ⟨gb0, 0, none⟩) 2 2) (.int .i64 2) (.int .i64 1) (.int .i64 1) (.int .i64 0) (.bool true) (.int .i64 0) w3) :=
    ⟨0, gb0, 2, 2, 2, [0, 0], 0, true, Nat.zero_le _, rfl, rfl, rfl, rfl, rfl, by rw [show mk (hots [0, 0]) = 1 by decide]; rfl, by rw [show cnt (hots [0, 0]) = 1 by decide], by rw [show wsum ([0, 0] : List Int).length (hots [0, 0]) 0 = 0 by decide], rfl, unhide kb2, ok_first, Jv.start ok_first, by omega⟩
  clear kb2 hX m1
  go_loopw [4, 5, 6, 7, 8, 9, 10, 11, 12] (fun n since g gk wv t p okv i wr => LI w len r n since g gk wv t p okv i wr) (fun _ _ _ _ _ _ _ _ i _ => len - (intOf i).toNat)
  case atStart => exact unhide st0
  case round =>
    obtain ⟨j, gb, gn, gc, k, xs, S, bv, hj, rfl, rfl, rfl, rfl, rfl, rfl, rfl, rfl, rfl, hb, hok, hJ, hS⟩ := hrel
    clear st0
    have hbelH := hide hb.below
    by_cases hlt : j < len
    · by_cases hmax : (j : Int) < 4398046511104
      · have hjo : j < ops.length := by rw [ho.count]; exact hlt
        obtain ⟨sb, so, rfl, hsb, k0, k1, k2, k3, k4, k5⟩ := ho.cells j hjo
        have hfit := ho.fit ops[j] (List.getElem_mem hjo)
        generalize ops[j] = o at *
        obtain ⟨ok, oa, ob, oc, os, ot⟩ := o
        simp only at k0 k1 k2 k3 k4 k5 hfit
        have i1 : (0 : Int) ≤ (j : Int) := by omega
        have i2 : (j : Int) < (len : Int) := by omega
        have g1 : decide (j < len) = true := by simpa using hlt
        have hbl := unhide hbelH
        rw [← hbl.cell (p := ⟨sb, so + j * 6, none⟩) hsb] at k0
        rw [← hbl.cell (p := ⟨sb, so + j * 6 + 1, none⟩) hsb] at k1
        rw [← hbl.cell (p := ⟨sb, so + j * 6 + 2, none⟩) hsb] at k2
        rw [← hbl.cell (p := ⟨sb, so + j * 6 + 3, none⟩) hsb] at k3
        rw [← hbl.cell (p := ⟨sb, so + j * 6 + 4, none⟩) hsb] at k4
        rw [← hbl.cell (p := ⟨sb, so + j * 6 + 5, none⟩) hsb] at k5
        clear hbl
        have hb0H := hide hb
        have hb1 := hide (hb.quiet ((Chg.refl _ _).alloc (.cells #[.int .i64 ok, .int .i64 oa, .int .i64 ob, .int .i64 oc, .string os, .string ot] 34)))
        have bo1 := hide (Blk.new wr 34 [.int .i64 ok, .int .i64 oa, .int .i64 ob, .int .i64 oc, .string os, .string ot])
        have oW := hb.chg.size
        have oG := hb.gv.b.lt
        clear hb
        have hsh := hide (kb_show (unhide hb1) hok)
        generalize hS0 : str (showP k xs) = S0 at *
        have hS0H := hide hS0
        clear hS0
        obtain ⟨bo, hbo⟩ : ∃ b, wr.heap.size = b := ⟨_, rfl⟩
        rw [hbo] at bo1 oW oG
        have nbo : bo < (wr.alloc (.cells #[.int .i64 ok, .int .i64 oa, .int .i64 ob, .int .i64 oc, .string os, .string ot] 34)).heap.size := by simp; omega
        go_wp2_with fail
        refine (unhide hsh).mono ?_
        rintro e w4 ⟨rfl, q4⟩
        clear hsh k0 k1 k2 k3 k4 k5 hbelH hsb
        have q04 : Quiet wr w4 := Quiet.trans ((Chg.refl _ _).alloc _) q4
        have bo2 := Quiet.blk q4 (unhide bo1)
        clear hb1 bo1 q4 nbo
        have l2 := bo2.lt
        have pl := hide (kb_play (unhide hb0H) q04 hok ⟨ok, oa, ob, oc, os, ot⟩ hfit.1 hfit.2)
        clear hb0H q04
        rw [hbo] at pl
        clear hbo
        have co0 : w4.cell? ⟨bo, 0, none⟩ = some (.int .i64 ok) := bo2.cell 0
        have co1 : w4.cell? ⟨bo, 1, none⟩ = some (.int .i64 oa) := bo2.cell 1
        have co2 : w4.cell? ⟨bo, 2, none⟩ = some (.int .i64 ob) := bo2.cell 2
        have co3 : w4.cell? ⟨bo, 3, none⟩ = some (.int .i64 oc) := bo2.cell 3
        have co4 : w4.cell? ⟨bo, 4, none⟩ = some (.string os) := bo2.cell 4
        have co5 : w4.cell? ⟨bo, 5, none⟩ = some (.string ot) := bo2.cell 5
        have owO := hide (fun W => owed_any W k xs hok ⟨ok, oa, ob, oc, os, ot⟩)
        have eyO := hide (fun W => eyes_any W k xs hok ⟨ok, oa, ob, oc, os, ot⟩)
        rw [unhide hS0H] at eyO
        have hnx := hide (ok_next hok ⟨ok, oa, ob, oc, os, ot⟩)
        generalize hA : ansP k xs ⟨ok, oa, ob, oc, os, ot⟩ = A at *
        generalize hN : nextP k xs ⟨ok, oa, ob, oc, os, ot⟩ = NX at *
        obtain ⟨aE, aN, aS⟩ := A
        obtain ⟨k', xs'⟩ := NX
        dsimp only at pl owO eyO hnx
        unfold opv ansv at pl eyO
        unfold opv at owO
        have hAH := hide hA
        have hNH := hide hN
        clear hA hN
        go_wp2_with fail
        refine (unhide pl).mono ?_
        clear pl
        rintro e w5 ⟨rfl, pC, hb5⟩
        have bo5 := pC.blk bo2 (Nat.lt_irrefl _)
        have al5 : Quiet w5 (w5.alloc (.cells #[.int .i64 aE, .int .i64 aN, .string aS] 37)) := (Chg.refl _ _).alloc _
        have hb6 := hide (hb5.quiet al5)
        have bo6 := Quiet.blk al5 bo5
        have ba6 := Blk.new w5 37 [.int .i64 aE, .int .i64 aN, .string aS]
        have hlt5 := bo5.lt
        have lg5 := hb5.gv.b.lt
        clear hb5 bo5 al5 bo2 l2 co0 co1 co2 co3 co4 co5 pC
        obtain ⟨ba, hba⟩ : ∃ b, w5.heap.size = b := ⟨_, rfl⟩
        rw [hba] at ba6 hlt5 lg5
        obtain ⟨w6, hw6⟩ : ∃ W, w5.alloc (.cells #[.int .i64 aE, .int .i64 aN, .string aS] 37) = W := ⟨_, rfl⟩
        rw [hw6] at hb6 bo6 ba6
        have ow := hide (unhide owO w6)
        have bo6H := hide bo6
        have ba6H := hide ba6
        have co0 : w6.cell? ⟨bo, 0, none⟩ = some (.int .i64 ok) := bo6.cell 0
        have co1 : w6.cell? ⟨bo, 1, none⟩ = some (.int .i64 oa) := bo6.cell 1
        have co2 : w6.cell? ⟨bo, 2, none⟩ = some (.int .i64 ob) := bo6.cell 2
        have co3 : w6.cell? ⟨bo, 3, none⟩ = some (.int .i64 oc) := bo6.cell 3
        have co4 : w6.cell? ⟨bo, 4, none⟩ = some (.string os) := bo6.cell 4
        have co5 : w6.cell? ⟨bo, 5, none⟩ = some (.string ot) := bo6.cell 5
        clear owO bo6 ba6
        go_wp2_with fail
        refine (unhide ow).mono ?_
        rintro e w7 ⟨rfl, q7⟩
        clear ow hba hw6 co0 co1 co2 co3 co4 co5
        have hb7 := hide ((unhide hb6).quiet q7)
        have bo7 := Quiet.blk q7 (unhide bo6H)
        have ba7 := Quiet.blk q7 (unhide ba6H)
        clear hb6 bo6H ba6H q7
        have ey := hide (unhide eyO w7)
        have bo7H := hide bo7
        have ba7H := hide ba7
        have co0 : w7.cell? ⟨bo, 0, none⟩ = some (.int .i64 ok) := bo7.cell 0
        have co1 : w7.cell? ⟨bo, 1, none⟩ = some (.int .i64 oa) := bo7.cell 1
        have co2 : w7.cell? ⟨bo, 2, none⟩ = some (.int .i64 ob) := bo7.cell 2
        have co3 : w7.cell? ⟨bo, 3, none⟩ = some (.int .i64 oc) := bo7.cell 3
        have co4 : w7.cell? ⟨bo, 4, none⟩ = some (.string os) := bo7.cell 4
        have co5 : w7.cell? ⟨bo, 5, none⟩ = some (.string ot) := bo7.cell 5
        have ca0 : w7.cell? ⟨ba, 0, none⟩ = some (.int .i64 aE) := ba7.cell 0
        have ca1 : w7.cell? ⟨ba, 1, none⟩ = some (.int .i64 aN) := ba7.cell 1
        have ca2 : w7.cell? ⟨ba, 2, none⟩ = some (.string aS) := ba7.cell 2
        clear eyO bo7 ba7
        go_wp2_with fail
        refine (unhide ey).mono ?_
        rintro e w8 ⟨rfl, q8⟩
        clear ey co0 co1 co2 co3 co4 co5 ca0 ca1 ca2
        have hb8 := (unhide hb7).quiet q8
        have bo8 := Quiet.blk q8 (unhide bo7H)
        have ba8 := Quiet.blk q8 (unhide ba7H)
        clear hb7 bo7H ba7H q8
        have hb8H := hide hb8
        have bo8H := hide bo8
        have ba8H := hide ba8
        have co0 : w8.cell? ⟨bo, 0, none⟩ = some (.int .i64 ok) := bo8.cell 0
        have co1 : w8.cell? ⟨bo, 1, none⟩ = some (.int .i64 oa) := bo8.cell 1
        clear hb8 bo8 ba8
        have jH := hide (show j + 1 ≤ len ∧ j < len from ⟨by omega, hlt⟩)
        have fitH := hide hfit
        have hmaxH := hide hmax
        have hokH := hide hok
        have hJH := hide hJ
        have hSH := hide hS
        clear hlt hmax hjo ho hlen hj i1 i2 g1 oG oW lg5 hlt5 hS hfit hok hJ co0 co1
        go_upto_if 86 with fail
        go_step
        go_step
        go_step
        go_step
        refine mid_any w w8 r gb gn gc bo ba j S k xs k' xs' aE aN ok oa ob oc aS os ot S0 bv hnx hokH hJH hSH fitH hS0H hAH hNH hb8H bo8H ba8H _ _ _ _ _ _ _ _ _ _ _ _ _ _ _ _ _ _ _ _ _ _ _ _ _ _ _ _ _ _ _ _ _ _ _ _ _ _ _ _ _ _ _ _ _ _ _ _ _ _ _ _ _ _ _ _ _ _ _ _ _ _ _ _ _ _ _ _ _ _ _ _ _ _ _ _ _ _ _ _ _ _ _ _ _ _ _ _ _ _ _ _ _ _ _ _ _ _ _ _ _ _ _ _ _ _ _ _ _ _ _ _ _ _ _ _ _ _ _ _ _ _ _ _ _ _ _ _ _ _ _ _ _ _ _ _ _ _ _ _ _ _ _ _ _ _ _ _ _ _ _ _ _ _ _ _ _ _ _ _ _ _ _ _ _ _ _ _ _ _ _ _ _ _ _ _ _ _ _ _ _ _ _ _ _ _ _ _ _ _ _ _ _ _ _ _ _ _ _ _ _ _ _ _ _ _ _ _ _ _ _ _ _ _ _ _ _ _ _ _ _ _ _ _ _ _ _ _ _ _ _ _ _ _ _ _ _ _ _ _ _ _ _ ?_
        intro g2 m2 d2 S' wx y2 y17 y18 y19 y20 y21 y22 y23 y24 y25 y26 y27 y28 y50 y51 y52 y53 y54 y55 y56 y57 y58 y59 y60 y61 y62 y63 y64 y65 y66 y67 y68 y69 y70 y71 y72 y73 y74 y75 y76 y77 y78 y79 y80 y81 y82 y83 y84 y85 y86 y87 y88 y89 y90 y91 y92 y93 y94 y95 y96 y97 y98 y99 y100 y101 y102 y103 y104 y105 y106 y107 y108 y109 y110 y111 y112 y113 y114 y115 y116 y117 y118 y119 y120 y121 y122 y123 y124 y125 y126 y127 y128 y129 y130 y131 y132 y133 y134 y135 y136 y137 y138 y139 y140 y141 y142 y143 y144 y145 y146 y147 y148 y149 y150 y151 y152 y153 y154 y155 y156 y157 y158 y159 y160 y161 y162 y163 y164 y165 y166 y167 y168 y169 y170 y171 y172 y173 y174 y175 y176 y177 y178 y179 y180 y181 y182 y183 y184 y185 y186 y187 y188 y189 y190 y191 y192 y193 y194 y195 y196 y197 y198 y199 y200 y201 y202 y203 y204 y205 y206 y207 y208 y209 y210 y211 y212 y213 y214 y215 y216 y217 y218 y219 y220 y221 y222 y223 y224 y225 y226 y227 y228 y229 y230 y231 y232 y233 y234 y235 y236 y237 y238 y239 y240 y241 y242 y243 y244 y245 y246 y247 y248 y249 y250 y251 y252 y253 y254 y255 y256 hJ' hS' hbC
        have hJ1 := hide hJ'
        have hS1' := hide hS'
        have hbC1 := hide hbC
        have jw : IntKind.i64.wrap ((j : Int) + 1) = (j : Int) + 1 := by
          have := unhide hmaxH
          rw [IntKind.wrap_i64]; omega
        clear hJ' hS' hbC
        go_wp2
        go_roundw
        case rel => exact ⟨j + 1, g2, m2, d2, k', xs', S', true, (unhide jH).1, by go_num, rfl, rfl, rfl, rfl, rfl, rfl, rfl, rfl, unhide hbC1, unhide hnx, unhide hJ1, unhide hS1'⟩
        case measure =>
          obtain ⟨h1, h2⟩ := unhide jH
          simp [intOf]; omega
      · have hb1 := unhide hbelH
        have hbH := hide hb1
        clear hb hbelH hb1
        have g1 : decide (j < len) = true := by simpa using hlt
        have g2 : ¬ (j : Int) < 4398046511104 := hmax
        clear hmax
        go_wp2
        go_ret
        exact ⟨rfl, unhide hbH⟩
    · have g1 : decide (j < len) = false := by simpa using hlt
      have g2 : ¬ (j : Int) < (len : Int) := by omega
      clear hb
      go_wp2
      go_ret
      exact ⟨rfl, unhide hbelH⟩
theorem keeps_any (w : World) (a : Option Addr) (len cap : Nat) (ops : List Opr) (ho : IsOps w a len cap ops) :
    Calls Try.prog 3 #[.slice a len cap] w fun e w' => e = .returned (.bool true) ∧ Below w.heap.size w w' := by
  go_enter Try.func3, Try.ntmps3
  go_wp2_with fail
  refine (keepsUpTo_any w a len cap ops ho).mono ?_
  rintro e w1 ⟨rfl, bel⟩
  go_wp2
  go_ret
  exact ⟨rfl, bel⟩
end Go.Proofs.Qxb6500363a
