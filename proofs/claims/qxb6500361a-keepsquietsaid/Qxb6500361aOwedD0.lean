/-
  owed, Del: region 26. Written by gen_reg.py.
-/
import Derived.Test.Qxb6500361aOwedR
namespace Go.Proofs.Qxb6500361a
open Go.RowKit Go.Qx
set_option linter.unusedSimpArgs false
set_option linter.unusedVariables false

set_option maxRecDepth 100000 in
set_option maxHeartbeats 16000000 in
theorem del_r26 (w : World) (g a b v : Nat) (ts : List K3) (p : ByteArray) (oa ob oc : Int) (os ot : ByteArray) (i N : Nat) (hNH : Hid (ts.length = N)) (hiN : i < N) (hl : N ≤ 12)
    (lg : g < w.heap.size) (la : a < w.heap.size) (lb : b < w.heap.size) (lv : v < w.heap.size) (wc : World)
    (chw : Chg (gown g a b v) w wc) (ho : Own3 w wc 4 oa ob oc os ot) (gm : Gm wc g a b v (kCells ts) (hCells ts) (vCells ts) p)
    (u1 u2 u3 u4 u5 u6 u7 u8 u10 u11 u12 u13 u14 u15 u16 u17 u18 u19 u20 u21 u22 u23 u24 u25 u26 u27 u28 u29 u30 u31 u32 u33 u34 u35 u36 u37 u38 u39 u40 u41 u42 u43 u44 u45 u46 u47 u48 u49 u50 u51 u52 u53 u54 u55 u56 u57 u58 u59 u60 u61 u62 u63 u64 u65 u66 u67 u68 u69 u70 u71 u72 u73 u74 u75 u76 u77 u78 u79 u80 u81 u82 u83 u84 u85 u86 u87 u88 u89 u90 u91 u92 u93 u94 u95 u96 u97 u98 u99 u100 u101 u102 u103 u104 u105 u106 u107 u108 u109 u110 u111 u112 u113 u114 u115 u116 u117 u118 u119 u120 u121 u122 u123 u124 u125 u126 u127 u128 u129 u130 u131 u132 u133 u134 u135 u136 u137 u138 u139 u140 u141 u142 u143 u144 u145 u146 u147 u148 u149 u150 u151 u152 u153 u154 u155 u156 u157 u158 u159 u160 u161 u162 u163 u164 u165 u166 u167 u168 u169 u170 u171 u172 u173 u174 u175 u176 u177 u178 u179 u180 u181 u182 u183 u184 u185 u186 u187 u188 u189 u190 u191 u192 u193 u194 u195 u196 u197 u198 u199 u200 u201 u202 u203 u204 u205 u206 u207 u208 u209 u210 u211 u212 u213 u214 u215 u216 u217 u218 u219 u220 u221 u222 u223 u224 u225 u226 u227 u228 u229 u230 u231 u232 u233 u234 u235 u236 u237 u238 u239 u240 u241 u242 u243 u244 u245 u246 u247 u248 u249 u250 u251 u252 u253 u254 u255 u256 u257 u258 u259 u260 u261 u262 u263 u264 u265 u266 u267 u268 u269 u270 u271 u272 u273 u274 u275 u276 : Value) (K : Act → World → Prop) (Z : Exit → World → Prop)
    (hQH : Hid (∀ (x162 x163 x164 x165 x166 x167 x168 x169 x170 x171 x172 x173 x174 x175 x176 x177 x178 : Value) (wx : World), Chg (gown g a b v) w wx ∧ Own3 w wx 4 oa ob oc os ot ∧ Gm wx g a b v ((kCells ts).eraseIdx i) (hCells ts) (vCells ts) p → K ⟨#[.pointer (some ⟨g, 0, none⟩), u1, u2, u3, u4, u5, u6, u7, u8, .int .i64 ((i : Int) + 1), u10, u11, u12, u13, u14, u15, u16, u17, u18, u19, u20, u21, u22, u23, u24, u25, u26, u27, u28, u29, u30, u31, u32, u33, u34, u35, u36, u37, u38, u39, u40, u41, u42, u43, u44, u45, u46, u47, u48, u49, u50, u51, u52, u53, u54, u55, u56, u57, u58, u59, u60, u61, u62, u63, u64, u65, u66, u67, u68, u69, u70, u71, u72, u73, u74, u75, u76, u77, u78, u79, u80, u81, u82, u83, u84, u85, u86, u87, u88, u89, u90, u91, u92, u93, u94, u95, u96, u97, u98, u99, u100, u101, u102, u103, u104, u105, u106, u107, u108, u109, u110, u111, u112, u113, u114, u115, u116, u117, u118, u119, u120, u121, u122, u123, u124, u125, u126, u127, u128, u129, u130, u131, u132, u133, u134, u135, u136, u137, u138, u139, u140, u141, u142, u143, u144, u145, u146, u147, u148, u149, u150, u151, u152, u153, u154, u155, u156, u157, u158, u159, u160, u161, x162, x163, x164, x165, x166, x167, x168, x169, x170, x171, x172, x173, x174, x175, x176, x177, x178, u179, u180, u181, u182, u183, u184, u185, u186, u187, u188, u189, u190, u191, u192, u193, u194, u195, u196, u197, u198, u199, u200, u201, u202, u203, u204, u205, u206, u207, u208, u209, u210, u211, u212, u213, u214, u215, u216, u217, u218, u219, u220, u221, u222, u223, u224, u225, u226, u227, u228, u229, u230, u231, u232, u233, u234, u235, u236, u237, u238, u239, u240, u241, u242, u243, u244, u245, u246, u247, u248, u249, u250, u251, u252, u253, u254, u255, u256, u257, u258, u259, u260, u261, u262, u263, u264, u265, u266, u267, u268, u269, u270, u271, u272, u273, u274, u275, u276], []⟩ wx)) :
    Code.wp Try.prog (reg 26) (blind K Z) ⟨#[.pointer (some ⟨g, 0, none⟩), u1, u2, u3, u4, u5, u6, u7, u8, .int .i64 ((i : Int) + 1), u10, u11, u12, u13, u14, u15, u16, u17, u18, u19, u20, u21, u22, u23, u24, u25, u26, u27, u28, u29, u30, u31, u32, u33, u34, u35, u36, u37, u38, u39, u40, u41, u42, u43, u44, u45, u46, u47, u48, u49, u50, u51, u52, u53, u54, u55, u56, u57, u58, u59, u60, u61, u62, u63, u64, u65, u66, u67, u68, u69, u70, u71, u72, u73, u74, u75, u76, u77, u78, u79, u80, u81, u82, u83, u84, u85, u86, u87, u88, u89, u90, u91, u92, u93, u94, u95, u96, u97, u98, u99, u100, u101, u102, u103, u104, u105, u106, u107, u108, u109, u110, u111, u112, u113, u114, u115, u116, u117, u118, u119, u120, u121, u122, u123, u124, u125, u126, u127, u128, u129, u130, u131, u132, u133, u134, u135, u136, u137, u138, u139, u140, u141, u142, u143, u144, u145, u146, u147, u148, u149, u150, u151, u152, u153, u154, u155, u156, u157, u158, u159, u160, u161, u162, u163, u164, u165, u166, u167, u168, u169, u170, u171, u172, u173, u174, u175, u176, u177, u178, u179, u180, u181, u182, u183, u184, u185, u186, u187, u188, u189, u190, u191, u192, u193, u194, u195, u196, u197, u198, u199, u200, u201, u202, u203, u204, u205, u206, u207, u208, u209, u210, u211, u212, u213, u214, u215, u216, u217, u218, u219, u220, u221, u222, u223, u224, u225, u226, u227, u228, u229, u230, u231, u232, u233, u234, u235, u236, u237, u238, u239, u240, u241, u242, u243, u244, u245, u246, u247, u248, u249, u250, u251, u252, u253, u254, u255, u256, u257, u258, u259, u260, u261, u262, u263, u264, u265, u266, u267, u268, u269, u270, u271, u272, u273, u274, u275, u276], []⟩ wc := by
  conv => arg 2; whnf
  obtain ⟨sp, h12, bX⟩ := gm.ks
  obtain ⟨n1, n2, n3, n4, n5, n6⟩ := gm.nes
  have cF := gm.blk.cell 0
  have fF := gm.blk.frozen 0
  simp only [List.getElem?_cons_zero, List.getElem?_cons_succ] at cF
  have hlen : (kCells ts).length = N := by rw [← unhide hNH]; simp [kCells, hCells, vCells]
  rw [hlen] at cF
  have hiL : i < (kCells ts).length := by omega
  obtain ⟨sp', ho1, ho2⟩ := over_erase (kCells ts) sp i hiL
  have hel : ((kCells ts).eraseIdx i).length = N - 1 := by rw [List.length_eraseIdx, if_pos hiL, hlen]
  have ho1H := hide ho1
  have helH := hide hel
  have hlenH := hide hlen
  have h12H := hide h12
  clear ho1 hel hlen
  have e2 : (i : Int) + 1 - 1 = (i : Int) := by omega
  have e4 : IntKind.i64.wrap ((i : Int) + 1 - 1) = (i : Int) := by rw [IntKind.wrap_i64]; omega
  have e5 : IntKind.i64.wrap (i : Int) = (i : Int) := by rw [IntKind.wrap_i64]; omega
  have x2 : (0 : Int) ≤ (i : Int) := by omega
  have y1 : (i : Int) ≤ 12 := by omega
  have y2 : (0 : Int) ≤ (i : Int) + 1 := by omega
  have y3 : (i : Int) + 1 ≤ (N : Int) := by omega
  have y4 : ((i : Int) + 1).toNat = i + 1 := by omega
  by_cases hcap : i = 11
  · subst hcap
    have hN12 : N = 12 := by omega
    subst hN12
    clear h12
    have z1 : IntKind.i64.wrap 11 = 11 := by decide
    have z2 : IntKind.i64.wrap 12 = 12 := by decide
    have z3 : IntKind.i64.wrap (11 + 1 - 1) = 11 := by decide
    go_region_law (fail)
    all_goals
      have c1 : Chg (fun k => k = g ∨ k = a) wc (wc.setCell ⟨g, 0, none⟩ (.slice (some ⟨a, 0, none⟩) 11 12)).drew := (Chg.setCell (S := fun k => k = g ∨ k = a) (p := ⟨g, 0, none⟩) (Chg.refl _ _) (.inl (.inl rfl)) _).drew
      have fact : Chg (gown g a b v) w (wc.setCell ⟨g, 0, none⟩ (.slice (some ⟨a, 0, none⟩) 11 12)).drew ∧ Own3 w (wc.setCell ⟨g, 0, none⟩ (.slice (some ⟨a, 0, none⟩) 11 12)).drew 4 oa ob oc os ot ∧ Gm (wc.setCell ⟨g, 0, none⟩ (.slice (some ⟨a, 0, none⟩) 11 12)).drew g a b v ((kCells ts).eraseIdx 11) (hCells ts) (vCells ts) p := by
        refine ⟨(chw.setCell (.inl (.inl rfl)) _).drew, ⟨(ho.o.set_other (show w.heap.size ≠ g by omega) _).drew, (ho.r.set_other (show w.heap.size + 1 ≠ g by omega) _).drew, (ho.w.set_other (show w.heap.size + 2 ≠ g by omega) _).drew⟩, gm.setK c1 ?_ ⟨sp', by rw [ho2]; exact unhide h12H, ?_⟩⟩
        · rw [unhide helH]; exact (gm.blk.set 0 _).drew
        · rw [← unhide ho1H, List.drop_eq_nil_of_le (by rw [unhide hlenH]; omega)]
          exact (bX.set_other (Ne.symm n1) _).drew
      exact unhide hQH _ _ _ _ _ _ _ _ _ _ _ _ _ _ _ _ _ _ fact
  · have hc2 : ¬ 12 = i + 1 := by omega
    have sn := tail_side (bX.drew) (unhide h12H) i (i + 1) (by omega)
    have sl : Hid (((kCells ts).drop (i + 1)).length = (N - (i + 1)) * 1) := by show _ = _; rw [List.length_drop, unhide hlenH]; omega
    have so : Hid (One ((kCells ts).drop (i + 1))) := (one_k ts).drop _
    have ss := spare_side (bX.drew) (unhide h12H) i (N - (i + 1)) (by omega) ((kCells ts).drop (i + 1)) (by rw [List.length_drop, unhide hlenH])
    have bg2 : Blk (wc.drew.setCells a i ((kCells ts).drop (i + 1))) g 42 _ := Blk.setCells_other n1 _ _ gm.blk.drew
    have cg2' := bg2.cell 0
    have fg2' := bg2.frozen 0
    simp only [List.getElem?_cons_zero, List.getElem?_cons_succ] at cg2'
    rw [unhide hlenH] at cg2'
    have hwi : i + (N - (i + 1)) = N - 1 := by omega
    clear h12
    obtain ⟨i3, hi3, hz30, hz31, hz32⟩ := info_parts info3
    go_region_law (refine step_append_room rfl (.tmp 169) (.tmp 175) 39 rfl 3 i3 1 Try.underlying39 hi3 hz31 a 0 i 12 (by simp [Act.eval, Act.put]) ⟨a, i + 1, none⟩ (N - (i + 1)) (12 - (i + 1)) ((kCells ts).drop (i + 1)) (by simp [Act.eval, Act.put]) sl.out sn.out so.out (by omega) ss.out ?_)
    all_goals
      have c0 : Chg (fun k => k = g ∨ k = a) wc (wc.drew.setCells a i ((kCells ts).drop (i + 1))) := Chg.setCells (S := fun k => k = g ∨ k = a) (.inl (.inr rfl)) _ _ (Chg.refl _ _).drew
      have c1 : Chg (fun k => k = g ∨ k = a) wc ((wc.drew.setCells a i ((kCells ts).drop (i + 1))).setCell ⟨g, 0, none⟩ (.slice (some ⟨a, 0, none⟩) (N - 1) 12)) := c0.setCell (p := ⟨g, 0, none⟩) (.inl (.inl rfl)) _
      have fact : Chg (gown g a b v) w ((wc.drew.setCells a i ((kCells ts).drop (i + 1))).setCell ⟨g, 0, none⟩ (.slice (some ⟨a, 0, none⟩) (N - 1) 12)) ∧ Own3 w ((wc.drew.setCells a i ((kCells ts).drop (i + 1))).setCell ⟨g, 0, none⟩ (.slice (some ⟨a, 0, none⟩) (N - 1) 12)) 4 oa ob oc os ot ∧ Gm ((wc.drew.setCells a i ((kCells ts).drop (i + 1))).setCell ⟨g, 0, none⟩ (.slice (some ⟨a, 0, none⟩) (N - 1) 12)) g a b v ((kCells ts).eraseIdx i) (hCells ts) (vCells ts) p := by
        refine ⟨chw.trans (c1.mono ?_), ⟨c1.blk ho.o ?_, c1.blk ho.r ?_, c1.blk ho.w ?_⟩, gm.setK c1 ?_ ⟨sp', by rw [ho2]; exact unhide h12H, ?_⟩⟩
        · rintro k _ (h | h); exact .inl h; exact .inr (.inl h)
        · omega
        · omega
        · omega
        · rw [unhide helH]; exact bg2.set 0 _
        · rw [← unhide ho1H]
          exact (Blk.setCells _ _ bX.drew).set_other (Ne.symm n1) _
      exact unhide hQH _ _ _ _ _ _ _ _ _ _ _ _ _ _ _ _ _ _ fact
end Go.Proofs.Qxb6500361a
