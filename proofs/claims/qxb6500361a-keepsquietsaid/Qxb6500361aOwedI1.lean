/-
  owed, Put of a new key: region 16. Written by gen_reg.py.
-/
import Derived.Test.Qxb6500361aOwedR
import Derived.Test.Qxb6500361aRow
namespace Go.Proofs.Qxb6500361a
open Go.RowKit Go.Qx
set_option linter.unusedSimpArgs false
set_option linter.unusedVariables false

set_option maxRecDepth 100000 in
set_option maxHeartbeats 16000000 in
theorem ins_r16 (w : World) (g a b v : Nat) (ts : List K3) (p : ByteArray) (oa ob oc : Int) (os ot : ByteArray) (th J N : Nat) (hNH : Hid (ts.length = N)) (hJ : J ≤ N) (hl : N < 12)
    (lg : g < w.heap.size) (la : a < w.heap.size) (lb : b < w.heap.size) (lv : v < w.heap.size) (wc : World)
    (chw : Chg (gown g a b v) w wc) (ho : Own3 w wc 2 oa ob oc os ot) (gm : Gm wc g a b v ((kCells ts).take J ++ (Value.int .i64 oa) :: (kCells ts).drop J) (hCells ts) (vCells ts) p)
    (u1 u2 u3 u5 u6 u7 u8 u10 u12 u13 u14 u15 u16 u17 u18 u19 u20 u21 u22 u23 u24 u25 u26 u27 u28 u29 u30 u31 u32 u33 u34 u35 u36 u37 u38 u39 u40 u41 u42 u43 u44 u45 u46 u47 u48 u49 u50 u51 u52 u53 u54 u55 u56 u57 u58 u59 u60 u61 u62 u63 u64 u65 u66 u67 u68 u69 u70 u71 u72 u73 u74 u75 u76 u77 u78 u79 u80 u81 u82 u83 u84 u85 u86 u87 u88 u89 u90 u91 u92 u93 u94 u95 u96 u97 u98 u99 u100 u101 u102 u103 u104 u105 u106 u107 u108 u109 u110 u111 u112 u113 u114 u115 u116 u117 u118 u119 u120 u121 u122 u123 u124 u125 u126 u127 u128 u129 u130 u131 u132 u133 u134 u135 u136 u137 u138 u139 u140 u141 u142 u143 u144 u145 u146 u147 u148 u149 u150 u151 u152 u153 u154 u155 u156 u157 u158 u159 u160 u161 u162 u163 u164 u165 u166 u167 u168 u169 u170 u171 u172 u173 u174 u175 u176 u177 u178 u179 u180 u181 u182 u183 u184 u185 u186 u187 u188 u189 u190 u191 u192 u193 u194 u195 u196 u197 u198 u199 u200 u201 u202 u203 u204 u205 u206 u207 u208 u209 u210 u211 u212 u213 u214 u215 u216 u217 u218 u219 u220 u221 u222 u223 u224 u225 u226 u227 u228 u229 u230 u231 u232 u233 u234 u235 u236 u237 u238 u239 u240 u241 u242 u243 u244 u245 u246 u247 u248 u249 u250 u251 u252 u253 u254 u255 u256 u257 u258 u259 u260 u261 u262 u263 u264 u265 u266 u267 u268 u269 u270 u271 u272 u273 u274 u275 u276 : Value) (K : Act → World → Prop) (Z : Exit → World → Prop)
    (hQH : Hid (∀ (x101 x102 x103 x104 x105 x106 x107 x108 x109 x110 x111 x112 x113 x114 x115 x116 x117 x118 x119 : Value) (wx : World), Chg (gown g a b v) w wx ∧ Own3 w wx 2 oa ob oc os ot ∧ Gm wx g a b v ((kCells ts).take J ++ (Value.int .i64 oa) :: (kCells ts).drop J) ((hCells ts).take J ++ (Value.int .i64 (th : Nat)) :: (hCells ts).drop J) (vCells ts) p → K ⟨#[.pointer (some ⟨g, 0, none⟩), u1, u2, u3, .pointer (some ⟨w.heap.size, 0, none⟩), u5, u6, u7, u8, .int .i64 (J : Int), u10, .int .i64 (th : Nat), u12, u13, u14, u15, u16, u17, u18, u19, u20, u21, u22, u23, u24, u25, u26, u27, u28, u29, u30, u31, u32, u33, u34, u35, u36, u37, u38, u39, u40, u41, u42, u43, u44, u45, u46, u47, u48, u49, u50, u51, u52, u53, u54, u55, u56, u57, u58, u59, u60, u61, u62, u63, u64, u65, u66, u67, u68, u69, u70, u71, u72, u73, u74, u75, u76, u77, u78, u79, u80, u81, u82, u83, u84, u85, u86, u87, u88, u89, u90, u91, u92, u93, u94, u95, u96, u97, u98, u99, u100, x101, x102, x103, x104, x105, x106, x107, x108, x109, x110, x111, x112, x113, x114, x115, x116, x117, x118, x119, u120, u121, u122, u123, u124, u125, u126, u127, u128, u129, u130, u131, u132, u133, u134, u135, u136, u137, u138, u139, u140, u141, u142, u143, u144, u145, u146, u147, u148, u149, u150, u151, u152, u153, u154, u155, u156, u157, u158, u159, u160, u161, u162, u163, u164, u165, u166, u167, u168, u169, u170, u171, u172, u173, u174, u175, u176, u177, u178, u179, u180, u181, u182, u183, u184, u185, u186, u187, u188, u189, u190, u191, u192, u193, u194, u195, u196, u197, u198, u199, u200, u201, u202, u203, u204, u205, u206, u207, u208, u209, u210, u211, u212, u213, u214, u215, u216, u217, u218, u219, u220, u221, u222, u223, u224, u225, u226, u227, u228, u229, u230, u231, u232, u233, u234, u235, u236, u237, u238, u239, u240, u241, u242, u243, u244, u245, u246, u247, u248, u249, u250, u251, u252, u253, u254, u255, u256, u257, u258, u259, u260, u261, u262, u263, u264, u265, u266, u267, u268, u269, u270, u271, u272, u273, u274, u275, u276], []⟩ wx)) :
    Code.wp Try.prog (reg 16) (blind K Z) ⟨#[.pointer (some ⟨g, 0, none⟩), u1, u2, u3, .pointer (some ⟨w.heap.size, 0, none⟩), u5, u6, u7, u8, .int .i64 (J : Int), u10, .int .i64 (th : Nat), u12, u13, u14, u15, u16, u17, u18, u19, u20, u21, u22, u23, u24, u25, u26, u27, u28, u29, u30, u31, u32, u33, u34, u35, u36, u37, u38, u39, u40, u41, u42, u43, u44, u45, u46, u47, u48, u49, u50, u51, u52, u53, u54, u55, u56, u57, u58, u59, u60, u61, u62, u63, u64, u65, u66, u67, u68, u69, u70, u71, u72, u73, u74, u75, u76, u77, u78, u79, u80, u81, u82, u83, u84, u85, u86, u87, u88, u89, u90, u91, u92, u93, u94, u95, u96, u97, u98, u99, u100, u101, u102, u103, u104, u105, u106, u107, u108, u109, u110, u111, u112, u113, u114, u115, u116, u117, u118, u119, u120, u121, u122, u123, u124, u125, u126, u127, u128, u129, u130, u131, u132, u133, u134, u135, u136, u137, u138, u139, u140, u141, u142, u143, u144, u145, u146, u147, u148, u149, u150, u151, u152, u153, u154, u155, u156, u157, u158, u159, u160, u161, u162, u163, u164, u165, u166, u167, u168, u169, u170, u171, u172, u173, u174, u175, u176, u177, u178, u179, u180, u181, u182, u183, u184, u185, u186, u187, u188, u189, u190, u191, u192, u193, u194, u195, u196, u197, u198, u199, u200, u201, u202, u203, u204, u205, u206, u207, u208, u209, u210, u211, u212, u213, u214, u215, u216, u217, u218, u219, u220, u221, u222, u223, u224, u225, u226, u227, u228, u229, u230, u231, u232, u233, u234, u235, u236, u237, u238, u239, u240, u241, u242, u243, u244, u245, u246, u247, u248, u249, u250, u251, u252, u253, u254, u255, u256, u257, u258, u259, u260, u261, u262, u263, u264, u265, u266, u267, u268, u269, u270, u271, u272, u273, u274, u275, u276], []⟩ wc := by
  conv => arg 2; whnf
  obtain ⟨sp, h12, bX⟩ := gm.hs
  obtain ⟨n1, n2, n3, n4, n5, n6⟩ := gm.nes
  have cF := gm.blk.cell 1
  have fF := gm.blk.frozen 1
  simp only [List.getElem?_cons_zero, List.getElem?_cons_succ] at cF
  have hlen : (hCells ts).length = N := by rw [← unhide hNH]; simp [kCells, hCells, vCells]
  rw [hlen] at cF
  have hspl : 0 < sp.length := by rw [List.length_append, hlen] at h12; omega
  obtain ⟨sp', ho1, ho2⟩ := over_insert (hCells ts) sp (Value.int .i64 (th : Nat)) J (by omega) hspl
  have hel : ((hCells ts).take J ++ (Value.int .i64 (th : Nat)) :: (hCells ts).drop J).length = N + 1 := by simp [hlen]; omega
  have ho1H := hide ho1
  have ho2H := hide ho2
  have helH := hide hel
  have hlenH := hide hlen
  have h12H := hide h12
  clear ho1 hel hlen ho2
  have y1 : (0 : Int) ≤ (J : Int) := by omega
  have y2 : (J : Int) ≤ (N : Int) := by omega
  have y3 : (J : Int) ≤ 12 := by omega
  have y5 : ¬ 12 = J := by omega
  have yo1 := ho.o.cell 1
  have yo4 := ho.o.cell 4
  simp only [List.getElem?_cons_zero, List.getElem?_cons_succ] at yo1 yo4
  have hszw : w.heap.size + 2 < wc.heap.size := ho.w.lt
  have bgA := gm.blk.alloc (.cells #[(Value.int .i64 (th : Nat))] 3)
  have cA := bgA.cell 1
  have fA := bgA.frozen 1
  simp only [List.getElem?_cons_zero, List.getElem?_cons_succ] at cA
  rw [unhide hlenH] at cA
  have boA := ho.o.alloc (.cells #[(Value.int .i64 (th : Nat))] 3)
  have zo1 := boA.cell 1
  have zo4 := boA.cell 4
  simp only [List.getElem?_cons_zero, List.getElem?_cons_succ] at zo1 zo4
  have bXA := bX.alloc (.cells #[(Value.int .i64 (th : Nat))] 3)
  have bDA := Blk.new wc 3 [(Value.int .i64 (th : Nat))]
  have hgl := gm.blk.lt
  have hXl := bX.lt
  have nD1 : wc.heap.size ≠ g := by omega
  have nD2 : wc.heap.size ≠ b := by omega
  have chA : Chg (fun k => k = g ∨ k = b) wc (wc.alloc (.cells #[(Value.int .i64 (th : Nat))] 3)) := (Chg.refl _ _).alloc _
  clear h12
  by_cases hJN : J = N
  · subst hJN
    have eN := bXA.cell J
    have fN := bXA.frozen J
    obtain ⟨u0, sp0, rfl⟩ : ∃ u0 sp0, sp = u0 :: sp0 := by cases sp with | nil => simp at hspl | cons u s => exact ⟨u, s, rfl⟩
    rw [List.getElem?_append_right (by rw [unhide hlenH]; omega), unhide hlenH] at eN
    simp only [Nat.sub_self, List.getElem?_cons_zero] at eN
    have hr1 : J + 1 ≤ 12 := by omega
    go_region_law (fail)
    all_goals
      have c9 : Chg (fun k => k = g ∨ k = b) wc (((wc.setCell ⟨b, J, none⟩ (Value.int .i64 (th : Nat))).setCell ⟨g, 1, none⟩ (.slice (some ⟨b, 0, none⟩) (J + 1) 12)).alloc (.cells #[(Value.int .i64 (th : Nat))] 3)).drew := ((((Chg.refl (fun k => k = g ∨ k = b) wc).setCell (p := ⟨b, J, none⟩) (.inl (.inr rfl)) _).setCell (p := ⟨g, 1, none⟩) (.inl (.inl rfl)) _).alloc _).drew
      have bg9 : Blk (((wc.setCell ⟨b, J, none⟩ (Value.int .i64 (th : Nat))).setCell ⟨g, 1, none⟩ (.slice (some ⟨b, 0, none⟩) (J + 1) 12)).alloc (.cells #[(Value.int .i64 (th : Nat))] 3)).drew g 42 _ := (((gm.blk.set_other (a := ⟨b, J, none⟩) n2 _).set 1 _).alloc _).drew
      have bX9 : Blk (((wc.setCell ⟨b, J, none⟩ (Value.int .i64 (th : Nat))).setCell ⟨g, 1, none⟩ (.slice (some ⟨b, 0, none⟩) (J + 1) 12)).alloc (.cells #[(Value.int .i64 (th : Nat))] 3)).drew b 3 (over (hCells ts ++ u0 :: sp0) J ((Value.int .i64 (th : Nat)) :: (hCells ts).drop J)) := by
        rw [List.drop_eq_nil_of_le (by rw [unhide hlenH]; omega)]
        exact (((bX.set J (Value.int .i64 (th : Nat))).set_other (a := ⟨g, 1, none⟩) (Ne.symm n2) _).alloc _).drew
      have fact : Chg (gown g a b v) w (((wc.setCell ⟨b, J, none⟩ (Value.int .i64 (th : Nat))).setCell ⟨g, 1, none⟩ (.slice (some ⟨b, 0, none⟩) (J + 1) 12)).alloc (.cells #[(Value.int .i64 (th : Nat))] 3)).drew ∧ Own3 w (((wc.setCell ⟨b, J, none⟩ (Value.int .i64 (th : Nat))).setCell ⟨g, 1, none⟩ (.slice (some ⟨b, 0, none⟩) (J + 1) 12)).alloc (.cells #[(Value.int .i64 (th : Nat))] 3)).drew 2 oa ob oc os ot ∧ Gm (((wc.setCell ⟨b, J, none⟩ (Value.int .i64 (th : Nat))).setCell ⟨g, 1, none⟩ (.slice (some ⟨b, 0, none⟩) (J + 1) 12)).alloc (.cells #[(Value.int .i64 (th : Nat))] 3)).drew g a b v ((kCells ts).take J ++ (Value.int .i64 oa) :: (kCells ts).drop J) ((hCells ts).take J ++ (Value.int .i64 (th : Nat)) :: (hCells ts).drop J) (vCells ts) p := by
        refine ⟨chw.trans (c9.mono ?_), ⟨c9.blk ho.o ?_, c9.blk ho.r ?_, c9.blk ho.w ?_⟩, gm.setH c9 ?_ ⟨sp', by rw [unhide ho2H]; exact unhide h12H, ?_⟩⟩
        · rintro k _ (h | h); exact .inl h; exact .inr (.inr (.inl h))
        · omega
        · omega
        · omega
        · rw [unhide helH]; exact bg9
        · rw [← unhide ho1H]; exact bX9
      exact unhide hQH _ _ _ _ _ _ _ _ _ _ _ _ _ _ _ _ _ _ _ _ fact
  · have hJlt : J < N := by omega
    obtain ⟨i3, hi3, hz30, hz31, hz32⟩ := info_parts info3
    have hrow : Row (wc.alloc (.cells #[(Value.int .i64 (th : Nat))] 3)) 3 1 (.slice (some ⟨wc.heap.size, 0, none⟩) 1 1) 1 [(Value.int .i64 (th : Nat))] := Row.of_blk (spare := []) (by simpa using bDA) rfl (by omega) (by unfold maxLen; omega) rfl
    have hsl : Hid (((hCells ts).drop J).length = (N - J) * 1) := by show _ = _; rw [List.length_drop, unhide hlenH]; omega
    have hsn := tail_side (bXA.drew) (unhide h12H) J J (by rw [unhide hlenH]; omega)
    have hso : Hid (One ((hCells ts).drop J)) := (one_h ts).drop _
    have hwi : J + (1 + (N - J)) = N + 1 := by omega
    go_region_law
      (first
        | (refine step_append_row rfl (.tmp 109) (.tmp 115) 39 rfl 3 i3 _ 1 8 Try.underlying39 hi3 hz30 hz31 hz32 rfl (by omega) (.slice (some ⟨wc.heap.size, 0, none⟩) 1 1) 1 [(Value.int .i64 (th : Nat))] (by simp [Act.eval, Act.put]) (hrow.quiet ((Chg.refl _ _).drew)) ⟨b, J, none⟩ (N - J) (12 - J) ((hCells ts).drop J) (by simp [Act.eval, Act.put]) hsl.out hsn.out hso.out (by omega) (by unfold maxLen; omega) (by omega) (wc.heap.size + 1) (by simp) ?_
           intro gn capn w3 row3 ch3 hat hltg
           obtain ⟨sp3, b3, hc31, hc32, hc33⟩ := row3.some_form
           have bX3 := ch3.blk (bXA.drew) (by simp [Value.ownBlock]; omega)
           have bg3 := ch3.blk (bgA.drew) (by simp [Value.ownBlock]; omega)
           have cg3 := bg3.cell 1
           simp only [List.getElem?_cons_zero, List.getElem?_cons_succ] at cg3
           rw [unhide hlenH] at cg3
           have sl2 : Hid (((Value.int .i64 (th : Nat)) :: (hCells ts).drop J).length = (1 + (N - J)) * 1) := by show _ = _; rw [List.length_cons, unhide hsl]; omega
           have sn2 : Hid (∀ k u, ((Value.int .i64 (th : Nat)) :: (hCells ts).drop J)[k]? = some u → w3.cell? ((⟨gn, 0, none⟩ : Addr).add k) = some u) := fun k u hu => by
             rw [Addr.add_lit, b3.cell, Nat.zero_add, List.getElem?_append_left (show k < ([(Value.int .i64 (th : Nat))] ++ (hCells ts).drop J).length from (List.getElem?_eq_some_iff.1 hu).1)]; exact hu
           have so2 : Hid (One ((Value.int .i64 (th : Nat)) :: (hCells ts).drop J)) := fun u hu => by
             rcases List.mem_cons.1 hu with h | h
             · subst h; rfl
             · exact unhide hso u h
           have ss2 := spare_side bX3 (unhide h12H) J (1 + (N - J)) (by omega) ((Value.int .i64 (th : Nat)) :: (hCells ts).drop J) (by rw [unhide sl2]; omega)
           have bg4 : Blk (w3.setCells b J ((Value.int .i64 (th : Nat)) :: (hCells ts).drop J)) g 42 _ := Blk.setCells_other n2 _ _ bg3
           have cg4 := bg4.cell 1
           have fg4 := bg4.frozen 1
           simp only [List.getElem?_cons_zero, List.getElem?_cons_succ] at cg4
           rw [unhide hlenH] at cg4)
        | (refine step_append_room rfl (.tmp 107) (.tmp 116) 39 rfl 3 i3 1 Try.underlying39 hi3 hz31 b 0 J 12 (by simp [Act.eval, Act.put]) ⟨gn, 0, none⟩ (1 + (N - J)) capn ((Value.int .i64 (th : Nat)) :: (hCells ts).drop J) (by simp [Act.eval, Act.put]) sl2.out sn2.out so2.out (by omega) ss2.out ?_))
    all_goals
      have c3 : Chg (fun k => k = g ∨ k = b) wc w3 := Chg.trans' chA.drew ch3 (fun k hk h => by simp [Value.ownBlock] at h; omega)
      have c9 : Chg (fun k => k = g ∨ k = b) wc ((w3.setCells b J ((Value.int .i64 (th : Nat)) :: (hCells ts).drop J)).setCell ⟨g, 1, none⟩ (.slice (some ⟨b, 0, none⟩) (N + 1) 12)) := (Chg.setCells (.inl (.inr rfl)) _ _ c3).setCell (p := ⟨g, 1, none⟩) (.inl (.inl rfl)) _
      have bg9 : Blk ((w3.setCells b J ((Value.int .i64 (th : Nat)) :: (hCells ts).drop J)).setCell ⟨g, 1, none⟩ (.slice (some ⟨b, 0, none⟩) (N + 1) 12)) g 42 _ := bg4.set 1 _
      have bX9 : Blk ((w3.setCells b J ((Value.int .i64 (th : Nat)) :: (hCells ts).drop J)).setCell ⟨g, 1, none⟩ (.slice (some ⟨b, 0, none⟩) (N + 1) 12)) b 3 (over (hCells ts ++ sp) J ((Value.int .i64 (th : Nat)) :: (hCells ts).drop J)) := (Blk.setCells _ _ bX3).set_other (a := ⟨g, 1, none⟩) (Ne.symm n2) _
      have fact : Chg (gown g a b v) w ((w3.setCells b J ((Value.int .i64 (th : Nat)) :: (hCells ts).drop J)).setCell ⟨g, 1, none⟩ (.slice (some ⟨b, 0, none⟩) (N + 1) 12)) ∧ Own3 w ((w3.setCells b J ((Value.int .i64 (th : Nat)) :: (hCells ts).drop J)).setCell ⟨g, 1, none⟩ (.slice (some ⟨b, 0, none⟩) (N + 1) 12)) 2 oa ob oc os ot ∧ Gm ((w3.setCells b J ((Value.int .i64 (th : Nat)) :: (hCells ts).drop J)).setCell ⟨g, 1, none⟩ (.slice (some ⟨b, 0, none⟩) (N + 1) 12)) g a b v ((kCells ts).take J ++ (Value.int .i64 oa) :: (kCells ts).drop J) ((hCells ts).take J ++ (Value.int .i64 (th : Nat)) :: (hCells ts).drop J) (vCells ts) p := by
        refine ⟨chw.trans (c9.mono ?_), ⟨c9.blk ho.o ?_, c9.blk ho.r ?_, c9.blk ho.w ?_⟩, gm.setH c9 ?_ ⟨sp', by rw [unhide ho2H]; exact unhide h12H, ?_⟩⟩
        · rintro k _ (h | h); exact .inl h; exact .inr (.inr (.inl h))
        · omega
        · omega
        · omega
        · rw [unhide helH]; exact bg9
        · rw [← unhide ho1H]; exact bX9
      exact unhide hQH _ _ _ _ _ _ _ _ _ _ _ _ _ _ _ _ _ _ _ _ fact
end Go.Proofs.Qxb6500361a
