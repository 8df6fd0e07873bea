/-
  walk: region 27. Written by gen_walk.py.
-/
import Derived.Test.Qxb6500367aWalkR
namespace Go.Proofs.Qxb6500367a
open Go.RowKit Go.Qx
set_option linter.unusedSimpArgs false
set_option linter.unusedVariables false

set_option maxRecDepth 100000 in
set_option maxHeartbeats 16000000 in
theorem walk_r27 (w wc : World) (O v1 A gX capX N i : Nat) (L : List NP) (vX vM vW : Value) (nW : Nat) (eX : vX = .slice (some ⟨gX, 0, none⟩) N capX) (F : Fr w.heap.size wc v1 vX (pxs L) vM (pms L) vW nW L) (hL4 : L.length ≤ 4) (hN4 : N ≤ 4) (hch : Chg (fun k => w.heap.size ≤ k) w wc)
    (k b c Xn : Int) (S T : ByteArray) (bo : Blk wc O 44 [.int .i64 k, .int .i64 i, .int .i64 b, .int .i64 c, .string S, .string T]) (a1 : wc.cell? ⟨A, 1, none⟩ = some (.int .i64 Xn))
    (u0 u1 u2 u3 u4 u5 u7 u9 u10 u11 u12 u14 u15 u16 u17 u18 u19 u20 u21 u22 u23 u24 u25 u26 u27 u28 u29 u30 u31 u32 u33 u34 u35 u36 u37 u38 u39 u40 u41 u42 u43 u44 u45 u46 u47 u48 u49 u50 u51 u52 u53 u54 u55 u56 u57 u58 u59 u60 u61 u62 u63 u64 u65 u66 u67 u68 u69 u70 u71 u72 u73 u74 u75 u76 u77 u78 u79 u80 u81 u82 u83 u84 u85 u86 u87 u88 u89 u90 u91 u92 u93 u94 u95 u96 u97 u98 u99 u100 u101 u102 u103 u104 u105 u106 u107 u108 u109 u110 u111 u112 u113 u114 u115 u116 u117 u118 u119 u120 u121 u122 u123 u124 u125 u126 u127 u128 u129 u130 u131 u132 u133 u134 u135 u136 u137 u138 u139 u140 u141 u142 u143 u144 u145 u146 u147 u148 u149 u150 u151 u152 u153 u154 u155 u156 u157 u158 u159 u160 u161 u162 u163 u164 u165 u166 u167 : Value) (K : Act → World → Prop) (Z : Exit → World → Prop)
    (hQH : Hid (∀ (x138 x139 x140 x141 x142 x143 x144 x145 x146 x147 x148 x149 x150 x151 x152 x153 : Value) (wx : World), Run w (ptr v1) wx → K ⟨#[u0, u1, u2, u3, u4, u5, .pointer (some ⟨v1, 0, none⟩), u7, .pointer (some ⟨O, 0, none⟩), u9, u10, u11, u12, .pointer (some ⟨A, 0, none⟩), u14, u15, u16, u17, u18, u19, u20, u21, u22, u23, u24, u25, u26, u27, u28, u29, u30, u31, u32, u33, u34, u35, u36, u37, u38, u39, u40, u41, u42, u43, u44, u45, u46, u47, u48, u49, u50, u51, u52, u53, u54, u55, u56, u57, u58, u59, u60, u61, u62, u63, u64, u65, u66, u67, u68, u69, u70, u71, u72, u73, u74, u75, u76, u77, u78, u79, u80, u81, u82, u83, u84, u85, u86, u87, u88, u89, u90, u91, u92, u93, u94, u95, u96, u97, u98, u99, u100, u101, u102, u103, u104, u105, u106, u107, u108, u109, u110, u111, u112, u113, u114, u115, u116, u117, u118, u119, u120, u121, u122, u123, u124, u125, u126, u127, u128, u129, u130, u131, u132, u133, u134, u135, u136, u137, x138, x139, x140, x141, x142, x143, x144, x145, x146, x147, x148, x149, x150, x151, x152, x153, u154, u155, u156, u157, u158, u159, u160, u161, u162, u163, u164, u165, u166, u167], []⟩ wx)) :
    Code.wp Try.prog (reg 27) (blind K Z) ⟨#[u0, u1, u2, u3, u4, u5, .pointer (some ⟨v1, 0, none⟩), u7, .pointer (some ⟨O, 0, none⟩), u9, u10, u11, u12, .pointer (some ⟨A, 0, none⟩), u14, u15, u16, u17, u18, u19, u20, u21, u22, u23, u24, u25, u26, u27, u28, u29, u30, u31, u32, u33, u34, u35, u36, u37, u38, u39, u40, u41, u42, u43, u44, u45, u46, u47, u48, u49, u50, u51, u52, u53, u54, u55, u56, u57, u58, u59, u60, u61, u62, u63, u64, u65, u66, u67, u68, u69, u70, u71, u72, u73, u74, u75, u76, u77, u78, u79, u80, u81, u82, u83, u84, u85, u86, u87, u88, u89, u90, u91, u92, u93, u94, u95, u96, u97, u98, u99, u100, u101, u102, u103, u104, u105, u106, u107, u108, u109, u110, u111, u112, u113, u114, u115, u116, u117, u118, u119, u120, u121, u122, u123, u124, u125, u126, u127, u128, u129, u130, u131, u132, u133, u134, u135, u136, u137, u138, u139, u140, u141, u142, u143, u144, u145, u146, u147, u148, u149, u150, u151, u152, u153, u154, u155, u156, u157, u158, u159, u160, u161, u162, u163, u164, u165, u166, u167], []⟩ wc := by
  conv => arg 2; whnf
  have c0 := bo.cell 0
  have c1 := bo.cell 1
  have c2 := bo.cell 2
  have c3 := bo.cell 3
  have c4 := bo.cell 4
  have c5 := bo.cell 5
  have y0 := F.blk.cell 0
  have y2 := F.blk.cell 2
  have fy2 := F.blk.frozen 2
  simp at c0 c1 c2 c3 c4 c5 y0 y2
  rw [eX] at y0
  have hP := post_any wc.drew vW nW (F.wi.quiet ((Chg.refl _ wc).drew)) N hN4 k i b c S T Xn
  unfold opv at hP
  have hcp : Hid (∀ V, Chg (fun x => vW.ownBlock = some x) wc.drew V → Blk V v1 63 [vX, vM, vW]) := by
    intro V hV
    exact hV.blk F.blk.drew F.wv
  have hFH := hide F
  have hh := hide (And.intro hL4 hch)
  clear F bo hL4 hN4 hch eX
  go_region_with (go_at_call 32; refine hP.mono ?_; rintro e w2 ⟨v', rfl, n', hw2, hc2, ho2⟩; obtain ⟨ao2, cp2, rfl⟩ := hw2.shape; have bw := unhide hcp w2 hc2; have y2' := bw.cell 2; have fy2' := bw.frozen 2; simp at y2'; have hall := hide (And.intro hw2 (And.intro hc2 ho2)); clear hw2 hc2 ho2 bw hP hcp c0 c1 c2 c3 c4 c5 y0 y2 fy2 a1)
  all_goals
    exact unhide hQH _ _ _ _ _ _ _ _ _ _ _ _ _ _ _ _ _ (run_posted (unhide hFH) (unhide hh).1 (unhide hh).2 _ ⟨_, (unhide hall).1, (unhide hall).2.1, (unhide hall).2.2⟩)
end Go.Proofs.Qxb6500367a
