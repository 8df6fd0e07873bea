/-
  walk: region 20. Written by gen_walk.py.
-/
import Derived.Test.Qxb6500367aWalkR
namespace Go.Proofs.Qxb6500367a
open Go.RowKit Go.Qx
set_option linter.unusedSimpArgs false
set_option linter.unusedVariables false

set_option maxRecDepth 100000 in
set_option maxHeartbeats 16000000 in
theorem walk_r20 (w wc : World) (O v : Nat) (L : List NP) (vX vM vW : Value) (nW : Nat) (F : Fr w.heap.size wc v vX (pxs L) vM (pms L) vW nW L)
    (o1 : v ≠ O) (o2 : vX.ownBlock ≠ some O) (o3 : vM.ownBlock ≠ some O) (o4 : vW.ownBlock ≠ some O) (o5 : ∀ p ∈ L, ¬ p.own O) (hL4 : L.length ≤ 4) (hch : Chg (fun k => w.heap.size ≤ k) w wc) (hwO : w.heap.size ≤ O)
    (k a b c : Int) (S T : ByteArray) (bo : Blk wc O 44 [.int .i64 k, .int .i64 a, .int .i64 b, .int .i64 c, .string S, .string T])
    (u0 u1 u2 u3 u4 u5 u7 u9 u10 u11 u12 u13 u14 u15 u16 u17 u18 u19 u20 u21 u22 u23 u24 u25 u26 u27 u28 u29 u30 u31 u32 u33 u34 u35 u36 u37 u38 u39 u40 u41 u42 u43 u44 u45 u46 u47 u48 u49 u50 u51 u52 u53 u54 u55 u56 u57 u58 u59 u60 u61 u62 u63 u64 u65 u66 u67 u68 u69 u70 u71 u72 u73 u74 u75 u76 u77 u78 u79 u80 u81 u82 u83 u84 u85 u86 u87 u88 u89 u90 u91 u92 u93 u94 u95 u96 u97 u98 u99 u100 u101 u102 u103 u104 u105 u106 u107 u108 u109 u110 u111 u112 u113 u114 u115 u116 u117 u118 u119 u120 u121 u122 u123 u124 u125 u126 u127 u128 u129 u130 u131 u132 u133 u134 u135 u136 u137 u138 u139 u140 u141 u142 u143 u144 u145 u146 u147 u148 u149 u150 u151 u152 u153 u154 u155 u156 u157 u158 u159 u160 u161 u162 u163 u164 u165 u166 u167 : Value) (K : Act → World → Prop) (Z : Exit → World → Prop)
    (hQH : Hid (∀ (x82 x83 x84 x85 x86 x87 x88 x89 x90 x91 x92 x93 x94 x95 x96 : Value) (wx : World), Mid w O (ptr v) wx → K ⟨#[u0, u1, u2, u3, u4, u5, .pointer (some ⟨v, 0, none⟩), u7, .pointer (some ⟨O, 0, none⟩), u9, u10, u11, u12, u13, u14, u15, u16, u17, u18, u19, u20, u21, u22, u23, u24, u25, u26, u27, u28, u29, u30, u31, u32, u33, u34, u35, u36, u37, u38, u39, u40, u41, u42, u43, u44, u45, u46, u47, u48, u49, u50, u51, u52, u53, u54, u55, u56, u57, u58, u59, u60, u61, u62, u63, u64, u65, u66, u67, u68, u69, u70, u71, u72, u73, u74, u75, u76, u77, u78, u79, u80, u81, x82, x83, x84, x85, x86, x87, x88, x89, x90, x91, x92, x93, x94, x95, x96, u97, u98, u99, u100, u101, u102, u103, u104, u105, u106, u107, u108, u109, u110, u111, u112, u113, u114, u115, u116, u117, u118, u119, u120, u121, u122, u123, u124, u125, u126, u127, u128, u129, u130, u131, u132, u133, u134, u135, u136, u137, u138, u139, u140, u141, u142, u143, u144, u145, u146, u147, u148, u149, u150, u151, u152, u153, u154, u155, u156, u157, u158, u159, u160, u161, u162, u163, u164, u165, u166, u167], []⟩ wx)) :
    Code.wp Try.prog (reg 20) (blind K Z) ⟨#[u0, u1, u2, u3, u4, u5, .pointer (some ⟨v, 0, none⟩), u7, .pointer (some ⟨O, 0, none⟩), u9, u10, u11, u12, u13, u14, u15, u16, u17, u18, u19, u20, u21, u22, u23, u24, u25, u26, u27, u28, u29, u30, u31, u32, u33, u34, u35, u36, u37, u38, u39, u40, u41, u42, u43, u44, u45, u46, u47, u48, u49, u50, u51, u52, u53, u54, u55, u56, u57, u58, u59, u60, u61, u62, u63, u64, u65, u66, u67, u68, u69, u70, u71, u72, u73, u74, u75, u76, u77, u78, u79, u80, u81, u82, u83, u84, u85, u86, u87, u88, u89, u90, u91, u92, u93, u94, u95, u96, u97, u98, u99, u100, u101, u102, u103, u104, u105, u106, u107, u108, u109, u110, u111, u112, u113, u114, u115, u116, u117, u118, u119, u120, u121, u122, u123, u124, u125, u126, u127, u128, u129, u130, u131, u132, u133, u134, u135, u136, u137, u138, u139, u140, u141, u142, u143, u144, u145, u146, u147, u148, u149, u150, u151, u152, u153, u154, u155, u156, u157, u158, u159, u160, u161, u162, u163, u164, u165, u166, u167], []⟩ wc := by
  conv => arg 2; whnf
  have c1 := bo.cell 1
  have c2 := bo.cell 2
  have x2 := F.blk.cell 2
  have fx2 := F.blk.frozen 2
  simp at c1 c2 x2
  have hT2 := take_any wc.drew vW nW (F.wi.quiet ((Chg.refl _ wc).drew)) a b
  have hFH := hide F
  have hcp : Hid (∀ V, Chg (fun x => vW.ownBlock = some x) wc.drew V → Blk V v 63 [vX, vM, vW] ∧ Blk V O 44 [.int .i64 k, .int .i64 a, .int .i64 b, .int .i64 c, .string S, .string T]) := by
    intro V hV
    exact ⟨hV.blk F.blk.drew F.wv, hV.blk bo.drew o4⟩
  have o1' := Ne.symm o1
  have hh := hide (And.intro o1 (And.intro o2 (And.intro o3 (And.intro o4 (And.intro o5 (And.intro hL4 (And.intro hch hwO)))))))
  clear F bo o2 o3 o4 o5 hL4 hch hwO
  go_region_with (go_at_call 24; refine hT2.mono ?_; rintro e w2 ⟨v', n', k', a', b', c', rfl, hw2, hc2, ho2⟩; obtain ⟨ao2, cp2, rfl⟩ := hw2.shape; obtain ⟨bv, bo⟩ := unhide hcp w2 hc2; have y2 := bv.cell 2; have fy2 := bv.frozen 2; have z0 := bo.cell 0; have z1 := bo.cell 1; have z2 := bo.cell 2; have z3 := bo.cell 3; have z4 := bo.cell 4; have z5 := bo.cell 5; have fz0 := bo.frozen 0; have fz1 := bo.frozen 1; have fz2 := bo.frozen 2; have fz3 := bo.frozen 3; have fz4 := bo.frozen 4; have fz5 := bo.frozen 5; simp at y2 z0 z1 z2 z3 z4 z5; have hall := hide (And.intro hw2 (And.intro hc2 (And.intro ho2 (And.intro bv bo)))); clear hw2 hc2 ho2 bv bo hT2 hcp x2 fx2 c1 c2; unfold opv)
  all_goals
    obtain ⟨o1, o2, o3, o4, o5, hL4, hch, hwO⟩ := unhide hh
    exact unhide hQH _ _ _ _ _ _ _ _ _ _ _ _ _ _ _ _ (mid_took (unhide hFH) o1 o2 o3 o4 o5 hL4 hch hwO _ _ (unhide hall).1 (unhide hall).2.1 (unhide hall).2.2.1 _ _ _ _ _ _ (unhide hall).2.2.2.2 _ _ _ _)
end Go.Proofs.Qxb6500367a
