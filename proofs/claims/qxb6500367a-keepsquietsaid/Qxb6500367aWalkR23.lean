/-
  walk: region 23. Written by gen_walk.py.
-/
import Derived.Test.Qxb6500367aWalkR
namespace Go.Proofs.Qxb6500367a
open Go.RowKit Go.Qx
set_option linter.unusedSimpArgs false
set_option linter.unusedVariables false

set_option maxRecDepth 100000 in
set_option maxHeartbeats 16000000 in
theorem walk_r23 (wd : World) (O v1 gX capX N i : Nat) (hiN : i < N) (p : NP) (s' : Nd) (X : An) (k b c : Int) (S T : ByteArray)
    (y0 : wd.cell? ⟨v1, 1, none⟩ = some (.slice (some ⟨gX, 0, none⟩) N capX)) (x0 : wd.cell? ⟨gX, i, none⟩ = some (.pointer (some ⟨p.m, 0, none⟩))) (bo : Blk wd O 44 [.int .i64 k, .int .i64 i, .int .i64 b, .int .i64 c, .string S, .string T])
    (nv : ¬ ownM p.m p.c v1) (nx : ¬ ownM p.m p.c gX) (no : ¬ ownM p.m p.c O) (hSr : ∀ k, ownM p.m p.c k → k < wd.heap.size)
    (hD : ∀ V, Quiet wd V → Calls Try.prog 31 #[.pointer (some ⟨p.m, 0, none⟩), .agg #[.int .i64 k, .int .i64 i, .int .i64 b, .int .i64 c, .string S, .string T]] V fun e w' => e = .returned (.agg #[.int .i64 X.e, .int .i64 X.n, .int .i64 X.m, .string X.s]) ∧ Chg (ownM p.m p.c) V w' ∧ RepM w' p.m p.c (modelOf s'))
    (u0 u1 u2 u3 u4 u5 u7 u9 u10 u11 u12 u13 u14 u15 u16 u17 u18 u19 u20 u21 u22 u23 u24 u25 u26 u27 u28 u29 u30 u31 u32 u33 u34 u35 u36 u37 u38 u39 u40 u41 u42 u43 u44 u45 u46 u47 u48 u49 u50 u51 u52 u53 u54 u55 u56 u57 u58 u59 u60 u61 u62 u63 u64 u65 u66 u67 u68 u69 u70 u71 u72 u73 u74 u75 u76 u77 u78 u79 u80 u81 u82 u83 u84 u85 u86 u87 u88 u89 u90 u91 u92 u93 u94 u95 u96 u97 u98 u99 u100 u101 u102 u103 u104 u105 u106 u107 u108 u109 u110 u111 u112 u113 u114 u115 u116 u117 u118 u119 u120 u121 u122 u123 u124 u125 u126 u127 u128 u129 u130 u131 u132 u133 u134 u135 u136 u137 u138 u139 u140 u141 u142 u143 u144 u145 u146 u147 u148 u149 u150 u151 u152 u153 u154 u155 u156 u157 u158 u159 u160 u161 u162 u163 u164 u165 u166 u167 : Value) (K : Act → World → Prop) (Z : Exit → World → Prop)
    (hQH : Hid (∀ (x14 x120 x121 x122 x123 x124 x125 x126 x127 x128 x129 : Value) (wx : World), HalfM wd p s' X x14 wx → K ⟨#[u0, u1, u2, u3, u4, u5, .pointer (some ⟨v1, 0, none⟩), u7, .pointer (some ⟨O, 0, none⟩), u9, u10, u11, u12, u13, x14, u15, u16, u17, u18, u19, u20, u21, u22, u23, u24, u25, u26, u27, u28, u29, u30, u31, u32, u33, u34, u35, u36, u37, u38, u39, u40, u41, u42, u43, u44, u45, u46, u47, u48, u49, u50, u51, u52, u53, u54, u55, u56, u57, u58, u59, u60, u61, u62, u63, u64, u65, u66, u67, u68, u69, u70, u71, u72, u73, u74, u75, u76, u77, u78, u79, u80, u81, u82, u83, u84, u85, u86, u87, u88, u89, u90, u91, u92, u93, u94, u95, u96, u97, u98, u99, u100, u101, u102, u103, u104, u105, u106, u107, u108, u109, u110, u111, u112, u113, u114, u115, u116, u117, u118, u119, x120, x121, x122, x123, x124, x125, x126, x127, x128, x129, u130, u131, u132, u133, u134, u135, u136, u137, u138, u139, u140, u141, u142, u143, u144, u145, u146, u147, u148, u149, u150, u151, u152, u153, u154, u155, u156, u157, u158, u159, u160, u161, u162, u163, u164, u165, u166, u167], []⟩ wx)) :
    Code.wp Try.prog (reg 23) (blind K Z) ⟨#[u0, u1, u2, u3, u4, u5, .pointer (some ⟨v1, 0, none⟩), u7, .pointer (some ⟨O, 0, none⟩), u9, u10, u11, u12, u13, u14, u15, u16, u17, u18, u19, u20, u21, u22, u23, u24, u25, u26, u27, u28, u29, u30, u31, u32, u33, u34, u35, u36, u37, u38, u39, u40, u41, u42, u43, u44, u45, u46, u47, u48, u49, u50, u51, u52, u53, u54, u55, u56, u57, u58, u59, u60, u61, u62, u63, u64, u65, u66, u67, u68, u69, u70, u71, u72, u73, u74, u75, u76, u77, u78, u79, u80, u81, u82, u83, u84, u85, u86, u87, u88, u89, u90, u91, u92, u93, u94, u95, u96, u97, u98, u99, u100, u101, u102, u103, u104, u105, u106, u107, u108, u109, u110, u111, u112, u113, u114, u115, u116, u117, u118, u119, u120, u121, u122, u123, u124, u125, u126, u127, u128, u129, u130, u131, u132, u133, u134, u135, u136, u137, u138, u139, u140, u141, u142, u143, u144, u145, u146, u147, u148, u149, u150, u151, u152, u153, u154, u155, u156, u157, u158, u159, u160, u161, u162, u163, u164, u165, u166, u167], []⟩ wd := by
  conv => arg 2; whnf
  have d3 : (0 : Int) ≤ (i : Int) := by omega
  have d4 : (i : Int) < (N : Int) := by omega
  have hD1 := hD _ ((Chg.refl _ wd).drew)
  have hD2 := hD _ (((Chg.refl _ wd).alloc (.cells #[.int .i64 0, .int .i64 0, .int .i64 0, .string ⟨#[]⟩] 65)).drew)
  have c0 := bo.cell 0
  have c1 := bo.cell 1
  have c2 := bo.cell 2
  have c3 := bo.cell 3
  have c4 := bo.cell 4
  have c5 := bo.cell 5
  simp at c0 c1 c2 c3 c4 c5
  have hkeep : Hid (∀ w', Chg (ownM p.m p.c) wd w' → w'.cell? ⟨v1, 1, none⟩ = some (.slice (some ⟨gX, 0, none⟩) N capX) ∧ w'.cell? ⟨gX, i, none⟩ = some (.pointer (some ⟨p.m, 0, none⟩)) ∧ w'.cell? ⟨O, 0, none⟩ = some (.int .i64 k) ∧ w'.cell? ⟨O, 1, none⟩ = some (.int .i64 i) ∧ w'.cell? ⟨O, 2, none⟩ = some (.int .i64 b) ∧ w'.cell? ⟨O, 3, none⟩ = some (.int .i64 c) ∧ w'.cell? ⟨O, 4, none⟩ = some (.string S) ∧ w'.cell? ⟨O, 5, none⟩ = some (.string T)) := by
    intro V hV
    exact ⟨Chg.cell hV y0 nv, Chg.cell hV x0 nx, Chg.cell hV c0 no, Chg.cell hV c1 no, Chg.cell hV c2 no, Chg.cell hV c3 no, Chg.cell hV c4 no, Chg.cell hV c5 no⟩
  have hSrH := hide hSr
  clear hD bo nv nx no hSr hiN
  go_region_held3 (fun w' => w'.cell? ⟨v1, 1, none⟩ = some (.slice (some ⟨gX, 0, none⟩) N capX) ∧ w'.cell? ⟨gX, i, none⟩ = some (.pointer (some ⟨p.m, 0, none⟩)) ∧ w'.cell? ⟨O, 0, none⟩ = some (.int .i64 k) ∧ w'.cell? ⟨O, 1, none⟩ = some (.int .i64 i) ∧ w'.cell? ⟨O, 2, none⟩ = some (.int .i64 b) ∧ w'.cell? ⟨O, 3, none⟩ = some (.int .i64 c) ∧ w'.cell? ⟨O, 4, none⟩ = some (.string S) ∧ w'.cell? ⟨O, 5, none⟩ = some (.string T)) (first | with_reducible exact unhide hkeep _ hcw | with_reducible exact unhide hkeep _ (hcw.alloc _) | with_reducible exact unhide hkeep _ (late_chg hc2 _ _ _ _) | go_keep)
    (first
    | (go_at_call 31; with_reducible refine hD1.mono ?_; rintro e w2 ⟨rfl, hc2, hr2⟩; have hcw := Chg.trans ((Chg.refl (ownM p.m p.c) wd).drew) hc2)
    | (go_at_call 31; with_reducible refine hD2.mono ?_; rintro e w2 ⟨rfl, hc2, hr2⟩; have hcw := Chg.trans (((Chg.refl (ownM p.m p.c) wd).alloc _).drew) hc2; have bz := late_blk (unhide hSrH) hc2; have z0 := bz.cell 0; have z1 := bz.cell 1; have z2 := bz.cell 2; have z3 := bz.cell 3; have fz0 := bz.frozen 0; have fz1 := bz.frozen 1; have fz2 := bz.frozen 2; have fz3 := bz.frozen 3; simp at z0 z1 z2 z3; clear bz))
  all_goals
    show K _ _
    first
    | with_reducible exact unhide hQH _ _ _ _ _ _ _ _ _ _ _ _ (halfM_of hc2 hr2)
    | with_reducible exact unhide hQH _ _ _ _ _ _ _ _ _ _ _ _ (halfM_late (unhide hSrH) hc2 hr2)
end Go.Proofs.Qxb6500367a
