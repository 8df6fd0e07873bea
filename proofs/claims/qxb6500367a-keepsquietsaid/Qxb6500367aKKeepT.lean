/-
  367 Keeps: keep's round from its test of the step on. (gen7kt.py)
-/
import Derived.Test.Qxb6500367aKSettle
import Derived.Test.Qxb6500367aKStart
namespace Go.Proofs.Qxb6500367a
open Go.RowKit Go.Qx
set_option linter.unusedSimpArgs false
set_option linter.unusedVariables false

noncomputable def body17 : Code := match Try.f17.body with
  | some c => c
  | none => .skip
noncomputable def round17 : Code := cBlk (cFst (cSnd (cLoop (cBlk (cSnd (cFst (cSnd (cSnd (cSnd (cSnd body17))))))))))
noncomputable def tail17 : Code := cSnd (cSnd (cSnd (cSnd (cSnd (cSnd round17)))))

/-- What a round leaves. -/
def KO (B : Nat) (V wx : World) (g n : Nat) (C : Int) : Prop := (∃ S' W', KX B wx g n S' W' C) ∧ Chg (fun k => B ≤ k) V wx

set_option maxHeartbeats 8000000 in
set_option maxRecDepth 100000 in
theorem tk_six (B : Nat) (V : World) (g n : Nat) (C : Int) (Bo : Nat) (k oa b c : Int) (s t : ByteArray) (op : Blk V Bo 44 [.int .i64 k, .int .i64 oa, .int .i64 b, .int .i64 c, .string s, .string t]) (ax : Option Addr) (cx : Nat) (c0 : V.cell? ⟨g, 0, none⟩ = some (.slice ax n cx)) (hgl : g < V.heap.size) (jj : Int) (qu fg br : Bool) (hk : k = 6) (hko : KO B V V g n C)
    (u0 u2 u3 u4 u8 u9 u10 u13 u14 u15 u16 u17 u18 u19 u20 u21 u22 u23 u24 u25 u26 u27 u28 u29 u30 u31 u32 u33 u34 u35 u36 u37 u38 u39 u40 u41 u42 u43 u44 u45 u46 u47 u48 u49 u50 u51 u52 u53 u54 u55 u56 u57 u58 u59 u60 u61 u62 u63 u64 u65 u66 u67 u68 u69 u70 u71 u72 u73 u74 u75 u76 u77 u78 u79 u80 u81 u82 u83 u84 u85 u86 u87 u88 u89 u90 u91 u92 u93 u94 u95 u96 u97 u98 u99 u100 u101 u102 u103 u104 u105 u106 u107 u108 u109 u110 u111 u112 u113 u114 u115 u116 u117 u118 u119 u120 u121 u122 u123 u124 u125 u126 u127 u128 u129 u130 u131 u132 u133 u134 u135 u136 u137 u138 u139 u140 u141 u142 u143 u144 u145 u146 u147 u148 u149 u150 : Value) (Q : Exit → Act → World → Prop) (hQ : Hid (∀ (y13 y120 y121 y122 y123 y124 y125 y126 y127 y128 y129 y130 y131 y132 y133 y134 y135 y136 y137 y138 y139 y140 y141 y142 y143 y144 y145 y146 y147 y148 y149 y150 : Value) e wx, (e = .normal ∨ e = .exit 1) → KO B V wx g n C → Q e ⟨(u0 :: Value.bool qu :: u2 :: u3 :: u4 :: Value.pointer (some ⟨g, 0, none⟩) :: Value.int .i64 jj :: Value.pointer (some ⟨Bo, 0, none⟩) :: u8 :: u9 :: u10 :: Value.bool fg :: Value.bool br :: y13 :: u14 :: u15 :: u16 :: u17 :: u18 :: u19 :: u20 :: u21 :: u22 :: u23 :: u24 :: u25 :: u26 :: u27 :: u28 :: u29 :: u30 :: u31 :: u32 :: u33 :: u34 :: u35 :: u36 :: u37 :: u38 :: u39 :: u40 :: u41 :: u42 :: u43 :: u44 :: u45 :: u46 :: u47 :: u48 :: u49 :: u50 :: u51 :: u52 :: u53 :: u54 :: u55 :: u56 :: u57 :: u58 :: u59 :: u60 :: u61 :: u62 :: u63 :: u64 :: u65 :: u66 :: u67 :: u68 :: u69 :: u70 :: u71 :: u72 :: u73 :: u74 :: u75 :: u76 :: u77 :: u78 :: u79 :: u80 :: u81 :: u82 :: u83 :: u84 :: u85 :: u86 :: u87 :: u88 :: u89 :: u90 :: u91 :: u92 :: u93 :: u94 :: u95 :: u96 :: u97 :: u98 :: u99 :: u100 :: u101 :: u102 :: u103 :: u104 :: u105 :: u106 :: u107 :: u108 :: u109 :: u110 :: u111 :: u112 :: u113 :: u114 :: u115 :: u116 :: u117 :: u118 :: u119 :: y120 :: y121 :: y122 :: y123 :: y124 :: y125 :: y126 :: y127 :: y128 :: y129 :: y130 :: y131 :: y132 :: y133 :: y134 :: y135 :: y136 :: y137 :: y138 :: y139 :: y140 :: y141 :: y142 :: y143 :: y144 :: y145 :: y146 :: y147 :: y148 :: y149 :: y150 :: ([] : List Value)).toArray, []⟩ wx)) :
    Code.wp Try.prog tail17 Q ⟨(u0 :: Value.bool qu :: u2 :: u3 :: u4 :: Value.pointer (some ⟨g, 0, none⟩) :: Value.int .i64 jj :: Value.pointer (some ⟨Bo, 0, none⟩) :: u8 :: u9 :: u10 :: Value.bool fg :: Value.bool br :: u13 :: u14 :: u15 :: u16 :: u17 :: u18 :: u19 :: u20 :: u21 :: u22 :: u23 :: u24 :: u25 :: u26 :: u27 :: u28 :: u29 :: u30 :: u31 :: u32 :: u33 :: u34 :: u35 :: u36 :: u37 :: u38 :: u39 :: u40 :: u41 :: u42 :: u43 :: u44 :: u45 :: u46 :: u47 :: u48 :: u49 :: u50 :: u51 :: u52 :: u53 :: u54 :: u55 :: u56 :: u57 :: u58 :: u59 :: u60 :: u61 :: u62 :: u63 :: u64 :: u65 :: u66 :: u67 :: u68 :: u69 :: u70 :: u71 :: u72 :: u73 :: u74 :: u75 :: u76 :: u77 :: u78 :: u79 :: u80 :: u81 :: u82 :: u83 :: u84 :: u85 :: u86 :: u87 :: u88 :: u89 :: u90 :: u91 :: u92 :: u93 :: u94 :: u95 :: u96 :: u97 :: u98 :: u99 :: u100 :: u101 :: u102 :: u103 :: u104 :: u105 :: u106 :: u107 :: u108 :: u109 :: u110 :: u111 :: u112 :: u113 :: u114 :: u115 :: u116 :: u117 :: u118 :: u119 :: u120 :: u121 :: u122 :: u123 :: u124 :: u125 :: u126 :: u127 :: u128 :: u129 :: u130 :: u131 :: u132 :: u133 :: u134 :: u135 :: u136 :: u137 :: u138 :: u139 :: u140 :: u141 :: u142 :: u143 :: u144 :: u145 :: u146 :: u147 :: u148 :: u149 :: u150 :: ([] : List Value)).toArray, []⟩ V := by
  conv => arg 2; whnf
  have o0 : V.cell? ⟨Bo, 0, none⟩ = some (.int .i64 k) := op.cell 0
  have o1 : V.cell? ⟨Bo, 1, none⟩ = some (.int .i64 oa) := op.cell 1
  have opH := hide op
  clear op
  have e6 : (k == 6) = true := by simpa using hk
  clear hk
  go_wp2
  go_big_quiet (fail)
  have qd : Quiet V (V.drewN nq) := (Chg.refl _ _).drewN nq
  have Qd := hide qd
  have op2 := hide (qd.blk (unhide opH))
  clear o0 o1 opH c0 hgl
  generalize V.drewN nq = V1 at *
  clear qd nq
  have hko2 : Hid (KO B V V1 g n C) := by
    obtain ⟨⟨S', W', h1⟩, h2⟩ := hko
    exact ⟨⟨S', W', h1.quiet (unhide Qd)⟩, h2.trans ((unhide Qd).chg _)⟩
  clear hko
  go_wp2
  exact unhide hQ _ _ _ _ _ _ _ _ _ _ _ _ _ _ _ _ _ _ _ _ _ _ _ _ _ _ _ _ _ _ _ _ _ _ (.inr rfl) (unhide hko2)

set_option maxHeartbeats 8000000 in
set_option maxRecDepth 100000 in
theorem tk_neg (B : Nat) (V : World) (g n : Nat) (C : Int) (Bo : Nat) (k oa b c : Int) (s t : ByteArray) (op : Blk V Bo 44 [.int .i64 k, .int .i64 oa, .int .i64 b, .int .i64 c, .string s, .string t]) (ax : Option Addr) (cx : Nat) (c0 : V.cell? ⟨g, 0, none⟩ = some (.slice ax n cx)) (hgl : g < V.heap.size) (jj : Int) (qu fg br : Bool) (hk : k ≠ 6) (ha : oa < 0) (hko : KO B V V g n C)
    (u0 u2 u3 u4 u8 u9 u10 u13 u14 u15 u16 u17 u18 u19 u20 u21 u22 u23 u24 u25 u26 u27 u28 u29 u30 u31 u32 u33 u34 u35 u36 u37 u38 u39 u40 u41 u42 u43 u44 u45 u46 u47 u48 u49 u50 u51 u52 u53 u54 u55 u56 u57 u58 u59 u60 u61 u62 u63 u64 u65 u66 u67 u68 u69 u70 u71 u72 u73 u74 u75 u76 u77 u78 u79 u80 u81 u82 u83 u84 u85 u86 u87 u88 u89 u90 u91 u92 u93 u94 u95 u96 u97 u98 u99 u100 u101 u102 u103 u104 u105 u106 u107 u108 u109 u110 u111 u112 u113 u114 u115 u116 u117 u118 u119 u120 u121 u122 u123 u124 u125 u126 u127 u128 u129 u130 u131 u132 u133 u134 u135 u136 u137 u138 u139 u140 u141 u142 u143 u144 u145 u146 u147 u148 u149 u150 : Value) (Q : Exit → Act → World → Prop) (hQ : Hid (∀ (y13 y120 y121 y122 y123 y124 y125 y126 y127 y128 y129 y130 y131 y132 y133 y134 y135 y136 y137 y138 y139 y140 y141 y142 y143 y144 y145 y146 y147 y148 y149 y150 : Value) e wx, (e = .normal ∨ e = .exit 1) → KO B V wx g n C → Q e ⟨(u0 :: Value.bool qu :: u2 :: u3 :: u4 :: Value.pointer (some ⟨g, 0, none⟩) :: Value.int .i64 jj :: Value.pointer (some ⟨Bo, 0, none⟩) :: u8 :: u9 :: u10 :: Value.bool fg :: Value.bool br :: y13 :: u14 :: u15 :: u16 :: u17 :: u18 :: u19 :: u20 :: u21 :: u22 :: u23 :: u24 :: u25 :: u26 :: u27 :: u28 :: u29 :: u30 :: u31 :: u32 :: u33 :: u34 :: u35 :: u36 :: u37 :: u38 :: u39 :: u40 :: u41 :: u42 :: u43 :: u44 :: u45 :: u46 :: u47 :: u48 :: u49 :: u50 :: u51 :: u52 :: u53 :: u54 :: u55 :: u56 :: u57 :: u58 :: u59 :: u60 :: u61 :: u62 :: u63 :: u64 :: u65 :: u66 :: u67 :: u68 :: u69 :: u70 :: u71 :: u72 :: u73 :: u74 :: u75 :: u76 :: u77 :: u78 :: u79 :: u80 :: u81 :: u82 :: u83 :: u84 :: u85 :: u86 :: u87 :: u88 :: u89 :: u90 :: u91 :: u92 :: u93 :: u94 :: u95 :: u96 :: u97 :: u98 :: u99 :: u100 :: u101 :: u102 :: u103 :: u104 :: u105 :: u106 :: u107 :: u108 :: u109 :: u110 :: u111 :: u112 :: u113 :: u114 :: u115 :: u116 :: u117 :: u118 :: u119 :: y120 :: y121 :: y122 :: y123 :: y124 :: y125 :: y126 :: y127 :: y128 :: y129 :: y130 :: y131 :: y132 :: y133 :: y134 :: y135 :: y136 :: y137 :: y138 :: y139 :: y140 :: y141 :: y142 :: y143 :: y144 :: y145 :: y146 :: y147 :: y148 :: y149 :: y150 :: ([] : List Value)).toArray, []⟩ wx)) :
    Code.wp Try.prog tail17 Q ⟨(u0 :: Value.bool qu :: u2 :: u3 :: u4 :: Value.pointer (some ⟨g, 0, none⟩) :: Value.int .i64 jj :: Value.pointer (some ⟨Bo, 0, none⟩) :: u8 :: u9 :: u10 :: Value.bool fg :: Value.bool br :: u13 :: u14 :: u15 :: u16 :: u17 :: u18 :: u19 :: u20 :: u21 :: u22 :: u23 :: u24 :: u25 :: u26 :: u27 :: u28 :: u29 :: u30 :: u31 :: u32 :: u33 :: u34 :: u35 :: u36 :: u37 :: u38 :: u39 :: u40 :: u41 :: u42 :: u43 :: u44 :: u45 :: u46 :: u47 :: u48 :: u49 :: u50 :: u51 :: u52 :: u53 :: u54 :: u55 :: u56 :: u57 :: u58 :: u59 :: u60 :: u61 :: u62 :: u63 :: u64 :: u65 :: u66 :: u67 :: u68 :: u69 :: u70 :: u71 :: u72 :: u73 :: u74 :: u75 :: u76 :: u77 :: u78 :: u79 :: u80 :: u81 :: u82 :: u83 :: u84 :: u85 :: u86 :: u87 :: u88 :: u89 :: u90 :: u91 :: u92 :: u93 :: u94 :: u95 :: u96 :: u97 :: u98 :: u99 :: u100 :: u101 :: u102 :: u103 :: u104 :: u105 :: u106 :: u107 :: u108 :: u109 :: u110 :: u111 :: u112 :: u113 :: u114 :: u115 :: u116 :: u117 :: u118 :: u119 :: u120 :: u121 :: u122 :: u123 :: u124 :: u125 :: u126 :: u127 :: u128 :: u129 :: u130 :: u131 :: u132 :: u133 :: u134 :: u135 :: u136 :: u137 :: u138 :: u139 :: u140 :: u141 :: u142 :: u143 :: u144 :: u145 :: u146 :: u147 :: u148 :: u149 :: u150 :: ([] : List Value)).toArray, []⟩ V := by
  conv => arg 2; whnf
  have o0 : V.cell? ⟨Bo, 0, none⟩ = some (.int .i64 k) := op.cell 0
  have o1 : V.cell? ⟨Bo, 1, none⟩ = some (.int .i64 oa) := op.cell 1
  have opH := hide op
  clear op
  have e6 : (k == 6) = false := by simpa using hk
  have a1 : decide (oa < 0) = true := by simpa using ha
  clear hk ha
  go_wp2
  go_big_quiet (fail)
  have qd : Quiet V (V.drewN nq) := (Chg.refl _ _).drewN nq
  have Qd := hide qd
  have op2 := hide (qd.blk (unhide opH))
  clear o0 o1 opH c0 hgl
  generalize V.drewN nq = V1 at *
  clear qd nq
  have hko2 : Hid (KO B V V1 g n C) := by
    obtain ⟨⟨S', W', h1⟩, h2⟩ := hko
    exact ⟨⟨S', W', h1.quiet (unhide Qd)⟩, h2.trans ((unhide Qd).chg _)⟩
  clear hko
  go_wp2
  exact unhide hQ _ _ _ _ _ _ _ _ _ _ _ _ _ _ _ _ _ _ _ _ _ _ _ _ _ _ _ _ _ _ _ _ _ _ (.inr rfl) (unhide hko2)

set_option maxHeartbeats 8000000 in
set_option maxRecDepth 100000 in
theorem tk_big (B : Nat) (V : World) (g n : Nat) (C : Int) (Bo : Nat) (k oa b c : Int) (s t : ByteArray) (op : Blk V Bo 44 [.int .i64 k, .int .i64 oa, .int .i64 b, .int .i64 c, .string s, .string t]) (ax : Option Addr) (cx : Nat) (c0 : V.cell? ⟨g, 0, none⟩ = some (.slice ax n cx)) (hgl : g < V.heap.size) (jj : Int) (qu fg br : Bool) (hk : k ≠ 6) (ha : 0 ≤ oa) (hb : (n : Int) ≤ oa) (hko : KO B V V g n C)
    (u0 u2 u3 u4 u8 u9 u10 u13 u14 u15 u16 u17 u18 u19 u20 u21 u22 u23 u24 u25 u26 u27 u28 u29 u30 u31 u32 u33 u34 u35 u36 u37 u38 u39 u40 u41 u42 u43 u44 u45 u46 u47 u48 u49 u50 u51 u52 u53 u54 u55 u56 u57 u58 u59 u60 u61 u62 u63 u64 u65 u66 u67 u68 u69 u70 u71 u72 u73 u74 u75 u76 u77 u78 u79 u80 u81 u82 u83 u84 u85 u86 u87 u88 u89 u90 u91 u92 u93 u94 u95 u96 u97 u98 u99 u100 u101 u102 u103 u104 u105 u106 u107 u108 u109 u110 u111 u112 u113 u114 u115 u116 u117 u118 u119 u120 u121 u122 u123 u124 u125 u126 u127 u128 u129 u130 u131 u132 u133 u134 u135 u136 u137 u138 u139 u140 u141 u142 u143 u144 u145 u146 u147 u148 u149 u150 : Value) (Q : Exit → Act → World → Prop) (hQ : Hid (∀ (y13 y120 y121 y122 y123 y124 y125 y126 y127 y128 y129 y130 y131 y132 y133 y134 y135 y136 y137 y138 y139 y140 y141 y142 y143 y144 y145 y146 y147 y148 y149 y150 : Value) e wx, (e = .normal ∨ e = .exit 1) → KO B V wx g n C → Q e ⟨(u0 :: Value.bool qu :: u2 :: u3 :: u4 :: Value.pointer (some ⟨g, 0, none⟩) :: Value.int .i64 jj :: Value.pointer (some ⟨Bo, 0, none⟩) :: u8 :: u9 :: u10 :: Value.bool fg :: Value.bool br :: y13 :: u14 :: u15 :: u16 :: u17 :: u18 :: u19 :: u20 :: u21 :: u22 :: u23 :: u24 :: u25 :: u26 :: u27 :: u28 :: u29 :: u30 :: u31 :: u32 :: u33 :: u34 :: u35 :: u36 :: u37 :: u38 :: u39 :: u40 :: u41 :: u42 :: u43 :: u44 :: u45 :: u46 :: u47 :: u48 :: u49 :: u50 :: u51 :: u52 :: u53 :: u54 :: u55 :: u56 :: u57 :: u58 :: u59 :: u60 :: u61 :: u62 :: u63 :: u64 :: u65 :: u66 :: u67 :: u68 :: u69 :: u70 :: u71 :: u72 :: u73 :: u74 :: u75 :: u76 :: u77 :: u78 :: u79 :: u80 :: u81 :: u82 :: u83 :: u84 :: u85 :: u86 :: u87 :: u88 :: u89 :: u90 :: u91 :: u92 :: u93 :: u94 :: u95 :: u96 :: u97 :: u98 :: u99 :: u100 :: u101 :: u102 :: u103 :: u104 :: u105 :: u106 :: u107 :: u108 :: u109 :: u110 :: u111 :: u112 :: u113 :: u114 :: u115 :: u116 :: u117 :: u118 :: u119 :: y120 :: y121 :: y122 :: y123 :: y124 :: y125 :: y126 :: y127 :: y128 :: y129 :: y130 :: y131 :: y132 :: y133 :: y134 :: y135 :: y136 :: y137 :: y138 :: y139 :: y140 :: y141 :: y142 :: y143 :: y144 :: y145 :: y146 :: y147 :: y148 :: y149 :: y150 :: ([] : List Value)).toArray, []⟩ wx)) :
    Code.wp Try.prog tail17 Q ⟨(u0 :: Value.bool qu :: u2 :: u3 :: u4 :: Value.pointer (some ⟨g, 0, none⟩) :: Value.int .i64 jj :: Value.pointer (some ⟨Bo, 0, none⟩) :: u8 :: u9 :: u10 :: Value.bool fg :: Value.bool br :: u13 :: u14 :: u15 :: u16 :: u17 :: u18 :: u19 :: u20 :: u21 :: u22 :: u23 :: u24 :: u25 :: u26 :: u27 :: u28 :: u29 :: u30 :: u31 :: u32 :: u33 :: u34 :: u35 :: u36 :: u37 :: u38 :: u39 :: u40 :: u41 :: u42 :: u43 :: u44 :: u45 :: u46 :: u47 :: u48 :: u49 :: u50 :: u51 :: u52 :: u53 :: u54 :: u55 :: u56 :: u57 :: u58 :: u59 :: u60 :: u61 :: u62 :: u63 :: u64 :: u65 :: u66 :: u67 :: u68 :: u69 :: u70 :: u71 :: u72 :: u73 :: u74 :: u75 :: u76 :: u77 :: u78 :: u79 :: u80 :: u81 :: u82 :: u83 :: u84 :: u85 :: u86 :: u87 :: u88 :: u89 :: u90 :: u91 :: u92 :: u93 :: u94 :: u95 :: u96 :: u97 :: u98 :: u99 :: u100 :: u101 :: u102 :: u103 :: u104 :: u105 :: u106 :: u107 :: u108 :: u109 :: u110 :: u111 :: u112 :: u113 :: u114 :: u115 :: u116 :: u117 :: u118 :: u119 :: u120 :: u121 :: u122 :: u123 :: u124 :: u125 :: u126 :: u127 :: u128 :: u129 :: u130 :: u131 :: u132 :: u133 :: u134 :: u135 :: u136 :: u137 :: u138 :: u139 :: u140 :: u141 :: u142 :: u143 :: u144 :: u145 :: u146 :: u147 :: u148 :: u149 :: u150 :: ([] : List Value)).toArray, []⟩ V := by
  conv => arg 2; whnf
  have o0 : V.cell? ⟨Bo, 0, none⟩ = some (.int .i64 k) := op.cell 0
  have o1 : V.cell? ⟨Bo, 1, none⟩ = some (.int .i64 oa) := op.cell 1
  have opH := hide op
  clear op
  have e6 : (k == 6) = false := by simpa using hk
  have a1 : decide (oa < 0) = false := by simp; omega
  have a2 : decide ((n : Int) ≤ oa) = true := by simpa using hb
  clear hk ha hb
  go_wp2
  go_big_quiet (fail)
  have qd : Quiet V (V.drewN nq) := (Chg.refl _ _).drewN nq
  have Qd := hide qd
  have op2 := hide (qd.blk (unhide opH))
  clear o0 o1 opH c0 hgl
  generalize V.drewN nq = V1 at *
  clear qd nq
  have hko2 : Hid (KO B V V1 g n C) := by
    obtain ⟨⟨S', W', h1⟩, h2⟩ := hko
    exact ⟨⟨S', W', h1.quiet (unhide Qd)⟩, h2.trans ((unhide Qd).chg _)⟩
  clear hko
  go_wp2
  exact unhide hQ _ _ _ _ _ _ _ _ _ _ _ _ _ _ _ _ _ _ _ _ _ _ _ _ _ _ _ _ _ _ _ _ _ _ (.inr rfl) (unhide hko2)

set_option maxHeartbeats 8000000 in
set_option maxRecDepth 100000 in
theorem tk_ev (B : Nat) (V : World) (g n : Nat) (C : Int) (Bo : Nat) (k oa b c : Int) (s t : ByteArray) (op : Blk V Bo 44 [.int .i64 k, .int .i64 oa, .int .i64 b, .int .i64 c, .string s, .string t]) (ax : Option Addr) (cx : Nat) (c0 : V.cell? ⟨g, 0, none⟩ = some (.slice ax n cx)) (hgl : g < V.heap.size) (jj : Int) (qu fg br : Bool) (hk : k ≠ 6) (ha : 0 ≤ oa) (hb : oa < (n : Int)) (hfg : fg = false) (hev : ∀ V', Quiet V V' → ∃ m, Calls Try.prog 26 #[ptr g, .agg #[.int .i64 k, .int .i64 oa, .int .i64 b, .int .i64 c, .string s, .string t], .bool qu, .bool br] V' (evR B V' g n C m))
    (u0 u2 u3 u4 u8 u9 u10 u13 u14 u15 u16 u17 u18 u19 u20 u21 u22 u23 u24 u25 u26 u27 u28 u29 u30 u31 u32 u33 u34 u35 u36 u37 u38 u39 u40 u41 u42 u43 u44 u45 u46 u47 u48 u49 u50 u51 u52 u53 u54 u55 u56 u57 u58 u59 u60 u61 u62 u63 u64 u65 u66 u67 u68 u69 u70 u71 u72 u73 u74 u75 u76 u77 u78 u79 u80 u81 u82 u83 u84 u85 u86 u87 u88 u89 u90 u91 u92 u93 u94 u95 u96 u97 u98 u99 u100 u101 u102 u103 u104 u105 u106 u107 u108 u109 u110 u111 u112 u113 u114 u115 u116 u117 u118 u119 u120 u121 u122 u123 u124 u125 u126 u127 u128 u129 u130 u131 u132 u133 u134 u135 u136 u137 u138 u139 u140 u141 u142 u143 u144 u145 u146 u147 u148 u149 u150 : Value) (Q : Exit → Act → World → Prop) (hQ : Hid (∀ (y13 y120 y121 y122 y123 y124 y125 y126 y127 y128 y129 y130 y131 y132 y133 y134 y135 y136 y137 y138 y139 y140 y141 y142 y143 y144 y145 y146 y147 y148 y149 y150 : Value) e wx, (e = .normal ∨ e = .exit 1) → KO B V wx g n C → Q e ⟨(u0 :: Value.bool qu :: u2 :: u3 :: u4 :: Value.pointer (some ⟨g, 0, none⟩) :: Value.int .i64 jj :: Value.pointer (some ⟨Bo, 0, none⟩) :: u8 :: u9 :: u10 :: Value.bool fg :: Value.bool br :: y13 :: u14 :: u15 :: u16 :: u17 :: u18 :: u19 :: u20 :: u21 :: u22 :: u23 :: u24 :: u25 :: u26 :: u27 :: u28 :: u29 :: u30 :: u31 :: u32 :: u33 :: u34 :: u35 :: u36 :: u37 :: u38 :: u39 :: u40 :: u41 :: u42 :: u43 :: u44 :: u45 :: u46 :: u47 :: u48 :: u49 :: u50 :: u51 :: u52 :: u53 :: u54 :: u55 :: u56 :: u57 :: u58 :: u59 :: u60 :: u61 :: u62 :: u63 :: u64 :: u65 :: u66 :: u67 :: u68 :: u69 :: u70 :: u71 :: u72 :: u73 :: u74 :: u75 :: u76 :: u77 :: u78 :: u79 :: u80 :: u81 :: u82 :: u83 :: u84 :: u85 :: u86 :: u87 :: u88 :: u89 :: u90 :: u91 :: u92 :: u93 :: u94 :: u95 :: u96 :: u97 :: u98 :: u99 :: u100 :: u101 :: u102 :: u103 :: u104 :: u105 :: u106 :: u107 :: u108 :: u109 :: u110 :: u111 :: u112 :: u113 :: u114 :: u115 :: u116 :: u117 :: u118 :: u119 :: y120 :: y121 :: y122 :: y123 :: y124 :: y125 :: y126 :: y127 :: y128 :: y129 :: y130 :: y131 :: y132 :: y133 :: y134 :: y135 :: y136 :: y137 :: y138 :: y139 :: y140 :: y141 :: y142 :: y143 :: y144 :: y145 :: y146 :: y147 :: y148 :: y149 :: y150 :: ([] : List Value)).toArray, []⟩ wx)) :
    Code.wp Try.prog tail17 Q ⟨(u0 :: Value.bool qu :: u2 :: u3 :: u4 :: Value.pointer (some ⟨g, 0, none⟩) :: Value.int .i64 jj :: Value.pointer (some ⟨Bo, 0, none⟩) :: u8 :: u9 :: u10 :: Value.bool fg :: Value.bool br :: u13 :: u14 :: u15 :: u16 :: u17 :: u18 :: u19 :: u20 :: u21 :: u22 :: u23 :: u24 :: u25 :: u26 :: u27 :: u28 :: u29 :: u30 :: u31 :: u32 :: u33 :: u34 :: u35 :: u36 :: u37 :: u38 :: u39 :: u40 :: u41 :: u42 :: u43 :: u44 :: u45 :: u46 :: u47 :: u48 :: u49 :: u50 :: u51 :: u52 :: u53 :: u54 :: u55 :: u56 :: u57 :: u58 :: u59 :: u60 :: u61 :: u62 :: u63 :: u64 :: u65 :: u66 :: u67 :: u68 :: u69 :: u70 :: u71 :: u72 :: u73 :: u74 :: u75 :: u76 :: u77 :: u78 :: u79 :: u80 :: u81 :: u82 :: u83 :: u84 :: u85 :: u86 :: u87 :: u88 :: u89 :: u90 :: u91 :: u92 :: u93 :: u94 :: u95 :: u96 :: u97 :: u98 :: u99 :: u100 :: u101 :: u102 :: u103 :: u104 :: u105 :: u106 :: u107 :: u108 :: u109 :: u110 :: u111 :: u112 :: u113 :: u114 :: u115 :: u116 :: u117 :: u118 :: u119 :: u120 :: u121 :: u122 :: u123 :: u124 :: u125 :: u126 :: u127 :: u128 :: u129 :: u130 :: u131 :: u132 :: u133 :: u134 :: u135 :: u136 :: u137 :: u138 :: u139 :: u140 :: u141 :: u142 :: u143 :: u144 :: u145 :: u146 :: u147 :: u148 :: u149 :: u150 :: ([] : List Value)).toArray, []⟩ V := by
  conv => arg 2; whnf
  have o0 : V.cell? ⟨Bo, 0, none⟩ = some (.int .i64 k) := op.cell 0
  have o1 : V.cell? ⟨Bo, 1, none⟩ = some (.int .i64 oa) := op.cell 1
  have opH := hide op
  clear op
  have e6 : (k == 6) = false := by simpa using hk
  have a1 : decide (oa < 0) = false := by simp; omega
  have a2 : decide ((n : Int) ≤ oa) = false := by simp; omega
  clear hk ha hb
  subst hfg
  go_wp2
  go_big_quiet (fail)
  have qd : Quiet V (V.drewN nq) := (Chg.refl _ _).drewN nq
  have Qd := hide qd
  have op2 := hide (qd.blk (unhide opH))
  clear o0 o1 opH c0 hgl
  generalize V.drewN nq = V1 at *
  clear qd nq
  have o0 : V1.cell? ⟨Bo, 0, none⟩ = some (.int .i64 k) := (unhide op2).cell 0
  have o1 : V1.cell? ⟨Bo, 1, none⟩ = some (.int .i64 oa) := (unhide op2).cell 1
  have o2 : V1.cell? ⟨Bo, 2, none⟩ = some (.int .i64 b) := (unhide op2).cell 2
  have o3 : V1.cell? ⟨Bo, 3, none⟩ = some (.int .i64 c) := (unhide op2).cell 3
  have o4 : V1.cell? ⟨Bo, 4, none⟩ = some (.string s) := (unhide op2).cell 4
  have o5 : V1.cell? ⟨Bo, 5, none⟩ = some (.string t) := (unhide op2).cell 5
  obtain ⟨m, hv⟩ := hev V1 (unhide Qd)
  have hvH := hide hv
  unfold ptr at hvH
  clear hv hev
  go_wp2_with fail
  refine (unhide hvH).mono ?_
  clear hvH o0 o1 o2 o3 o4 o5
  rintro e V9 ⟨rfl, ⟨S9, W9, hk9, _⟩, ch9⟩
  have hko2 : Hid (KO B V V9 g n C) := ⟨⟨S9, W9, hk9⟩, ((unhide Qd).chg _).trans ch9⟩
  clear hk9 ch9
  go_wp2
  exact unhide hQ _ _ _ _ _ _ _ _ _ _ _ _ _ _ _ _ _ _ _ _ _ _ _ _ _ _ _ _ _ _ _ _ _ _ (.inl rfl) (unhide hko2)

set_option maxHeartbeats 8000000 in
set_option maxRecDepth 100000 in
theorem tk_owed (B : Nat) (V : World) (g n : Nat) (C : Int) (Bo : Nat) (k oa b c : Int) (s t : ByteArray) (op : Blk V Bo 44 [.int .i64 k, .int .i64 oa, .int .i64 b, .int .i64 c, .string s, .string t]) (ax : Option Addr) (cx : Nat) (c0 : V.cell? ⟨g, 0, none⟩ = some (.slice ax n cx)) (hgl : g < V.heap.size) (jj : Int) (qu fg br : Bool) (hk : k ≠ 6) (ha : 0 ≤ oa) (hb : oa < (n : Int)) (hfg : fg = true) (E : Int) (hE : E ≠ 0) (how : ∀ V', Quiet V V' → Calls Try.prog 25 #[ptr g, .agg #[.int .i64 k, .int .i64 oa, .int .i64 b, .int .i64 c, .string s, .string t]] V' fun e w' => e = .returned (.int .i64 E) ∧ Quiet V' w') (hev : ∀ V', Quiet V V' → ∃ m, Calls Try.prog 26 #[ptr g, .agg #[.int .i64 k, .int .i64 oa, .int .i64 b, .int .i64 c, .string s, .string t], .bool qu, .bool br] V' (evR B V' g n C m))
    (u0 u2 u3 u4 u8 u9 u10 u13 u14 u15 u16 u17 u18 u19 u20 u21 u22 u23 u24 u25 u26 u27 u28 u29 u30 u31 u32 u33 u34 u35 u36 u37 u38 u39 u40 u41 u42 u43 u44 u45 u46 u47 u48 u49 u50 u51 u52 u53 u54 u55 u56 u57 u58 u59 u60 u61 u62 u63 u64 u65 u66 u67 u68 u69 u70 u71 u72 u73 u74 u75 u76 u77 u78 u79 u80 u81 u82 u83 u84 u85 u86 u87 u88 u89 u90 u91 u92 u93 u94 u95 u96 u97 u98 u99 u100 u101 u102 u103 u104 u105 u106 u107 u108 u109 u110 u111 u112 u113 u114 u115 u116 u117 u118 u119 u120 u121 u122 u123 u124 u125 u126 u127 u128 u129 u130 u131 u132 u133 u134 u135 u136 u137 u138 u139 u140 u141 u142 u143 u144 u145 u146 u147 u148 u149 u150 : Value) (Q : Exit → Act → World → Prop) (hQ : Hid (∀ (y13 y120 y121 y122 y123 y124 y125 y126 y127 y128 y129 y130 y131 y132 y133 y134 y135 y136 y137 y138 y139 y140 y141 y142 y143 y144 y145 y146 y147 y148 y149 y150 : Value) e wx, (e = .normal ∨ e = .exit 1) → KO B V wx g n C → Q e ⟨(u0 :: Value.bool qu :: u2 :: u3 :: u4 :: Value.pointer (some ⟨g, 0, none⟩) :: Value.int .i64 jj :: Value.pointer (some ⟨Bo, 0, none⟩) :: u8 :: u9 :: u10 :: Value.bool fg :: Value.bool br :: y13 :: u14 :: u15 :: u16 :: u17 :: u18 :: u19 :: u20 :: u21 :: u22 :: u23 :: u24 :: u25 :: u26 :: u27 :: u28 :: u29 :: u30 :: u31 :: u32 :: u33 :: u34 :: u35 :: u36 :: u37 :: u38 :: u39 :: u40 :: u41 :: u42 :: u43 :: u44 :: u45 :: u46 :: u47 :: u48 :: u49 :: u50 :: u51 :: u52 :: u53 :: u54 :: u55 :: u56 :: u57 :: u58 :: u59 :: u60 :: u61 :: u62 :: u63 :: u64 :: u65 :: u66 :: u67 :: u68 :: u69 :: u70 :: u71 :: u72 :: u73 :: u74 :: u75 :: u76 :: u77 :: u78 :: u79 :: u80 :: u81 :: u82 :: u83 :: u84 :: u85 :: u86 :: u87 :: u88 :: u89 :: u90 :: u91 :: u92 :: u93 :: u94 :: u95 :: u96 :: u97 :: u98 :: u99 :: u100 :: u101 :: u102 :: u103 :: u104 :: u105 :: u106 :: u107 :: u108 :: u109 :: u110 :: u111 :: u112 :: u113 :: u114 :: u115 :: u116 :: u117 :: u118 :: u119 :: y120 :: y121 :: y122 :: y123 :: y124 :: y125 :: y126 :: y127 :: y128 :: y129 :: y130 :: y131 :: y132 :: y133 :: y134 :: y135 :: y136 :: y137 :: y138 :: y139 :: y140 :: y141 :: y142 :: y143 :: y144 :: y145 :: y146 :: y147 :: y148 :: y149 :: y150 :: ([] : List Value)).toArray, []⟩ wx)) :
    Code.wp Try.prog tail17 Q ⟨(u0 :: Value.bool qu :: u2 :: u3 :: u4 :: Value.pointer (some ⟨g, 0, none⟩) :: Value.int .i64 jj :: Value.pointer (some ⟨Bo, 0, none⟩) :: u8 :: u9 :: u10 :: Value.bool fg :: Value.bool br :: u13 :: u14 :: u15 :: u16 :: u17 :: u18 :: u19 :: u20 :: u21 :: u22 :: u23 :: u24 :: u25 :: u26 :: u27 :: u28 :: u29 :: u30 :: u31 :: u32 :: u33 :: u34 :: u35 :: u36 :: u37 :: u38 :: u39 :: u40 :: u41 :: u42 :: u43 :: u44 :: u45 :: u46 :: u47 :: u48 :: u49 :: u50 :: u51 :: u52 :: u53 :: u54 :: u55 :: u56 :: u57 :: u58 :: u59 :: u60 :: u61 :: u62 :: u63 :: u64 :: u65 :: u66 :: u67 :: u68 :: u69 :: u70 :: u71 :: u72 :: u73 :: u74 :: u75 :: u76 :: u77 :: u78 :: u79 :: u80 :: u81 :: u82 :: u83 :: u84 :: u85 :: u86 :: u87 :: u88 :: u89 :: u90 :: u91 :: u92 :: u93 :: u94 :: u95 :: u96 :: u97 :: u98 :: u99 :: u100 :: u101 :: u102 :: u103 :: u104 :: u105 :: u106 :: u107 :: u108 :: u109 :: u110 :: u111 :: u112 :: u113 :: u114 :: u115 :: u116 :: u117 :: u118 :: u119 :: u120 :: u121 :: u122 :: u123 :: u124 :: u125 :: u126 :: u127 :: u128 :: u129 :: u130 :: u131 :: u132 :: u133 :: u134 :: u135 :: u136 :: u137 :: u138 :: u139 :: u140 :: u141 :: u142 :: u143 :: u144 :: u145 :: u146 :: u147 :: u148 :: u149 :: u150 :: ([] : List Value)).toArray, []⟩ V := by
  conv => arg 2; whnf
  have o0 : V.cell? ⟨Bo, 0, none⟩ = some (.int .i64 k) := op.cell 0
  have o1 : V.cell? ⟨Bo, 1, none⟩ = some (.int .i64 oa) := op.cell 1
  have opH := hide op
  clear op
  have e6 : (k == 6) = false := by simpa using hk
  have a1 : decide (oa < 0) = false := by simp; omega
  have a2 : decide ((n : Int) ≤ oa) = false := by simp; omega
  clear hk ha hb
  subst hfg
  have e1 : (E == 0) = false := by simpa using hE
  clear hE
  go_wp2
  go_big_quiet (fail)
  have qd : Quiet V (V.drewN nq) := (Chg.refl _ _).drewN nq
  have Qd := hide qd
  have op2 := hide (qd.blk (unhide opH))
  clear o0 o1 opH c0 hgl
  generalize V.drewN nq = V1 at *
  clear qd nq
  have o0 : V1.cell? ⟨Bo, 0, none⟩ = some (.int .i64 k) := (unhide op2).cell 0
  have o1 : V1.cell? ⟨Bo, 1, none⟩ = some (.int .i64 oa) := (unhide op2).cell 1
  have o2 : V1.cell? ⟨Bo, 2, none⟩ = some (.int .i64 b) := (unhide op2).cell 2
  have o3 : V1.cell? ⟨Bo, 3, none⟩ = some (.int .i64 c) := (unhide op2).cell 3
  have o4 : V1.cell? ⟨Bo, 4, none⟩ = some (.string s) := (unhide op2).cell 4
  have o5 : V1.cell? ⟨Bo, 5, none⟩ = some (.string t) := (unhide op2).cell 5
  have how2 := hide (how V1 (unhide Qd))
  unfold ptr at how2
  clear how
  go_wp2_with fail
  refine (unhide how2).mono ?_
  clear how2 o0 o1 o2 o3 o4 o5
  rintro e V2 ⟨rfl, q2⟩
  have Q2 := hide (Quiet.trans (unhide Qd) q2)
  have op3 := hide (q2.blk (unhide op2))
  clear q2 op2
  have o0 : V2.cell? ⟨Bo, 0, none⟩ = some (.int .i64 k) := (unhide op3).cell 0
  have o1 : V2.cell? ⟨Bo, 1, none⟩ = some (.int .i64 oa) := (unhide op3).cell 1
  have o2 : V2.cell? ⟨Bo, 2, none⟩ = some (.int .i64 b) := (unhide op3).cell 2
  have o3 : V2.cell? ⟨Bo, 3, none⟩ = some (.int .i64 c) := (unhide op3).cell 3
  have o4 : V2.cell? ⟨Bo, 4, none⟩ = some (.string s) := (unhide op3).cell 4
  have o5 : V2.cell? ⟨Bo, 5, none⟩ = some (.string t) := (unhide op3).cell 5
  obtain ⟨m, hv⟩ := hev V2 (unhide Q2)
  have hvH := hide hv
  unfold ptr at hvH
  clear hv hev
  go_wp2_with fail
  refine (unhide hvH).mono ?_
  clear hvH o0 o1 o2 o3 o4 o5
  rintro e V9 ⟨rfl, ⟨S9, W9, hk9, _⟩, ch9⟩
  have hko2 : Hid (KO B V V9 g n C) := ⟨⟨S9, W9, hk9⟩, ((unhide Q2).chg _).trans ch9⟩
  clear hk9 ch9
  go_wp2
  exact unhide hQ _ _ _ _ _ _ _ _ _ _ _ _ _ _ _ _ _ _ _ _ _ _ _ _ _ _ _ _ _ _ _ _ _ _ (.inl rfl) (unhide hko2)

set_option maxHeartbeats 8000000 in
set_option maxRecDepth 100000 in
theorem tk_fit (B : Nat) (V : World) (g n : Nat) (C : Int) (Bo : Nat) (k oa b c : Int) (s t : ByteArray) (op : Blk V Bo 44 [.int .i64 k, .int .i64 oa, .int .i64 b, .int .i64 c, .string s, .string t]) (ax : Option Addr) (cx : Nat) (c0 : V.cell? ⟨g, 0, none⟩ = some (.slice ax n cx)) (hgl : g < V.heap.size) (jj : Int) (qu fg br : Bool) (hk : k ≠ 6) (ha : 0 ≤ oa) (hb : oa < (n : Int)) (hfg : fg = true) (E : Int) (hE : E = 0) (how : ∀ V', Quiet V V' → Calls Try.prog 25 #[ptr g, .agg #[.int .i64 k, .int .i64 oa, .int .i64 b, .int .i64 c, .string s, .string t]] V' fun e w' => e = .returned (.int .i64 E) ∧ Quiet V' w') (hko : KO B V V g n C)
    (u0 u2 u3 u4 u8 u9 u10 u13 u14 u15 u16 u17 u18 u19 u20 u21 u22 u23 u24 u25 u26 u27 u28 u29 u30 u31 u32 u33 u34 u35 u36 u37 u38 u39 u40 u41 u42 u43 u44 u45 u46 u47 u48 u49 u50 u51 u52 u53 u54 u55 u56 u57 u58 u59 u60 u61 u62 u63 u64 u65 u66 u67 u68 u69 u70 u71 u72 u73 u74 u75 u76 u77 u78 u79 u80 u81 u82 u83 u84 u85 u86 u87 u88 u89 u90 u91 u92 u93 u94 u95 u96 u97 u98 u99 u100 u101 u102 u103 u104 u105 u106 u107 u108 u109 u110 u111 u112 u113 u114 u115 u116 u117 u118 u119 u120 u121 u122 u123 u124 u125 u126 u127 u128 u129 u130 u131 u132 u133 u134 u135 u136 u137 u138 u139 u140 u141 u142 u143 u144 u145 u146 u147 u148 u149 u150 : Value) (Q : Exit → Act → World → Prop) (hQ : Hid (∀ (y13 y120 y121 y122 y123 y124 y125 y126 y127 y128 y129 y130 y131 y132 y133 y134 y135 y136 y137 y138 y139 y140 y141 y142 y143 y144 y145 y146 y147 y148 y149 y150 : Value) e wx, (e = .normal ∨ e = .exit 1) → KO B V wx g n C → Q e ⟨(u0 :: Value.bool qu :: u2 :: u3 :: u4 :: Value.pointer (some ⟨g, 0, none⟩) :: Value.int .i64 jj :: Value.pointer (some ⟨Bo, 0, none⟩) :: u8 :: u9 :: u10 :: Value.bool fg :: Value.bool br :: y13 :: u14 :: u15 :: u16 :: u17 :: u18 :: u19 :: u20 :: u21 :: u22 :: u23 :: u24 :: u25 :: u26 :: u27 :: u28 :: u29 :: u30 :: u31 :: u32 :: u33 :: u34 :: u35 :: u36 :: u37 :: u38 :: u39 :: u40 :: u41 :: u42 :: u43 :: u44 :: u45 :: u46 :: u47 :: u48 :: u49 :: u50 :: u51 :: u52 :: u53 :: u54 :: u55 :: u56 :: u57 :: u58 :: u59 :: u60 :: u61 :: u62 :: u63 :: u64 :: u65 :: u66 :: u67 :: u68 :: u69 :: u70 :: u71 :: u72 :: u73 :: u74 :: u75 :: u76 :: u77 :: u78 :: u79 :: u80 :: u81 :: u82 :: u83 :: u84 :: u85 :: u86 :: u87 :: u88 :: u89 :: u90 :: u91 :: u92 :: u93 :: u94 :: u95 :: u96 :: u97 :: u98 :: u99 :: u100 :: u101 :: u102 :: u103 :: u104 :: u105 :: u106 :: u107 :: u108 :: u109 :: u110 :: u111 :: u112 :: u113 :: u114 :: u115 :: u116 :: u117 :: u118 :: u119 :: y120 :: y121 :: y122 :: y123 :: y124 :: y125 :: y126 :: y127 :: y128 :: y129 :: y130 :: y131 :: y132 :: y133 :: y134 :: y135 :: y136 :: y137 :: y138 :: y139 :: y140 :: y141 :: y142 :: y143 :: y144 :: y145 :: y146 :: y147 :: y148 :: y149 :: y150 :: ([] : List Value)).toArray, []⟩ wx)) :
    Code.wp Try.prog tail17 Q ⟨(u0 :: Value.bool qu :: u2 :: u3 :: u4 :: Value.pointer (some ⟨g, 0, none⟩) :: Value.int .i64 jj :: Value.pointer (some ⟨Bo, 0, none⟩) :: u8 :: u9 :: u10 :: Value.bool fg :: Value.bool br :: u13 :: u14 :: u15 :: u16 :: u17 :: u18 :: u19 :: u20 :: u21 :: u22 :: u23 :: u24 :: u25 :: u26 :: u27 :: u28 :: u29 :: u30 :: u31 :: u32 :: u33 :: u34 :: u35 :: u36 :: u37 :: u38 :: u39 :: u40 :: u41 :: u42 :: u43 :: u44 :: u45 :: u46 :: u47 :: u48 :: u49 :: u50 :: u51 :: u52 :: u53 :: u54 :: u55 :: u56 :: u57 :: u58 :: u59 :: u60 :: u61 :: u62 :: u63 :: u64 :: u65 :: u66 :: u67 :: u68 :: u69 :: u70 :: u71 :: u72 :: u73 :: u74 :: u75 :: u76 :: u77 :: u78 :: u79 :: u80 :: u81 :: u82 :: u83 :: u84 :: u85 :: u86 :: u87 :: u88 :: u89 :: u90 :: u91 :: u92 :: u93 :: u94 :: u95 :: u96 :: u97 :: u98 :: u99 :: u100 :: u101 :: u102 :: u103 :: u104 :: u105 :: u106 :: u107 :: u108 :: u109 :: u110 :: u111 :: u112 :: u113 :: u114 :: u115 :: u116 :: u117 :: u118 :: u119 :: u120 :: u121 :: u122 :: u123 :: u124 :: u125 :: u126 :: u127 :: u128 :: u129 :: u130 :: u131 :: u132 :: u133 :: u134 :: u135 :: u136 :: u137 :: u138 :: u139 :: u140 :: u141 :: u142 :: u143 :: u144 :: u145 :: u146 :: u147 :: u148 :: u149 :: u150 :: ([] : List Value)).toArray, []⟩ V := by
  conv => arg 2; whnf
  have o0 : V.cell? ⟨Bo, 0, none⟩ = some (.int .i64 k) := op.cell 0
  have o1 : V.cell? ⟨Bo, 1, none⟩ = some (.int .i64 oa) := op.cell 1
  have opH := hide op
  clear op
  have e6 : (k == 6) = false := by simpa using hk
  have a1 : decide (oa < 0) = false := by simp; omega
  have a2 : decide ((n : Int) ≤ oa) = false := by simp; omega
  clear hk ha hb
  subst hfg hE
  go_wp2
  go_big_quiet (fail)
  have qd : Quiet V (V.drewN nq) := (Chg.refl _ _).drewN nq
  have Qd := hide qd
  have op2 := hide (qd.blk (unhide opH))
  clear o0 o1 opH c0 hgl
  generalize V.drewN nq = V1 at *
  clear qd nq
  have o0 : V1.cell? ⟨Bo, 0, none⟩ = some (.int .i64 k) := (unhide op2).cell 0
  have o1 : V1.cell? ⟨Bo, 1, none⟩ = some (.int .i64 oa) := (unhide op2).cell 1
  have o2 : V1.cell? ⟨Bo, 2, none⟩ = some (.int .i64 b) := (unhide op2).cell 2
  have o3 : V1.cell? ⟨Bo, 3, none⟩ = some (.int .i64 c) := (unhide op2).cell 3
  have o4 : V1.cell? ⟨Bo, 4, none⟩ = some (.string s) := (unhide op2).cell 4
  have o5 : V1.cell? ⟨Bo, 5, none⟩ = some (.string t) := (unhide op2).cell 5
  have how2 := hide (how V1 (unhide Qd))
  unfold ptr at how2
  clear how
  go_wp2_with fail
  refine (unhide how2).mono ?_
  clear how2 o0 o1 o2 o3 o4 o5
  rintro e V2 ⟨rfl, q2⟩
  have Q2 := hide (Quiet.trans (unhide Qd) q2)
  have op3 := hide (q2.blk (unhide op2))
  clear q2 op2
  have hko2 : Hid (KO B V V2 g n C) := by
    obtain ⟨⟨S', W', h1⟩, h2⟩ := hko
    exact ⟨⟨S', W', h1.quiet (unhide Q2)⟩, h2.trans ((unhide Q2).chg _)⟩
  clear hko
  go_wp2
  exact unhide hQ _ _ _ _ _ _ _ _ _ _ _ _ _ _ _ _ _ _ _ _ _ _ _ _ _ _ _ _ _ _ _ _ _ _ (.inr rfl) (unhide hko2)
end Go.Proofs.Qxb6500367a
