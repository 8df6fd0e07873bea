/-
  369 Keeps: Looked's first loop: one node, case by case. (gen9look.py)
-/
import Derived.Test.Qxb6500369aKSet
import Derived.Test.Qxb6500369aKWor
namespace Go.Proofs.Qxb6500369a
open Go.RowKit Go.Qx
set_option linter.unusedSimpArgs false
set_option linter.unusedVariables false

def cFst : Code → Code
  | .seq a _ => a
  | c => c
def cBlk : Code → Code
  | .block _ c => c
  | c => c
def cLoop : Code → Code
  | .loop c => c
  | c => c
noncomputable def body19 : Code := match Try.f19.body with
  | some c => c
  | none => .skip
/-- Looked's first round, behind its Node. -/
noncomputable def round19 : Code := cSnd (cBlk (cFst (cSnd (cLoop (cBlk (cSnd (cFst (cSnd (cSnd body19)))))))))
/-- Looked behind its first loop. -/
noncomputable def tail19 : Code := cSnd (cSnd (cSnd body19))

/-- What a round reads. -/
structure LkR (V : World) (B g ib n ci i top done : Nat) (mode T id st lead reach got : Int) : Prop where
  nd : Blk V B 28 [.int .i64 id, .int .i64 st, .int .i64 lead, .int .i64 reach, .int .i64 got]
  c0 : V.cell? ⟨g, 0, none⟩ = some (.slice (some ⟨ib, 0, none⟩) n ci)
  c6 : V.cell? ⟨g, 6, none⟩ = some (.int .i64 top)
  c7 : V.cell? ⟨g, 7, none⟩ = some (.int .i64 mode)
  c8 : V.cell? ⟨g, 8, none⟩ = some (.int .i64 done)
  ci : V.cell? ⟨ib, i, none⟩ = some (.int .i64 id)
  ct : V.cell? ⟨ib, top, none⟩ = some (.int .i64 T)
theorem LkR.quiet {V V' : World} {B g ib n ci i top done : Nat} {mode T id st lead reach got : Int} (h : LkR V B g ib n ci i top done mode T id st lead reach got) (q : Quiet V V') : LkR V' B g ib n ci i top done mode T id st lead reach got :=
  ⟨q.blk h.nd, q.cell h.c0, q.cell h.c6, q.cell h.c7, q.cell h.c8, q.cell h.ci, q.cell h.ct⟩

set_option maxHeartbeats 8000000 in
set_option maxRecDepth 100000 in
theorem lk_0a (V0 : World) (B g ib n ci i top done : Nat) (mode T id lead reach got : Int) (F0 : Hid (LkR V0 B g ib n ci i top done mode T id 0 lead reach got)) (h8 : n ≤ 8) (hi : i < n) (ht : top < n) (hr : reach ≤ 1)
    (u0 u3 u4 u5 u6 u11 u12 u13 u14 u15 u16 u17 u18 u19 u20 u21 u22 u23 u24 u25 u26 u27 u28 u29 u30 u31 u32 u33 u34 u35 u36 u37 u38 u39 u40 u41 u42 u43 u44 u45 u46 u47 u48 u49 u50 u51 u52 u53 u54 u55 u56 u57 u58 u59 u60 u61 u62 u63 u64 u65 u66 u67 u68 u69 u70 u71 u72 u73 u74 u75 u76 u77 u78 u79 u80 u81 u82 u83 u84 u85 u86 u87 u88 u89 u90 u91 u92 u93 u94 u95 u96 u97 u98 u99 u100 u101 u102 u103 u104 u105 u106 u107 u108 u109 u110 u111 u112 u113 u114 u115 u116 u117 u118 u119 u120 u121 u122 u123 u124 u125 u126 u127 u128 u129 u130 u131 u132 u133 u134 u135 u136 u137 u138 u139 u140 u141 u142 u143 u144 u145 u146 u147 u148 u149 u150 u151 u152 u153 u154 u155 u156 u157 u158 u159 u160 u161 u162 u163 u164 u165 u166 u167 u168 u169 u170 u171 u172 u173 u174 u175 u176 u177 u178 u179 u180 u181 u182 u183 u184 u185 u186 u187 u188 u189 u190 u191 u192 u193 u194 u195 u196 u197 u198 u199 u200 u201 u202 u203 u204 u205 u206 u207 u208 u209 u210 u211 u212 u213 u214 u215 u216 u217 u218 u219 u220 u221 u222 u223 u224 u225 u226 u227 u228 u229 u230 u231 u232 u233 u234 u235 u236 u237 u238 u239 u240 u241 u242 u243 u244 u245 u246 u247 u248 u249 u250 u251 u252 u253 u254 u255 u256 u257 u258 u259 u260 u261 u262 u263 u264 : Value) (Q : Exit → Act → World → Prop) (hQ : Hid (∀ (y11 y12 y36 y37 y38 y39 y40 y41 y42 y43 y44 y45 y46 y47 y48 y49 y50 y51 y52 y53 y54 y55 y56 y57 y58 y59 y60 y61 y62 y63 y64 y65 y66 y67 y68 y69 y70 y71 y72 y73 y74 y75 y76 y77 y78 y79 y80 y81 y82 y83 y84 y85 y86 y87 y88 y89 y90 y91 y92 y93 y94 y95 y96 y97 y98 y99 y100 y101 y102 y103 y104 y105 y106 y107 y108 y109 y110 y111 y112 y113 y114 y115 y116 y117 y118 y119 y120 y121 y122 y123 y124 y125 y126 y127 y128 y129 y130 y131 y132 y133 y134 y135 y136 y137 y138 y139 y140 y141 y142 y143 y144 y145 y146 y147 y148 y149 y150 y151 y152 y153 y154 y155 y156 y157 y158 y159 y160 y161 y162 y163 y164 y165 : Value) wx, Quiet V0 wx → Q .normal ⟨(u0 :: Value.pointer (some ⟨g, 0, none⟩) :: Value.bool false :: u3 :: u4 :: u5 :: u6 :: Value.int .i64 (n : Int) :: Value.int .i64 (i : Int) :: Value.pointer (some ⟨B, 0, none⟩) :: Value.int .i64 0 :: y11 :: y12 :: u13 :: u14 :: u15 :: u16 :: u17 :: u18 :: u19 :: u20 :: u21 :: u22 :: u23 :: u24 :: u25 :: u26 :: u27 :: u28 :: u29 :: u30 :: u31 :: u32 :: u33 :: u34 :: u35 :: y36 :: y37 :: y38 :: y39 :: y40 :: y41 :: y42 :: y43 :: y44 :: y45 :: y46 :: y47 :: y48 :: y49 :: y50 :: y51 :: y52 :: y53 :: y54 :: y55 :: y56 :: y57 :: y58 :: y59 :: y60 :: y61 :: y62 :: y63 :: y64 :: y65 :: y66 :: y67 :: y68 :: y69 :: y70 :: y71 :: y72 :: y73 :: y74 :: y75 :: y76 :: y77 :: y78 :: y79 :: y80 :: y81 :: y82 :: y83 :: y84 :: y85 :: y86 :: y87 :: y88 :: y89 :: y90 :: y91 :: y92 :: y93 :: y94 :: y95 :: y96 :: y97 :: y98 :: y99 :: y100 :: y101 :: y102 :: y103 :: y104 :: y105 :: y106 :: y107 :: y108 :: y109 :: y110 :: y111 :: y112 :: y113 :: y114 :: y115 :: y116 :: y117 :: y118 :: y119 :: y120 :: y121 :: y122 :: y123 :: y124 :: y125 :: y126 :: y127 :: y128 :: y129 :: y130 :: y131 :: y132 :: y133 :: y134 :: y135 :: y136 :: y137 :: y138 :: y139 :: y140 :: y141 :: y142 :: y143 :: y144 :: y145 :: y146 :: y147 :: y148 :: y149 :: y150 :: y151 :: y152 :: y153 :: y154 :: y155 :: y156 :: y157 :: y158 :: y159 :: y160 :: y161 :: y162 :: y163 :: y164 :: y165 :: u166 :: u167 :: u168 :: u169 :: u170 :: u171 :: u172 :: u173 :: u174 :: u175 :: u176 :: u177 :: u178 :: u179 :: u180 :: u181 :: u182 :: u183 :: u184 :: u185 :: u186 :: u187 :: u188 :: u189 :: u190 :: u191 :: u192 :: u193 :: u194 :: u195 :: u196 :: u197 :: u198 :: u199 :: u200 :: u201 :: u202 :: u203 :: u204 :: u205 :: u206 :: u207 :: u208 :: u209 :: u210 :: u211 :: u212 :: u213 :: u214 :: u215 :: u216 :: u217 :: u218 :: u219 :: u220 :: u221 :: u222 :: u223 :: u224 :: u225 :: u226 :: u227 :: u228 :: u229 :: u230 :: u231 :: u232 :: u233 :: u234 :: u235 :: u236 :: u237 :: u238 :: u239 :: u240 :: u241 :: u242 :: u243 :: u244 :: u245 :: u246 :: u247 :: u248 :: u249 :: u250 :: u251 :: u252 :: u253 :: u254 :: u255 :: u256 :: u257 :: u258 :: u259 :: u260 :: u261 :: u262 :: u263 :: u264 :: ([] : List Value)).toArray, []⟩ wx)) :
    Code.wp Try.prog round19 Q ⟨(u0 :: Value.pointer (some ⟨g, 0, none⟩) :: Value.bool false :: u3 :: u4 :: u5 :: u6 :: Value.int .i64 (n : Int) :: Value.int .i64 (i : Int) :: Value.pointer (some ⟨B, 0, none⟩) :: Value.int .i64 0 :: u11 :: u12 :: u13 :: u14 :: u15 :: u16 :: u17 :: u18 :: u19 :: u20 :: u21 :: u22 :: u23 :: u24 :: u25 :: u26 :: u27 :: u28 :: u29 :: u30 :: u31 :: u32 :: u33 :: u34 :: u35 :: u36 :: u37 :: u38 :: u39 :: u40 :: u41 :: u42 :: u43 :: u44 :: u45 :: u46 :: u47 :: u48 :: u49 :: u50 :: u51 :: u52 :: u53 :: u54 :: u55 :: u56 :: u57 :: u58 :: u59 :: u60 :: u61 :: u62 :: u63 :: u64 :: u65 :: u66 :: u67 :: u68 :: u69 :: u70 :: u71 :: u72 :: u73 :: u74 :: u75 :: u76 :: u77 :: u78 :: u79 :: u80 :: u81 :: u82 :: u83 :: u84 :: u85 :: u86 :: u87 :: u88 :: u89 :: u90 :: u91 :: u92 :: u93 :: u94 :: u95 :: u96 :: u97 :: u98 :: u99 :: u100 :: u101 :: u102 :: u103 :: u104 :: u105 :: u106 :: u107 :: u108 :: u109 :: u110 :: u111 :: u112 :: u113 :: u114 :: u115 :: u116 :: u117 :: u118 :: u119 :: u120 :: u121 :: u122 :: u123 :: u124 :: u125 :: u126 :: u127 :: u128 :: u129 :: u130 :: u131 :: u132 :: u133 :: u134 :: u135 :: u136 :: u137 :: u138 :: u139 :: u140 :: u141 :: u142 :: u143 :: u144 :: u145 :: u146 :: u147 :: u148 :: u149 :: u150 :: u151 :: u152 :: u153 :: u154 :: u155 :: u156 :: u157 :: u158 :: u159 :: u160 :: u161 :: u162 :: u163 :: u164 :: u165 :: u166 :: u167 :: u168 :: u169 :: u170 :: u171 :: u172 :: u173 :: u174 :: u175 :: u176 :: u177 :: u178 :: u179 :: u180 :: u181 :: u182 :: u183 :: u184 :: u185 :: u186 :: u187 :: u188 :: u189 :: u190 :: u191 :: u192 :: u193 :: u194 :: u195 :: u196 :: u197 :: u198 :: u199 :: u200 :: u201 :: u202 :: u203 :: u204 :: u205 :: u206 :: u207 :: u208 :: u209 :: u210 :: u211 :: u212 :: u213 :: u214 :: u215 :: u216 :: u217 :: u218 :: u219 :: u220 :: u221 :: u222 :: u223 :: u224 :: u225 :: u226 :: u227 :: u228 :: u229 :: u230 :: u231 :: u232 :: u233 :: u234 :: u235 :: u236 :: u237 :: u238 :: u239 :: u240 :: u241 :: u242 :: u243 :: u244 :: u245 :: u246 :: u247 :: u248 :: u249 :: u250 :: u251 :: u252 :: u253 :: u254 :: u255 :: u256 :: u257 :: u258 :: u259 :: u260 :: u261 :: u262 :: u263 :: u264 :: ([] : List Value)).toArray, []⟩ V0 := by
  conv => arg 2; whnf
  have Q0 : Hid (Quiet V0 V0) := Quiet.refl _
  have i0 : (0 : Int) ≤ (i : Int) := by omega
  have i1 : (i : Int) < (n : Int) := by omega
  have t0 : (0 : Int) ≤ (top : Int) := by omega
  have t1 : (top : Int) < (n : Int) := by omega
  have eid : (id == id) = true := by simp
  have eid2 : (id != id) = false := by simp
  have eT : (T == T) = true := by simp
  have eT2 : (T != T) = false := by simp
  have r1 : decide (1 < reach) = false := by simp; omega
  have r1' : ¬ (1 : Int) < reach := by omega
  have d0 := (unhide F0).nd.cell 0
  have d1 := (unhide F0).nd.cell 1
  have d2 := (unhide F0).nd.cell 2
  have d3 := (unhide F0).nd.cell 3
  simp at d0 d1 d2 d3
  have c0 := (unhide F0).c0
  have c6 := (unhide F0).c6
  have c7 := (unhide F0).c7
  have c8 := (unhide F0).c8
  have ci_ := (unhide F0).ci
  have ct := (unhide F0).ct
  go_wp2
  go_big_quiet (fail)
  have qd : Quiet V0 (V0.drewN nq) := (Chg.refl _ _).drewN nq
  have F1 := hide ((unhide F0).quiet qd)
  have Q1 := hide (Quiet.trans (unhide Q0) qd)
  clear d0 d1 d2 d3 c0 c6 c7 c8 ci_ ct F0 Q0
  generalize V0.drewN nq = V1 at *
  clear qd nq
  have d0 := (unhide F1).nd.cell 0
  have d1 := (unhide F1).nd.cell 1
  have d2 := (unhide F1).nd.cell 2
  have d3 := (unhide F1).nd.cell 3
  simp at d0 d1 d2 d3
  have c0 := (unhide F1).c0
  have c6 := (unhide F1).c6
  have c7 := (unhide F1).c7
  have c8 := (unhide F1).c8
  have ci_ := (unhide F1).ci
  have ct := (unhide F1).ct
  go_wp2
  go_big_quiet (fail)
  have qd : Quiet V1 (V1.drewN nq) := (Chg.refl _ _).drewN nq
  have F2 := hide ((unhide F1).quiet qd)
  have Q2 := hide (Quiet.trans (unhide Q1) qd)
  clear d0 d1 d2 d3 c0 c6 c7 c8 ci_ ct F1 Q1
  generalize V1.drewN nq = V2 at *
  clear qd nq
  have d0 := (unhide F2).nd.cell 0
  have d1 := (unhide F2).nd.cell 1
  have d2 := (unhide F2).nd.cell 2
  have d3 := (unhide F2).nd.cell 3
  simp at d0 d1 d2 d3
  have c0 := (unhide F2).c0
  have c6 := (unhide F2).c6
  have c7 := (unhide F2).c7
  have c8 := (unhide F2).c8
  have ci_ := (unhide F2).ci
  have ct := (unhide F2).ct
  go_wp2
  exact unhide hQ _ _ _ _ _ _ _ _ _ _ _ _ _ _ _ _ _ _ _ _ _ _ _ _ _ _ _ _ _ _ _ _ _ _ _ _ _ _ _ _ _ _ _ _ _ _ _ _ _ _ _ _ _ _ _ _ _ _ _ _ _ _ _ _ _ _ _ _ _ _ _ _ _ _ _ _ _ _ _ _ _ _ _ _ _ _ _ _ _ _ _ _ _ _ _ _ _ _ _ _ _ _ _ _ _ _ _ _ _ _ _ _ _ _ _ _ _ _ _ _ _ _ _ _ _ _ _ _ _ _ _ _ _ (unhide Q2)

set_option maxHeartbeats 8000000 in
set_option maxRecDepth 100000 in
theorem lk_0b (V0 : World) (B g ib n ci i top done : Nat) (T id lead reach got : Int) (F0 : Hid (LkR V0 B g ib n ci i top done 1 T id 0 lead reach got)) (h8 : n ≤ 8) (hi : i < n) (ht : top < n) (hr : 1 < reach) (hq : reach / 2 < n)
    (u0 u3 u4 u5 u6 u11 u12 u13 u14 u15 u16 u17 u18 u19 u20 u21 u22 u23 u24 u25 u26 u27 u28 u29 u30 u31 u32 u33 u34 u35 u36 u37 u38 u39 u40 u41 u42 u43 u44 u45 u46 u47 u48 u49 u50 u51 u52 u53 u54 u55 u56 u57 u58 u59 u60 u61 u62 u63 u64 u65 u66 u67 u68 u69 u70 u71 u72 u73 u74 u75 u76 u77 u78 u79 u80 u81 u82 u83 u84 u85 u86 u87 u88 u89 u90 u91 u92 u93 u94 u95 u96 u97 u98 u99 u100 u101 u102 u103 u104 u105 u106 u107 u108 u109 u110 u111 u112 u113 u114 u115 u116 u117 u118 u119 u120 u121 u122 u123 u124 u125 u126 u127 u128 u129 u130 u131 u132 u133 u134 u135 u136 u137 u138 u139 u140 u141 u142 u143 u144 u145 u146 u147 u148 u149 u150 u151 u152 u153 u154 u155 u156 u157 u158 u159 u160 u161 u162 u163 u164 u165 u166 u167 u168 u169 u170 u171 u172 u173 u174 u175 u176 u177 u178 u179 u180 u181 u182 u183 u184 u185 u186 u187 u188 u189 u190 u191 u192 u193 u194 u195 u196 u197 u198 u199 u200 u201 u202 u203 u204 u205 u206 u207 u208 u209 u210 u211 u212 u213 u214 u215 u216 u217 u218 u219 u220 u221 u222 u223 u224 u225 u226 u227 u228 u229 u230 u231 u232 u233 u234 u235 u236 u237 u238 u239 u240 u241 u242 u243 u244 u245 u246 u247 u248 u249 u250 u251 u252 u253 u254 u255 u256 u257 u258 u259 u260 u261 u262 u263 u264 : Value) (Q : Exit → Act → World → Prop) (hQ : Hid (∀ (y11 y12 y36 y37 y38 y39 y40 y41 y42 y43 y44 y45 y46 y47 y48 y49 y50 y51 y52 y53 y54 y55 y56 y57 y58 y59 y60 y61 y62 y63 y64 y65 y66 y67 y68 y69 y70 y71 y72 y73 y74 y75 y76 y77 y78 y79 y80 y81 y82 y83 y84 y85 y86 y87 y88 y89 y90 y91 y92 y93 y94 y95 y96 y97 y98 y99 y100 y101 y102 y103 y104 y105 y106 y107 y108 y109 y110 y111 y112 y113 y114 y115 y116 y117 y118 y119 y120 y121 y122 y123 y124 y125 y126 y127 y128 y129 y130 y131 y132 y133 y134 y135 y136 y137 y138 y139 y140 y141 y142 y143 y144 y145 y146 y147 y148 y149 y150 y151 y152 y153 y154 y155 y156 y157 y158 y159 y160 y161 y162 y163 y164 y165 : Value) wx, Quiet V0 wx → Q .normal ⟨(u0 :: Value.pointer (some ⟨g, 0, none⟩) :: Value.bool false :: u3 :: u4 :: u5 :: u6 :: Value.int .i64 (n : Int) :: Value.int .i64 (i : Int) :: Value.pointer (some ⟨B, 0, none⟩) :: Value.int .i64 0 :: y11 :: y12 :: u13 :: u14 :: u15 :: u16 :: u17 :: u18 :: u19 :: u20 :: u21 :: u22 :: u23 :: u24 :: u25 :: u26 :: u27 :: u28 :: u29 :: u30 :: u31 :: u32 :: u33 :: u34 :: u35 :: y36 :: y37 :: y38 :: y39 :: y40 :: y41 :: y42 :: y43 :: y44 :: y45 :: y46 :: y47 :: y48 :: y49 :: y50 :: y51 :: y52 :: y53 :: y54 :: y55 :: y56 :: y57 :: y58 :: y59 :: y60 :: y61 :: y62 :: y63 :: y64 :: y65 :: y66 :: y67 :: y68 :: y69 :: y70 :: y71 :: y72 :: y73 :: y74 :: y75 :: y76 :: y77 :: y78 :: y79 :: y80 :: y81 :: y82 :: y83 :: y84 :: y85 :: y86 :: y87 :: y88 :: y89 :: y90 :: y91 :: y92 :: y93 :: y94 :: y95 :: y96 :: y97 :: y98 :: y99 :: y100 :: y101 :: y102 :: y103 :: y104 :: y105 :: y106 :: y107 :: y108 :: y109 :: y110 :: y111 :: y112 :: y113 :: y114 :: y115 :: y116 :: y117 :: y118 :: y119 :: y120 :: y121 :: y122 :: y123 :: y124 :: y125 :: y126 :: y127 :: y128 :: y129 :: y130 :: y131 :: y132 :: y133 :: y134 :: y135 :: y136 :: y137 :: y138 :: y139 :: y140 :: y141 :: y142 :: y143 :: y144 :: y145 :: y146 :: y147 :: y148 :: y149 :: y150 :: y151 :: y152 :: y153 :: y154 :: y155 :: y156 :: y157 :: y158 :: y159 :: y160 :: y161 :: y162 :: y163 :: y164 :: y165 :: u166 :: u167 :: u168 :: u169 :: u170 :: u171 :: u172 :: u173 :: u174 :: u175 :: u176 :: u177 :: u178 :: u179 :: u180 :: u181 :: u182 :: u183 :: u184 :: u185 :: u186 :: u187 :: u188 :: u189 :: u190 :: u191 :: u192 :: u193 :: u194 :: u195 :: u196 :: u197 :: u198 :: u199 :: u200 :: u201 :: u202 :: u203 :: u204 :: u205 :: u206 :: u207 :: u208 :: u209 :: u210 :: u211 :: u212 :: u213 :: u214 :: u215 :: u216 :: u217 :: u218 :: u219 :: u220 :: u221 :: u222 :: u223 :: u224 :: u225 :: u226 :: u227 :: u228 :: u229 :: u230 :: u231 :: u232 :: u233 :: u234 :: u235 :: u236 :: u237 :: u238 :: u239 :: u240 :: u241 :: u242 :: u243 :: u244 :: u245 :: u246 :: u247 :: u248 :: u249 :: u250 :: u251 :: u252 :: u253 :: u254 :: u255 :: u256 :: u257 :: u258 :: u259 :: u260 :: u261 :: u262 :: u263 :: u264 :: ([] : List Value)).toArray, []⟩ wx)) :
    Code.wp Try.prog round19 Q ⟨(u0 :: Value.pointer (some ⟨g, 0, none⟩) :: Value.bool false :: u3 :: u4 :: u5 :: u6 :: Value.int .i64 (n : Int) :: Value.int .i64 (i : Int) :: Value.pointer (some ⟨B, 0, none⟩) :: Value.int .i64 0 :: u11 :: u12 :: u13 :: u14 :: u15 :: u16 :: u17 :: u18 :: u19 :: u20 :: u21 :: u22 :: u23 :: u24 :: u25 :: u26 :: u27 :: u28 :: u29 :: u30 :: u31 :: u32 :: u33 :: u34 :: u35 :: u36 :: u37 :: u38 :: u39 :: u40 :: u41 :: u42 :: u43 :: u44 :: u45 :: u46 :: u47 :: u48 :: u49 :: u50 :: u51 :: u52 :: u53 :: u54 :: u55 :: u56 :: u57 :: u58 :: u59 :: u60 :: u61 :: u62 :: u63 :: u64 :: u65 :: u66 :: u67 :: u68 :: u69 :: u70 :: u71 :: u72 :: u73 :: u74 :: u75 :: u76 :: u77 :: u78 :: u79 :: u80 :: u81 :: u82 :: u83 :: u84 :: u85 :: u86 :: u87 :: u88 :: u89 :: u90 :: u91 :: u92 :: u93 :: u94 :: u95 :: u96 :: u97 :: u98 :: u99 :: u100 :: u101 :: u102 :: u103 :: u104 :: u105 :: u106 :: u107 :: u108 :: u109 :: u110 :: u111 :: u112 :: u113 :: u114 :: u115 :: u116 :: u117 :: u118 :: u119 :: u120 :: u121 :: u122 :: u123 :: u124 :: u125 :: u126 :: u127 :: u128 :: u129 :: u130 :: u131 :: u132 :: u133 :: u134 :: u135 :: u136 :: u137 :: u138 :: u139 :: u140 :: u141 :: u142 :: u143 :: u144 :: u145 :: u146 :: u147 :: u148 :: u149 :: u150 :: u151 :: u152 :: u153 :: u154 :: u155 :: u156 :: u157 :: u158 :: u159 :: u160 :: u161 :: u162 :: u163 :: u164 :: u165 :: u166 :: u167 :: u168 :: u169 :: u170 :: u171 :: u172 :: u173 :: u174 :: u175 :: u176 :: u177 :: u178 :: u179 :: u180 :: u181 :: u182 :: u183 :: u184 :: u185 :: u186 :: u187 :: u188 :: u189 :: u190 :: u191 :: u192 :: u193 :: u194 :: u195 :: u196 :: u197 :: u198 :: u199 :: u200 :: u201 :: u202 :: u203 :: u204 :: u205 :: u206 :: u207 :: u208 :: u209 :: u210 :: u211 :: u212 :: u213 :: u214 :: u215 :: u216 :: u217 :: u218 :: u219 :: u220 :: u221 :: u222 :: u223 :: u224 :: u225 :: u226 :: u227 :: u228 :: u229 :: u230 :: u231 :: u232 :: u233 :: u234 :: u235 :: u236 :: u237 :: u238 :: u239 :: u240 :: u241 :: u242 :: u243 :: u244 :: u245 :: u246 :: u247 :: u248 :: u249 :: u250 :: u251 :: u252 :: u253 :: u254 :: u255 :: u256 :: u257 :: u258 :: u259 :: u260 :: u261 :: u262 :: u263 :: u264 :: ([] : List Value)).toArray, []⟩ V0 := by
  conv => arg 2; whnf
  have Q0 : Hid (Quiet V0 V0) := Quiet.refl _
  have i0 : (0 : Int) ≤ (i : Int) := by omega
  have i1 : (i : Int) < (n : Int) := by omega
  have t0 : (0 : Int) ≤ (top : Int) := by omega
  have t1 : (top : Int) < (n : Int) := by omega
  have eid : (id == id) = true := by simp
  have eid2 : (id != id) = false := by simp
  have eT : (T == T) = true := by simp
  have eT2 : (T != T) = false := by simp
  have r1 : decide (1 < reach) = true := by simp; omega
  have hdv : reach.tdiv 2 = reach / 2 := Int.tdiv_eq_ediv_of_nonneg (by omega)
  have r2 : decide ((n : Int) ≤ reach / 2) = false := by simp; omega
  have r2' : ¬ (n : Int) ≤ reach / 2 := by omega
  have d0 := (unhide F0).nd.cell 0
  have d1 := (unhide F0).nd.cell 1
  have d2 := (unhide F0).nd.cell 2
  have d3 := (unhide F0).nd.cell 3
  simp at d0 d1 d2 d3
  have c0 := (unhide F0).c0
  have c6 := (unhide F0).c6
  have c7 := (unhide F0).c7
  have c8 := (unhide F0).c8
  have ci_ := (unhide F0).ci
  have ct := (unhide F0).ct
  go_wp2
  go_big_quiet (fail)
  have qd : Quiet V0 (V0.drewN nq) := (Chg.refl _ _).drewN nq
  have F1 := hide ((unhide F0).quiet qd)
  have Q1 := hide (Quiet.trans (unhide Q0) qd)
  clear d0 d1 d2 d3 c0 c6 c7 c8 ci_ ct F0 Q0
  generalize V0.drewN nq = V1 at *
  clear qd nq
  have d0 := (unhide F1).nd.cell 0
  have d1 := (unhide F1).nd.cell 1
  have d2 := (unhide F1).nd.cell 2
  have d3 := (unhide F1).nd.cell 3
  simp at d0 d1 d2 d3
  have c0 := (unhide F1).c0
  have c6 := (unhide F1).c6
  have c7 := (unhide F1).c7
  have c8 := (unhide F1).c8
  have ci_ := (unhide F1).ci
  have ct := (unhide F1).ct
  go_wp2
  go_big_quiet (fail)
  have qd : Quiet V1 (V1.drewN nq) := (Chg.refl _ _).drewN nq
  have F2 := hide ((unhide F1).quiet qd)
  have Q2 := hide (Quiet.trans (unhide Q1) qd)
  clear d0 d1 d2 d3 c0 c6 c7 c8 ci_ ct F1 Q1
  generalize V1.drewN nq = V2 at *
  clear qd nq
  have d0 := (unhide F2).nd.cell 0
  have d1 := (unhide F2).nd.cell 1
  have d2 := (unhide F2).nd.cell 2
  have d3 := (unhide F2).nd.cell 3
  simp at d0 d1 d2 d3
  have c0 := (unhide F2).c0
  have c6 := (unhide F2).c6
  have c7 := (unhide F2).c7
  have c8 := (unhide F2).c8
  have ci_ := (unhide F2).ci
  have ct := (unhide F2).ct
  go_wp2
  exact unhide hQ _ _ _ _ _ _ _ _ _ _ _ _ _ _ _ _ _ _ _ _ _ _ _ _ _ _ _ _ _ _ _ _ _ _ _ _ _ _ _ _ _ _ _ _ _ _ _ _ _ _ _ _ _ _ _ _ _ _ _ _ _ _ _ _ _ _ _ _ _ _ _ _ _ _ _ _ _ _ _ _ _ _ _ _ _ _ _ _ _ _ _ _ _ _ _ _ _ _ _ _ _ _ _ _ _ _ _ _ _ _ _ _ _ _ _ _ _ _ _ _ _ _ _ _ _ _ _ _ _ _ _ _ _ (unhide Q2)

set_option maxHeartbeats 8000000 in
set_option maxRecDepth 100000 in
theorem lk_1af (V0 : World) (B g ib n ci i top done : Nat) (mode T id reach got : Int) (F0 : Hid (LkR V0 B g ib n ci i top done mode T id 1 T reach got)) (h8 : n ≤ 8) (hi : i < n) (ht : top < n) (hne : i ≠ top) (hdn : n ≤ done) (hr : reach ≤ 1)
    (u0 u3 u4 u5 u6 u11 u12 u13 u14 u15 u16 u17 u18 u19 u20 u21 u22 u23 u24 u25 u26 u27 u28 u29 u30 u31 u32 u33 u34 u35 u36 u37 u38 u39 u40 u41 u42 u43 u44 u45 u46 u47 u48 u49 u50 u51 u52 u53 u54 u55 u56 u57 u58 u59 u60 u61 u62 u63 u64 u65 u66 u67 u68 u69 u70 u71 u72 u73 u74 u75 u76 u77 u78 u79 u80 u81 u82 u83 u84 u85 u86 u87 u88 u89 u90 u91 u92 u93 u94 u95 u96 u97 u98 u99 u100 u101 u102 u103 u104 u105 u106 u107 u108 u109 u110 u111 u112 u113 u114 u115 u116 u117 u118 u119 u120 u121 u122 u123 u124 u125 u126 u127 u128 u129 u130 u131 u132 u133 u134 u135 u136 u137 u138 u139 u140 u141 u142 u143 u144 u145 u146 u147 u148 u149 u150 u151 u152 u153 u154 u155 u156 u157 u158 u159 u160 u161 u162 u163 u164 u165 u166 u167 u168 u169 u170 u171 u172 u173 u174 u175 u176 u177 u178 u179 u180 u181 u182 u183 u184 u185 u186 u187 u188 u189 u190 u191 u192 u193 u194 u195 u196 u197 u198 u199 u200 u201 u202 u203 u204 u205 u206 u207 u208 u209 u210 u211 u212 u213 u214 u215 u216 u217 u218 u219 u220 u221 u222 u223 u224 u225 u226 u227 u228 u229 u230 u231 u232 u233 u234 u235 u236 u237 u238 u239 u240 u241 u242 u243 u244 u245 u246 u247 u248 u249 u250 u251 u252 u253 u254 u255 u256 u257 u258 u259 u260 u261 u262 u263 u264 : Value) (Q : Exit → Act → World → Prop) (hQ : Hid (∀ (y11 y12 y36 y37 y38 y39 y40 y41 y42 y43 y44 y45 y46 y47 y48 y49 y50 y51 y52 y53 y54 y55 y56 y57 y58 y59 y60 y61 y62 y63 y64 y65 y66 y67 y68 y69 y70 y71 y72 y73 y74 y75 y76 y77 y78 y79 y80 y81 y82 y83 y84 y85 y86 y87 y88 y89 y90 y91 y92 y93 y94 y95 y96 y97 y98 y99 y100 y101 y102 y103 y104 y105 y106 y107 y108 y109 y110 y111 y112 y113 y114 y115 y116 y117 y118 y119 y120 y121 y122 y123 y124 y125 y126 y127 y128 y129 y130 y131 y132 y133 y134 y135 y136 y137 y138 y139 y140 y141 y142 y143 y144 y145 y146 y147 y148 y149 y150 y151 y152 y153 y154 y155 y156 y157 y158 y159 y160 y161 y162 y163 y164 y165 : Value) wx, Quiet V0 wx → Q .normal ⟨(u0 :: Value.pointer (some ⟨g, 0, none⟩) :: Value.bool false :: u3 :: u4 :: u5 :: u6 :: Value.int .i64 (n : Int) :: Value.int .i64 (i : Int) :: Value.pointer (some ⟨B, 0, none⟩) :: Value.int .i64 0 :: y11 :: y12 :: u13 :: u14 :: u15 :: u16 :: u17 :: u18 :: u19 :: u20 :: u21 :: u22 :: u23 :: u24 :: u25 :: u26 :: u27 :: u28 :: u29 :: u30 :: u31 :: u32 :: u33 :: u34 :: u35 :: y36 :: y37 :: y38 :: y39 :: y40 :: y41 :: y42 :: y43 :: y44 :: y45 :: y46 :: y47 :: y48 :: y49 :: y50 :: y51 :: y52 :: y53 :: y54 :: y55 :: y56 :: y57 :: y58 :: y59 :: y60 :: y61 :: y62 :: y63 :: y64 :: y65 :: y66 :: y67 :: y68 :: y69 :: y70 :: y71 :: y72 :: y73 :: y74 :: y75 :: y76 :: y77 :: y78 :: y79 :: y80 :: y81 :: y82 :: y83 :: y84 :: y85 :: y86 :: y87 :: y88 :: y89 :: y90 :: y91 :: y92 :: y93 :: y94 :: y95 :: y96 :: y97 :: y98 :: y99 :: y100 :: y101 :: y102 :: y103 :: y104 :: y105 :: y106 :: y107 :: y108 :: y109 :: y110 :: y111 :: y112 :: y113 :: y114 :: y115 :: y116 :: y117 :: y118 :: y119 :: y120 :: y121 :: y122 :: y123 :: y124 :: y125 :: y126 :: y127 :: y128 :: y129 :: y130 :: y131 :: y132 :: y133 :: y134 :: y135 :: y136 :: y137 :: y138 :: y139 :: y140 :: y141 :: y142 :: y143 :: y144 :: y145 :: y146 :: y147 :: y148 :: y149 :: y150 :: y151 :: y152 :: y153 :: y154 :: y155 :: y156 :: y157 :: y158 :: y159 :: y160 :: y161 :: y162 :: y163 :: y164 :: y165 :: u166 :: u167 :: u168 :: u169 :: u170 :: u171 :: u172 :: u173 :: u174 :: u175 :: u176 :: u177 :: u178 :: u179 :: u180 :: u181 :: u182 :: u183 :: u184 :: u185 :: u186 :: u187 :: u188 :: u189 :: u190 :: u191 :: u192 :: u193 :: u194 :: u195 :: u196 :: u197 :: u198 :: u199 :: u200 :: u201 :: u202 :: u203 :: u204 :: u205 :: u206 :: u207 :: u208 :: u209 :: u210 :: u211 :: u212 :: u213 :: u214 :: u215 :: u216 :: u217 :: u218 :: u219 :: u220 :: u221 :: u222 :: u223 :: u224 :: u225 :: u226 :: u227 :: u228 :: u229 :: u230 :: u231 :: u232 :: u233 :: u234 :: u235 :: u236 :: u237 :: u238 :: u239 :: u240 :: u241 :: u242 :: u243 :: u244 :: u245 :: u246 :: u247 :: u248 :: u249 :: u250 :: u251 :: u252 :: u253 :: u254 :: u255 :: u256 :: u257 :: u258 :: u259 :: u260 :: u261 :: u262 :: u263 :: u264 :: ([] : List Value)).toArray, []⟩ wx)) :
    Code.wp Try.prog round19 Q ⟨(u0 :: Value.pointer (some ⟨g, 0, none⟩) :: Value.bool false :: u3 :: u4 :: u5 :: u6 :: Value.int .i64 (n : Int) :: Value.int .i64 (i : Int) :: Value.pointer (some ⟨B, 0, none⟩) :: Value.int .i64 0 :: u11 :: u12 :: u13 :: u14 :: u15 :: u16 :: u17 :: u18 :: u19 :: u20 :: u21 :: u22 :: u23 :: u24 :: u25 :: u26 :: u27 :: u28 :: u29 :: u30 :: u31 :: u32 :: u33 :: u34 :: u35 :: u36 :: u37 :: u38 :: u39 :: u40 :: u41 :: u42 :: u43 :: u44 :: u45 :: u46 :: u47 :: u48 :: u49 :: u50 :: u51 :: u52 :: u53 :: u54 :: u55 :: u56 :: u57 :: u58 :: u59 :: u60 :: u61 :: u62 :: u63 :: u64 :: u65 :: u66 :: u67 :: u68 :: u69 :: u70 :: u71 :: u72 :: u73 :: u74 :: u75 :: u76 :: u77 :: u78 :: u79 :: u80 :: u81 :: u82 :: u83 :: u84 :: u85 :: u86 :: u87 :: u88 :: u89 :: u90 :: u91 :: u92 :: u93 :: u94 :: u95 :: u96 :: u97 :: u98 :: u99 :: u100 :: u101 :: u102 :: u103 :: u104 :: u105 :: u106 :: u107 :: u108 :: u109 :: u110 :: u111 :: u112 :: u113 :: u114 :: u115 :: u116 :: u117 :: u118 :: u119 :: u120 :: u121 :: u122 :: u123 :: u124 :: u125 :: u126 :: u127 :: u128 :: u129 :: u130 :: u131 :: u132 :: u133 :: u134 :: u135 :: u136 :: u137 :: u138 :: u139 :: u140 :: u141 :: u142 :: u143 :: u144 :: u145 :: u146 :: u147 :: u148 :: u149 :: u150 :: u151 :: u152 :: u153 :: u154 :: u155 :: u156 :: u157 :: u158 :: u159 :: u160 :: u161 :: u162 :: u163 :: u164 :: u165 :: u166 :: u167 :: u168 :: u169 :: u170 :: u171 :: u172 :: u173 :: u174 :: u175 :: u176 :: u177 :: u178 :: u179 :: u180 :: u181 :: u182 :: u183 :: u184 :: u185 :: u186 :: u187 :: u188 :: u189 :: u190 :: u191 :: u192 :: u193 :: u194 :: u195 :: u196 :: u197 :: u198 :: u199 :: u200 :: u201 :: u202 :: u203 :: u204 :: u205 :: u206 :: u207 :: u208 :: u209 :: u210 :: u211 :: u212 :: u213 :: u214 :: u215 :: u216 :: u217 :: u218 :: u219 :: u220 :: u221 :: u222 :: u223 :: u224 :: u225 :: u226 :: u227 :: u228 :: u229 :: u230 :: u231 :: u232 :: u233 :: u234 :: u235 :: u236 :: u237 :: u238 :: u239 :: u240 :: u241 :: u242 :: u243 :: u244 :: u245 :: u246 :: u247 :: u248 :: u249 :: u250 :: u251 :: u252 :: u253 :: u254 :: u255 :: u256 :: u257 :: u258 :: u259 :: u260 :: u261 :: u262 :: u263 :: u264 :: ([] : List Value)).toArray, []⟩ V0 := by
  conv => arg 2; whnf
  have Q0 : Hid (Quiet V0 V0) := Quiet.refl _
  have i0 : (0 : Int) ≤ (i : Int) := by omega
  have i1 : (i : Int) < (n : Int) := by omega
  have t0 : (0 : Int) ≤ (top : Int) := by omega
  have t1 : (top : Int) < (n : Int) := by omega
  have eid : (id == id) = true := by simp
  have eid2 : (id != id) = false := by simp
  have eT : (T == T) = true := by simp
  have eT2 : (T != T) = false := by simp
  have ne1 : ((i : Int) == (top : Int)) = false := by simp; omega
  have ne2 : ((i : Int) != (top : Int)) = true := by rw [bne, ne1]; rfl
  have dn : decide ((done : Int) < (n : Int)) = false := by simp; omega
  have dn' : ¬ (done : Int) < (n : Int) := by omega
  have r1 : decide (1 < reach) = false := by simp; omega
  have r1' : ¬ (1 : Int) < reach := by omega
  have d0 := (unhide F0).nd.cell 0
  have d1 := (unhide F0).nd.cell 1
  have d2 := (unhide F0).nd.cell 2
  have d3 := (unhide F0).nd.cell 3
  simp at d0 d1 d2 d3
  have c0 := (unhide F0).c0
  have c6 := (unhide F0).c6
  have c7 := (unhide F0).c7
  have c8 := (unhide F0).c8
  have ci_ := (unhide F0).ci
  have ct := (unhide F0).ct
  go_wp2
  go_big_quiet (fail)
  have qd : Quiet V0 (V0.drewN nq) := (Chg.refl _ _).drewN nq
  have F1 := hide ((unhide F0).quiet qd)
  have Q1 := hide (Quiet.trans (unhide Q0) qd)
  clear d0 d1 d2 d3 c0 c6 c7 c8 ci_ ct F0 Q0
  generalize V0.drewN nq = V1 at *
  clear qd nq
  have d0 := (unhide F1).nd.cell 0
  have d1 := (unhide F1).nd.cell 1
  have d2 := (unhide F1).nd.cell 2
  have d3 := (unhide F1).nd.cell 3
  simp at d0 d1 d2 d3
  have c0 := (unhide F1).c0
  have c6 := (unhide F1).c6
  have c7 := (unhide F1).c7
  have c8 := (unhide F1).c8
  have ci_ := (unhide F1).ci
  have ct := (unhide F1).ct
  go_wp2
  go_big_quiet (fail)
  have qd : Quiet V1 (V1.drewN nq) := (Chg.refl _ _).drewN nq
  have F2 := hide ((unhide F1).quiet qd)
  have Q2 := hide (Quiet.trans (unhide Q1) qd)
  clear d0 d1 d2 d3 c0 c6 c7 c8 ci_ ct F1 Q1
  generalize V1.drewN nq = V2 at *
  clear qd nq
  have d0 := (unhide F2).nd.cell 0
  have d1 := (unhide F2).nd.cell 1
  have d2 := (unhide F2).nd.cell 2
  have d3 := (unhide F2).nd.cell 3
  simp at d0 d1 d2 d3
  have c0 := (unhide F2).c0
  have c6 := (unhide F2).c6
  have c7 := (unhide F2).c7
  have c8 := (unhide F2).c8
  have ci_ := (unhide F2).ci
  have ct := (unhide F2).ct
  go_wp2
  exact unhide hQ _ _ _ _ _ _ _ _ _ _ _ _ _ _ _ _ _ _ _ _ _ _ _ _ _ _ _ _ _ _ _ _ _ _ _ _ _ _ _ _ _ _ _ _ _ _ _ _ _ _ _ _ _ _ _ _ _ _ _ _ _ _ _ _ _ _ _ _ _ _ _ _ _ _ _ _ _ _ _ _ _ _ _ _ _ _ _ _ _ _ _ _ _ _ _ _ _ _ _ _ _ _ _ _ _ _ _ _ _ _ _ _ _ _ _ _ _ _ _ _ _ _ _ _ _ _ _ _ _ _ _ _ _ (unhide Q2)

set_option maxHeartbeats 8000000 in
set_option maxRecDepth 100000 in
theorem lk_1bf (V0 : World) (B g ib n ci i top done : Nat) (T id reach got : Int) (F0 : Hid (LkR V0 B g ib n ci i top done 1 T id 1 T reach got)) (h8 : n ≤ 8) (hi : i < n) (ht : top < n) (hne : i ≠ top) (hdn : n ≤ done) (hr : 1 < reach) (hq : reach / 2 < n)
    (u0 u3 u4 u5 u6 u11 u12 u13 u14 u15 u16 u17 u18 u19 u20 u21 u22 u23 u24 u25 u26 u27 u28 u29 u30 u31 u32 u33 u34 u35 u36 u37 u38 u39 u40 u41 u42 u43 u44 u45 u46 u47 u48 u49 u50 u51 u52 u53 u54 u55 u56 u57 u58 u59 u60 u61 u62 u63 u64 u65 u66 u67 u68 u69 u70 u71 u72 u73 u74 u75 u76 u77 u78 u79 u80 u81 u82 u83 u84 u85 u86 u87 u88 u89 u90 u91 u92 u93 u94 u95 u96 u97 u98 u99 u100 u101 u102 u103 u104 u105 u106 u107 u108 u109 u110 u111 u112 u113 u114 u115 u116 u117 u118 u119 u120 u121 u122 u123 u124 u125 u126 u127 u128 u129 u130 u131 u132 u133 u134 u135 u136 u137 u138 u139 u140 u141 u142 u143 u144 u145 u146 u147 u148 u149 u150 u151 u152 u153 u154 u155 u156 u157 u158 u159 u160 u161 u162 u163 u164 u165 u166 u167 u168 u169 u170 u171 u172 u173 u174 u175 u176 u177 u178 u179 u180 u181 u182 u183 u184 u185 u186 u187 u188 u189 u190 u191 u192 u193 u194 u195 u196 u197 u198 u199 u200 u201 u202 u203 u204 u205 u206 u207 u208 u209 u210 u211 u212 u213 u214 u215 u216 u217 u218 u219 u220 u221 u222 u223 u224 u225 u226 u227 u228 u229 u230 u231 u232 u233 u234 u235 u236 u237 u238 u239 u240 u241 u242 u243 u244 u245 u246 u247 u248 u249 u250 u251 u252 u253 u254 u255 u256 u257 u258 u259 u260 u261 u262 u263 u264 : Value) (Q : Exit → Act → World → Prop) (hQ : Hid (∀ (y11 y12 y36 y37 y38 y39 y40 y41 y42 y43 y44 y45 y46 y47 y48 y49 y50 y51 y52 y53 y54 y55 y56 y57 y58 y59 y60 y61 y62 y63 y64 y65 y66 y67 y68 y69 y70 y71 y72 y73 y74 y75 y76 y77 y78 y79 y80 y81 y82 y83 y84 y85 y86 y87 y88 y89 y90 y91 y92 y93 y94 y95 y96 y97 y98 y99 y100 y101 y102 y103 y104 y105 y106 y107 y108 y109 y110 y111 y112 y113 y114 y115 y116 y117 y118 y119 y120 y121 y122 y123 y124 y125 y126 y127 y128 y129 y130 y131 y132 y133 y134 y135 y136 y137 y138 y139 y140 y141 y142 y143 y144 y145 y146 y147 y148 y149 y150 y151 y152 y153 y154 y155 y156 y157 y158 y159 y160 y161 y162 y163 y164 y165 : Value) wx, Quiet V0 wx → Q .normal ⟨(u0 :: Value.pointer (some ⟨g, 0, none⟩) :: Value.bool false :: u3 :: u4 :: u5 :: u6 :: Value.int .i64 (n : Int) :: Value.int .i64 (i : Int) :: Value.pointer (some ⟨B, 0, none⟩) :: Value.int .i64 0 :: y11 :: y12 :: u13 :: u14 :: u15 :: u16 :: u17 :: u18 :: u19 :: u20 :: u21 :: u22 :: u23 :: u24 :: u25 :: u26 :: u27 :: u28 :: u29 :: u30 :: u31 :: u32 :: u33 :: u34 :: u35 :: y36 :: y37 :: y38 :: y39 :: y40 :: y41 :: y42 :: y43 :: y44 :: y45 :: y46 :: y47 :: y48 :: y49 :: y50 :: y51 :: y52 :: y53 :: y54 :: y55 :: y56 :: y57 :: y58 :: y59 :: y60 :: y61 :: y62 :: y63 :: y64 :: y65 :: y66 :: y67 :: y68 :: y69 :: y70 :: y71 :: y72 :: y73 :: y74 :: y75 :: y76 :: y77 :: y78 :: y79 :: y80 :: y81 :: y82 :: y83 :: y84 :: y85 :: y86 :: y87 :: y88 :: y89 :: y90 :: y91 :: y92 :: y93 :: y94 :: y95 :: y96 :: y97 :: y98 :: y99 :: y100 :: y101 :: y102 :: y103 :: y104 :: y105 :: y106 :: y107 :: y108 :: y109 :: y110 :: y111 :: y112 :: y113 :: y114 :: y115 :: y116 :: y117 :: y118 :: y119 :: y120 :: y121 :: y122 :: y123 :: y124 :: y125 :: y126 :: y127 :: y128 :: y129 :: y130 :: y131 :: y132 :: y133 :: y134 :: y135 :: y136 :: y137 :: y138 :: y139 :: y140 :: y141 :: y142 :: y143 :: y144 :: y145 :: y146 :: y147 :: y148 :: y149 :: y150 :: y151 :: y152 :: y153 :: y154 :: y155 :: y156 :: y157 :: y158 :: y159 :: y160 :: y161 :: y162 :: y163 :: y164 :: y165 :: u166 :: u167 :: u168 :: u169 :: u170 :: u171 :: u172 :: u173 :: u174 :: u175 :: u176 :: u177 :: u178 :: u179 :: u180 :: u181 :: u182 :: u183 :: u184 :: u185 :: u186 :: u187 :: u188 :: u189 :: u190 :: u191 :: u192 :: u193 :: u194 :: u195 :: u196 :: u197 :: u198 :: u199 :: u200 :: u201 :: u202 :: u203 :: u204 :: u205 :: u206 :: u207 :: u208 :: u209 :: u210 :: u211 :: u212 :: u213 :: u214 :: u215 :: u216 :: u217 :: u218 :: u219 :: u220 :: u221 :: u222 :: u223 :: u224 :: u225 :: u226 :: u227 :: u228 :: u229 :: u230 :: u231 :: u232 :: u233 :: u234 :: u235 :: u236 :: u237 :: u238 :: u239 :: u240 :: u241 :: u242 :: u243 :: u244 :: u245 :: u246 :: u247 :: u248 :: u249 :: u250 :: u251 :: u252 :: u253 :: u254 :: u255 :: u256 :: u257 :: u258 :: u259 :: u260 :: u261 :: u262 :: u263 :: u264 :: ([] : List Value)).toArray, []⟩ wx)) :
    Code.wp Try.prog round19 Q ⟨(u0 :: Value.pointer (some ⟨g, 0, none⟩) :: Value.bool false :: u3 :: u4 :: u5 :: u6 :: Value.int .i64 (n : Int) :: Value.int .i64 (i : Int) :: Value.pointer (some ⟨B, 0, none⟩) :: Value.int .i64 0 :: u11 :: u12 :: u13 :: u14 :: u15 :: u16 :: u17 :: u18 :: u19 :: u20 :: u21 :: u22 :: u23 :: u24 :: u25 :: u26 :: u27 :: u28 :: u29 :: u30 :: u31 :: u32 :: u33 :: u34 :: u35 :: u36 :: u37 :: u38 :: u39 :: u40 :: u41 :: u42 :: u43 :: u44 :: u45 :: u46 :: u47 :: u48 :: u49 :: u50 :: u51 :: u52 :: u53 :: u54 :: u55 :: u56 :: u57 :: u58 :: u59 :: u60 :: u61 :: u62 :: u63 :: u64 :: u65 :: u66 :: u67 :: u68 :: u69 :: u70 :: u71 :: u72 :: u73 :: u74 :: u75 :: u76 :: u77 :: u78 :: u79 :: u80 :: u81 :: u82 :: u83 :: u84 :: u85 :: u86 :: u87 :: u88 :: u89 :: u90 :: u91 :: u92 :: u93 :: u94 :: u95 :: u96 :: u97 :: u98 :: u99 :: u100 :: u101 :: u102 :: u103 :: u104 :: u105 :: u106 :: u107 :: u108 :: u109 :: u110 :: u111 :: u112 :: u113 :: u114 :: u115 :: u116 :: u117 :: u118 :: u119 :: u120 :: u121 :: u122 :: u123 :: u124 :: u125 :: u126 :: u127 :: u128 :: u129 :: u130 :: u131 :: u132 :: u133 :: u134 :: u135 :: u136 :: u137 :: u138 :: u139 :: u140 :: u141 :: u142 :: u143 :: u144 :: u145 :: u146 :: u147 :: u148 :: u149 :: u150 :: u151 :: u152 :: u153 :: u154 :: u155 :: u156 :: u157 :: u158 :: u159 :: u160 :: u161 :: u162 :: u163 :: u164 :: u165 :: u166 :: u167 :: u168 :: u169 :: u170 :: u171 :: u172 :: u173 :: u174 :: u175 :: u176 :: u177 :: u178 :: u179 :: u180 :: u181 :: u182 :: u183 :: u184 :: u185 :: u186 :: u187 :: u188 :: u189 :: u190 :: u191 :: u192 :: u193 :: u194 :: u195 :: u196 :: u197 :: u198 :: u199 :: u200 :: u201 :: u202 :: u203 :: u204 :: u205 :: u206 :: u207 :: u208 :: u209 :: u210 :: u211 :: u212 :: u213 :: u214 :: u215 :: u216 :: u217 :: u218 :: u219 :: u220 :: u221 :: u222 :: u223 :: u224 :: u225 :: u226 :: u227 :: u228 :: u229 :: u230 :: u231 :: u232 :: u233 :: u234 :: u235 :: u236 :: u237 :: u238 :: u239 :: u240 :: u241 :: u242 :: u243 :: u244 :: u245 :: u246 :: u247 :: u248 :: u249 :: u250 :: u251 :: u252 :: u253 :: u254 :: u255 :: u256 :: u257 :: u258 :: u259 :: u260 :: u261 :: u262 :: u263 :: u264 :: ([] : List Value)).toArray, []⟩ V0 := by
  conv => arg 2; whnf
  have Q0 : Hid (Quiet V0 V0) := Quiet.refl _
  have i0 : (0 : Int) ≤ (i : Int) := by omega
  have i1 : (i : Int) < (n : Int) := by omega
  have t0 : (0 : Int) ≤ (top : Int) := by omega
  have t1 : (top : Int) < (n : Int) := by omega
  have eid : (id == id) = true := by simp
  have eid2 : (id != id) = false := by simp
  have eT : (T == T) = true := by simp
  have eT2 : (T != T) = false := by simp
  have ne1 : ((i : Int) == (top : Int)) = false := by simp; omega
  have ne2 : ((i : Int) != (top : Int)) = true := by rw [bne, ne1]; rfl
  have dn : decide ((done : Int) < (n : Int)) = false := by simp; omega
  have dn' : ¬ (done : Int) < (n : Int) := by omega
  have r1 : decide (1 < reach) = true := by simp; omega
  have hdv : reach.tdiv 2 = reach / 2 := Int.tdiv_eq_ediv_of_nonneg (by omega)
  have r2 : decide ((n : Int) ≤ reach / 2) = false := by simp; omega
  have r2' : ¬ (n : Int) ≤ reach / 2 := by omega
  have d0 := (unhide F0).nd.cell 0
  have d1 := (unhide F0).nd.cell 1
  have d2 := (unhide F0).nd.cell 2
  have d3 := (unhide F0).nd.cell 3
  simp at d0 d1 d2 d3
  have c0 := (unhide F0).c0
  have c6 := (unhide F0).c6
  have c7 := (unhide F0).c7
  have c8 := (unhide F0).c8
  have ci_ := (unhide F0).ci
  have ct := (unhide F0).ct
  go_wp2
  go_big_quiet (fail)
  have qd : Quiet V0 (V0.drewN nq) := (Chg.refl _ _).drewN nq
  have F1 := hide ((unhide F0).quiet qd)
  have Q1 := hide (Quiet.trans (unhide Q0) qd)
  clear d0 d1 d2 d3 c0 c6 c7 c8 ci_ ct F0 Q0
  generalize V0.drewN nq = V1 at *
  clear qd nq
  have d0 := (unhide F1).nd.cell 0
  have d1 := (unhide F1).nd.cell 1
  have d2 := (unhide F1).nd.cell 2
  have d3 := (unhide F1).nd.cell 3
  simp at d0 d1 d2 d3
  have c0 := (unhide F1).c0
  have c6 := (unhide F1).c6
  have c7 := (unhide F1).c7
  have c8 := (unhide F1).c8
  have ci_ := (unhide F1).ci
  have ct := (unhide F1).ct
  go_wp2
  go_big_quiet (fail)
  have qd : Quiet V1 (V1.drewN nq) := (Chg.refl _ _).drewN nq
  have F2 := hide ((unhide F1).quiet qd)
  have Q2 := hide (Quiet.trans (unhide Q1) qd)
  clear d0 d1 d2 d3 c0 c6 c7 c8 ci_ ct F1 Q1
  generalize V1.drewN nq = V2 at *
  clear qd nq
  have d0 := (unhide F2).nd.cell 0
  have d1 := (unhide F2).nd.cell 1
  have d2 := (unhide F2).nd.cell 2
  have d3 := (unhide F2).nd.cell 3
  simp at d0 d1 d2 d3
  have c0 := (unhide F2).c0
  have c6 := (unhide F2).c6
  have c7 := (unhide F2).c7
  have c8 := (unhide F2).c8
  have ci_ := (unhide F2).ci
  have ct := (unhide F2).ct
  go_wp2
  exact unhide hQ _ _ _ _ _ _ _ _ _ _ _ _ _ _ _ _ _ _ _ _ _ _ _ _ _ _ _ _ _ _ _ _ _ _ _ _ _ _ _ _ _ _ _ _ _ _ _ _ _ _ _ _ _ _ _ _ _ _ _ _ _ _ _ _ _ _ _ _ _ _ _ _ _ _ _ _ _ _ _ _ _ _ _ _ _ _ _ _ _ _ _ _ _ _ _ _ _ _ _ _ _ _ _ _ _ _ _ _ _ _ _ _ _ _ _ _ _ _ _ _ _ _ _ _ _ _ _ _ _ _ _ _ _ (unhide Q2)

end Go.Proofs.Qxb6500369a
