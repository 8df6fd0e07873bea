/-
  369 Keeps: Looked behind its first loop. (gen9lkt.py)
-/
import Derived.Test.Qxb6500369aKLookR
namespace Go.Proofs.Qxb6500369a
open Go.RowKit Go.Qx
set_option linter.unusedSimpArgs false
set_option linter.unusedVariables false

theorem tri_wrap (n : Nat) (h8 : n ≤ 8) : ∃ m : Int, (n : Int) * ((n : Int) + 1) = m ∧ 0 ≤ m ∧ m ≤ 72 ∧ m.tdiv 2 = (n : Int) * (n + 1) / 2 := by
  rcases (by omega : n = 0 ∨ n = 1 ∨ n = 2 ∨ n = 3 ∨ n = 4 ∨ n = 5 ∨ n = 6 ∨ n = 7 ∨ n = 8) with rfl | rfl | rfl | rfl | rfl | rfl | rfl | rfl | rfl
  all_goals exact ⟨_, rfl, by simp, by simp, by simp⟩

set_option maxHeartbeats 8000000 in
set_option maxRecDepth 100000 in
theorem tail19_any (V : World) (x a b g n : Nat) (se : Bool) (mode : Int) (ns : List N5) (ord : List Int) (G : Gh) (vi vw : Value) (R : Rep V x a b mode ns ord) (I : Inv mode ns ord) (H : GhR V g vi vw G) (hn : ns.length = n) (hmo : G.mode = mode)
    (hdry : se = true → G.wire = [] ∧ (G.worst = true → G.s1 = n * (n + 1) / 2 ∧ G.s3 = n))
    (u3 u4 u5 u6 u8 u9 u10 u11 u12 u13 u14 u15 u16 u17 u18 u19 u20 u21 u22 u23 u24 u25 u26 u27 u28 u29 u30 u31 u32 u33 u34 u35 u36 u37 u38 u39 u40 u41 u42 u43 u44 u45 u46 u47 u48 u49 u50 u51 u52 u53 u54 u55 u56 u57 u58 u59 u60 u61 u62 u63 u64 u65 u66 u67 u68 u69 u70 u71 u72 u73 u74 u75 u76 u77 u78 u79 u80 u81 u82 u83 u84 u85 u86 u87 u88 u89 u90 u91 u92 u93 u94 u95 u96 u97 u98 u99 u100 u101 u102 u103 u104 u105 u106 u107 u108 u109 u110 u111 u112 u113 u114 u115 u116 u117 u118 u119 u120 u121 u122 u123 u124 u125 u126 u127 u128 u129 u130 u131 u132 u133 u134 u135 u136 u137 u138 u139 u140 u141 u142 u143 u144 u145 u146 u147 u148 u149 u150 u151 u152 u153 u154 u155 u156 u157 u158 u159 u160 u161 u162 u163 u164 u165 u166 u167 u168 u169 u170 u171 u172 u173 u174 u175 u176 u177 u178 u179 u180 u181 u182 u183 u184 u185 u186 u187 u188 u189 u190 u191 u192 u193 u194 u195 u196 u197 u198 u199 u200 u201 u202 u203 u204 u205 u206 u207 u208 u209 u210 u211 u212 u213 u214 u215 u216 u217 u218 u219 u220 u221 u222 u223 u224 u225 u226 u227 u228 u229 u230 u231 u232 u233 u234 u235 u236 u237 u238 u239 u240 u241 u242 u243 u244 u245 u246 u247 u248 u249 u250 u251 u252 u253 u254 u255 u256 u257 u258 u259 u260 u261 u262 u263 u264 : Value) (Q : Ending → World → Prop) (hQ : ∀ wx, Quiet V wx → Q (.returned (.bool true)) wx) :
    Code.wp Try.prog tail19 (bodyPost Try.prog Try.f19 Q) ⟨(Value.pointer (some ⟨x, 0, none⟩) :: Value.pointer (some ⟨g, 0, none⟩) :: Value.bool se :: u3 :: u4 :: u5 :: u6 :: Value.int .i64 (n : Int) :: u8 :: u9 :: u10 :: u11 :: u12 :: u13 :: u14 :: u15 :: u16 :: u17 :: u18 :: u19 :: u20 :: u21 :: u22 :: u23 :: u24 :: u25 :: u26 :: u27 :: u28 :: u29 :: u30 :: u31 :: u32 :: u33 :: u34 :: u35 :: u36 :: u37 :: u38 :: u39 :: u40 :: u41 :: u42 :: u43 :: u44 :: u45 :: u46 :: u47 :: u48 :: u49 :: u50 :: u51 :: u52 :: u53 :: u54 :: u55 :: u56 :: u57 :: u58 :: u59 :: u60 :: u61 :: u62 :: u63 :: u64 :: u65 :: u66 :: u67 :: u68 :: u69 :: u70 :: u71 :: u72 :: u73 :: u74 :: u75 :: u76 :: u77 :: u78 :: u79 :: u80 :: u81 :: u82 :: u83 :: u84 :: u85 :: u86 :: u87 :: u88 :: u89 :: u90 :: u91 :: u92 :: u93 :: u94 :: u95 :: u96 :: u97 :: u98 :: u99 :: u100 :: u101 :: u102 :: u103 :: u104 :: u105 :: u106 :: u107 :: u108 :: u109 :: u110 :: u111 :: u112 :: u113 :: u114 :: u115 :: u116 :: u117 :: u118 :: u119 :: u120 :: u121 :: u122 :: u123 :: u124 :: u125 :: u126 :: u127 :: u128 :: u129 :: u130 :: u131 :: u132 :: u133 :: u134 :: u135 :: u136 :: u137 :: u138 :: u139 :: u140 :: u141 :: u142 :: u143 :: u144 :: u145 :: u146 :: u147 :: u148 :: u149 :: u150 :: u151 :: u152 :: u153 :: u154 :: u155 :: u156 :: u157 :: u158 :: u159 :: u160 :: u161 :: u162 :: u163 :: u164 :: u165 :: u166 :: u167 :: u168 :: u169 :: u170 :: u171 :: u172 :: u173 :: u174 :: u175 :: u176 :: u177 :: u178 :: u179 :: u180 :: u181 :: u182 :: u183 :: u184 :: u185 :: u186 :: u187 :: u188 :: u189 :: u190 :: u191 :: u192 :: u193 :: u194 :: u195 :: u196 :: u197 :: u198 :: u199 :: u200 :: u201 :: u202 :: u203 :: u204 :: u205 :: u206 :: u207 :: u208 :: u209 :: u210 :: u211 :: u212 :: u213 :: u214 :: u215 :: u216 :: u217 :: u218 :: u219 :: u220 :: u221 :: u222 :: u223 :: u224 :: u225 :: u226 :: u227 :: u228 :: u229 :: u230 :: u231 :: u232 :: u233 :: u234 :: u235 :: u236 :: u237 :: u238 :: u239 :: u240 :: u241 :: u242 :: u243 :: u244 :: u245 :: u246 :: u247 :: u248 :: u249 :: u250 :: u251 :: u252 :: u253 :: u254 :: u255 :: u256 :: u257 :: u258 :: u259 :: u260 :: u261 :: u262 :: u263 :: u264 :: ([] : List Value)).toArray, []⟩ V := by
  conv => arg 2; whnf
  obtain ⟨aw, cw, rfl⟩ := H.rw.shape
  have h8 := R.n8
  have hst := I.stgot
  have hm64 := I.mode64
  have hin := I.in5
  have hok := I.ok
  have hnode := fun (W : World) (q : Quiet V W) (i : Int) => node_any W x a b mode ns ord (R.quiet q) hst i
  have hshow := fun (W : World) (q : Quiet V W) => show_any W x a b mode ns ord (R.quiet q) hst hm64 hin
  have hnn : nodeP ns (n : Int) = (z5, 5) := by unfold nodeP; rw [if_pos (by omega)]
  have h1 := hide (hnode V (Quiet.refl _) (n : Int))
  rw [hnn] at h1
  unfold mcV z5 at h1
  dsimp only at h1
  have hnodeH := hide hnode
  have hshowH := hide hshow
  have HH := hide H
  have hQH := hide hQ
  have hil := itoa_length mode
  have hdryH := hide hdry
  have hokH := hide hok
  have hinH := hide hin
  have h8n : n ≤ 8 := by omega
  have hnH := hide hn
  have hmoH := hide hmo
  clear R I H hnode hshow hst hin hok hnn hQ hdry hn hmo h8
  unfold ptr at h1
  go_wp2_with fail
  refine (unhide h1).mono ?_
  clear h1
  rintro e w1 ⟨rfl, q1⟩
  have al1 : Quiet w1 (w1.alloc (.cells #[.int .i64 0, .int .i64 0, .int .i64 0, .int .i64 0, .int .i64 0] 28)) := (Chg.refl _ _).alloc _
  have Q1 := hide (Quiet.trans q1 al1)
  have H1 := (unhide HH).of_chg (unhide Q1) (fun _ _ f => f)
  have c7 : (w1.alloc (.cells #[.int .i64 0, .int .i64 0, .int .i64 0, .int .i64 0, .int .i64 0] 28)).cell? ⟨g, 7, none⟩ = some (.int .i64 mode) := by
    have := H1.blk.cell 7
    rw [← unhide hmoH]
    simpa [gC] using this
  have hit := hide (itoa_any mode (w1.alloc (.cells #[.int .i64 0, .int .i64 0, .int .i64 0, .int .i64 0, .int .i64 0] 28)) hm64.1 hm64.2)
  clear H1 al1 q1
  go_wp2_with fail
  refine (unhide hit).mono ?_
  clear hit
  rintro e w2 ⟨rfl, q2⟩
  have Q2 := hide (Quiet.trans (unhide Q1) q2)
  clear q2 Q1 c7
  go_wp2
  go_loopw [15, 16] (fun s i wr => ∃ j : Nat, j ≤ n ∧ i = .int .i64 j ∧ s = .string (str (showTo mode ns j)) ∧ (showTo mode ns j).length ≤ 20 + j * 105 ∧ Quiet V wr) (fun _ i _ => 9 - (intOf i).toNat)
  case atStart => exact ⟨0, Nat.zero_le _, rfl, rfl, by simpa [showTo] using hil, unhide Q2⟩
  case round =>
    clear Q2
    obtain ⟨j, hj, rfl, rfl, hl, hq⟩ := hrel
    have k0 : (0 : Int) ≤ (j : Int) := by omega
    by_cases hlt : j < n
    · have k1 : (j : Int) < (n : Int) := by omega
      have hjl : j < ns.length := by rw [unhide hnH]; exact hlt
      have hst2 := showTo_succ mode ns j hjl
      have hmem := List.getElem_mem hjl
      have hic := unhide hinH ns[j] hmem
      have hk5 := unhide hokH ns[j] hmem
      have htl := textP_length ns[j]
      have hno := hide (unhide hnodeH wr hq (j : Int))
      have hnj : nodeP ns (j : Int) = (ns[j], 0) := by
        unfold nodeP
        rw [if_neg (by omega)]
        congr 1
        rw [List.getD_eq_getElem?_getD, show ((j : Int)).toNat = j by omega, List.getElem?_eq_getElem hjl]; rfl
      rw [hnj] at hno
      generalize ns[j] = c at *
      have hnt := fun V => nodeText_any V c hic
      have r1 : decide (c.reach < 0) = false := by have := hk5.reach; simp; omega
      have r2 : decide (8 < c.reach) = false := by have := hk5.reach; simp; omega
      have g1 : decide (c.got < 0) = false := by have := hk5.got; simp; omega
      have g2 : decide (1 < c.got) = false := by have := hk5.got; simp; omega
      have s1 : decide (c.st < 0) = false := by have := hk5.st; simp; omega
      have s2 : decide (2 < c.st) = false := by have := hk5.st; simp; omega
      obtain ⟨cid, cst, cle, cre, cgo⟩ := c
      unfold mcV at hnt hno
      dsimp only at hnt hno r1 r2 g1 g2 s1 s2
      have hstH := hide hst2
      have hqH := hide hq
      have hlH := hide (And.intro hl htl)
      clear hst2 hq hl htl hmem hic hk5 hnj hjl
      have hntH := hide hnt
      clear hnt
      unfold ptr at hno
      go_wp2_with fail
      refine (unhide hno).mono ?_
      clear hno
      rintro e w3 ⟨rfl, q3⟩
      have al3 : Quiet w3 (w3.alloc (.cells #[.int .i64 cid, .int .i64 cst, .int .i64 cle, .int .i64 cre, .int .i64 cgo] 28)) := (Chg.refl _ _).alloc _
      have Q3 := hide (Quiet.trans (unhide hqH) (Quiet.trans q3 al3))
      have hnt3 := hide (unhide hntH (w3.alloc (.cells #[.int .i64 cid, .int .i64 cst, .int .i64 cle, .int .i64 cre, .int .i64 cgo] 28)))
      clear q3 al3 hqH hntH
      go_wp2_with fail
      refine (unhide hnt3).mono ?_
      clear hnt3
      rintro e w4 ⟨rfl, q4⟩
      have Q4 := hide (Quiet.trans (unhide Q3) q4)
      have hT : Hid (str (showTo mode ns (j + 1)) = str (showTo mode ns j) ++ ⟨#[124]⟩ ++ str (textP ⟨cid, cst, cle, cre, cgo⟩)) := by
        show _ = _
        rw [show (⟨#[124]⟩ : ByteArray) = str [124] from rfl, unhide hstH]
        simp only [str_append]
      have hl2 : Hid ((showTo mode ns (j + 1)).length ≤ 20 + (j + 1) * 105) := by
        show _ ≤ _
        have := unhide hlH
        rw [unhide hstH]; simp; omega
      have z1 : (str (showTo mode ns j)).size ≤ 2000 := by have := unhide hlH; rw [str_size]; omega
      have z2 : (str (textP ⟨cid, cst, cle, cre, cgo⟩)).size ≤ 2000 := by have := unhide hlH; rw [str_size]; omega
      clear hlH hstH q4 Q3 r1 r2 g1 g2 s1 s2
      generalize str (showTo mode ns j) = t1 at *
      generalize str (textP ⟨cid, cst, cle, cre, cgo⟩) = t2 at *
      go_wp2
      go_roundw
      case rel => exact ⟨j + 1, by omega, by go_num, by rw [unhide hT], unhide hl2, unhide Q4⟩
      case measure => simp [intOf]; omega
    · have k1 : ¬ (j : Int) < (n : Int) := by omega
      have hjn : j = ns.length := by rw [unhide hnH]; omega
      have hsh := hide (unhide hshowH wr hq)
      rw [show showP mode ns = showTo mode ns j by unfold showP; rw [← hjn]] at hsh
      unfold ptr at hsh
      have hqH := hide hq
      clear hjn hq hl
      generalize str (showTo mode ns j) = SS at *
      cases se with
      | false =>
        go_wp2_with fail
        refine (unhide hsh).mono ?_
        clear hsh
        rintro e w5 ⟨rfl, q5⟩
        have hSS : (SS.toList == SS.toList) = true := by simp
        have hSS2 : (SS.toList != SS.toList) = false := by simp
        have Q5 := hide (Quiet.trans (unhide hqH) q5)
        have H5 := (unhide HH).of_chg (unhide Q5) (fun _ _ f => f)
        have e1 : w5.cell? ⟨g, 1, none⟩ = some (.slice aw G.wire.length cw) := H5.blk.cell 1
        have e3 : w5.cell? ⟨g, 3, none⟩ = some (.int .i64 G.s1) := H5.blk.cell 3
        have e5 : w5.cell? ⟨g, 5, none⟩ = some (.int .i64 G.s3) := H5.blk.cell 5
        have e9 : w5.cell? ⟨g, 9, none⟩ = some (.bool G.worst) := H5.blk.cell 9
        have hg5 := H5.blk.lt
        clear H5 q5
        have fin := hide (unhide hQH w5 (unhide Q5))
        go_wp2
        exact unhide fin
      | true =>
        go_wp2_with fail
        refine (unhide hsh).mono ?_
        clear hsh
        rintro e w5 ⟨rfl, q5⟩
        have hSS : (SS.toList == SS.toList) = true := by simp
        have hSS2 : (SS.toList != SS.toList) = false := by simp
        have Q5 := hide (Quiet.trans (unhide hqH) q5)
        have H5 := (unhide HH).of_chg (unhide Q5) (fun _ _ f => f)
        have e1 : w5.cell? ⟨g, 1, none⟩ = some (.slice aw G.wire.length cw) := H5.blk.cell 1
        have e3 : w5.cell? ⟨g, 3, none⟩ = some (.int .i64 G.s1) := H5.blk.cell 3
        have e5 : w5.cell? ⟨g, 5, none⟩ = some (.int .i64 G.s3) := H5.blk.cell 5
        have e9 : w5.cell? ⟨g, 9, none⟩ = some (.bool G.worst) := H5.blk.cell 9
        have hg5 := H5.blk.lt
        clear H5 q5
        have fin := hide (unhide hQH w5 (unhide Q5))
        obtain ⟨hw0, hwst⟩ := unhide hdryH (by first | rfl | trivial)
        have hl0 : G.wire.length = 0 := by rw [hw0]; rfl
        rw [hl0] at e1
        cases hwo : G.worst with
        | false =>
          rw [hwo] at e9
          clear hwst
          go_wp2
          exact unhide fin
        | true =>
          rw [hwo] at e9
          obtain ⟨x1, x3⟩ := hwst hwo
          rw [x1] at e3
          rw [x3] at e5
          clear x1 x3 hwst hdryH
          rcases (by omega : n = 0 ∨ n = 1 ∨ n = 2 ∨ n = 3 ∨ n = 4 ∨ n = 5 ∨ n = 6 ∨ n = 7 ∨ n = 8) with rfl | rfl | rfl | rfl | rfl | rfl | rfl | rfl | rfl
          all_goals
            simp at e3 e5
            go_wp2
            exact unhide fin
end Go.Proofs.Qxb6500369a
